/- The walk of WireBack. -/
import Derived.Test.YtijknmocidggbaaDoorWrWrites
import Derived.Test.YtijknmocidggbaaDoorWrP
namespace Go.Proofs.YtijknmocidggbaaDoor
open Go.RowKit

theorem eq_back (v : VM) (tl : List UInt8) (hn : InInt v.n) (hl : ∀ x ∈ v.l, InInt x) (hf : v.Fits) : v.eq ⟨v.enc ++ tl, false⟩ = (true, ⟨tl, false⟩) := by
  have hk := v.knd_in
  have h1 := hf.s
  have h2 := hf.l
  have h3 := hf.t
  have h4 := hf.tt
  have ht : ∀ x ∈ v.t, InInt x.length := fun x hx => by
    have := tot_le hx
    exact ⟨by omega, by omega⟩
  unfold VM.eq VM.enc
  by_cases k0 : v.knd = 0
  · have := numV_in hn
    simp only [k0, if_true]
    rw [rInt_back this.1 this.2]
    simp
  · simp only [k0, if_false]
    by_cases k1 : v.knd = 1
    · simp only [k1, if_true]
      rw [rInt_back hn hn.1]
      simp
    · simp only [k1, if_false]
      by_cases k2 : v.knd = 2
      · simp only [k2, if_true]
        rw [rText_back v.s tl ⟨by omega, by omega⟩]
        simp
      · simp only [k2, if_false]
        by_cases k3 : v.knd = 3
        · simp only [k3, if_true]
          rw [rItems_back (rNum 59 (-9223372036854775808)) encI v.l tl ⟨by omega, by omega⟩ (fun x hx tl => rInt_back (hl x hx) (hl x hx).1 tl)]
          simp
        · simp only [k3, if_false]
          rw [rItems_back rText encT v.t tl ⟨by omega, by omega⟩ (fun x hx tl => rText_back x tl (ht x hx))]
          simp
theorem enc_le (v : VM) (hn : InInt v.n) (hl : ∀ x ∈ v.l, InInt x) (hf : v.Fits) : v.enc.length ≤ 10000000000 := by
  have h1 := hf.s
  have h2 := hf.l
  have h3 := hf.t
  have h4 := hf.tt
  unfold VM.enc
  have hit : ∀ m : Nat, m ≤ 1000000 → (Lib.itoa m).length ≤ 21 := fun m hm => Lib.itoa_length_le m (by omega) (by omega)
  split
  · have := encI_len _ (numV_in hn).1; omega
  · split
    · have := encI_len _ hn; omega
    · split
      · have := encT_len v.s ⟨by omega, by omega⟩; omega
      · split
        · have a := hit _ h2
          have b := flat_bound encI 22 v.l (fun x hx => encI_len x (hl x hx))
          simp only [encL, List.length_append, List.length_cons, List.length_nil]
          omega
        · have a := hit _ h3
          have b := flat_tot v.t (fun x hx => by have := tot_le hx; exact ⟨by omega, by omega⟩)
          simp only [encL, List.length_append, List.length_cons, List.length_nil]
          omega
theorem encs_le (xs : List VM) (hn : ∀ v ∈ xs, v.enc.length ≤ 10000000000) : (xs.flatMap VM.enc).length ≤ xs.length * 10000000000 := flat_bound VM.enc _ xs hn
theorem VM.Ok.at_ {w w' : World} {B : Nat} {v : VM} (h : v.Ok w B) (hb : Below B w w') : v.Ok w' B :=
  ⟨h.k, h.n, h.s, h.rl.below hb, h.li, h.ll, h.rt.below hb, h.ti, h.tl⟩
set_option maxRecDepth 100000 in
set_option maxHeartbeats 4000000 in
theorem back_any (xs : List VM) (A : Option Addr) (c : Nat) (tail : List UInt8) (w : World) (hV : Vs w.heap.size w) (hr : RdL 5 VM.cs w w.heap.size A xs) (hok : ∀ x ∈ xs, x.Ok w w.heap.size) (hn : xs.length ≤ 9223372036854775807) :
    Calls Tryd.prog 8 #[.slice A xs.length c, .string (bs tail)] w fun e w' => e = .returned (.bool true) ∧ Below w.heap.size w w' := by
  have HV := Lib.hid hV
  have HR := Lib.hid hr
  have HOk := Lib.hid hok
  clear hV hr hok
  have hsz : (bs tail).size = tail.length := bs_size tail
  go_enter Tryd.func8, Tryd.ntmps8
  go_wp2_with fail
  refine (small_any _ HV.out).mono ?_
  rintro e w1 ⟨rfl, hb1⟩
  have HB1 := Lib.hid hb1
  clear hb1
  go_wp2_with fail
  refine (few_any xs A c w1 (HR.out.now HB1.out) (fun x hx => (HOk.out x hx).now HB1.out) hn).mono ?_
  rintro e w2 ⟨rfl, hb2⟩
  have HB2 := Lib.hid (HB1.out.trans (hb2.mono HB1.out.size))
  clear hb2 HB1
  cases hf : fewV xs with
  | false =>
    clear hf
    go_wp2_with fail
    go_ret
    exact ⟨rfl, HB2.out⟩
  | true =>
    have hlen20 : xs.length ≤ 20 := by
      unfold fewV at hf
      simp only [Bool.and_eq_true, decide_eq_true_eq] at hf
      exact hf.1
    have HF := Lib.hid (fun v hv => few_fits hf (v := v) hv)
    clear hf
    by_cases h400 : (400 : Int) < tail.length
    · go_wp2_with fail
      go_ret
      exact ⟨rfl, HB2.out⟩
    · have HEl := Lib.hid (fun v (hv : v ∈ xs) => enc_le v (HOk.out v hv).n (HOk.out v hv).li (HF.out v hv))
      have hall : (xs.flatMap VM.enc).length ≤ 200000000000 := by
        have := encs_le xs HEl.out
        omega
      go_wp2_with fail
      go_loopw [6, 7] (fun s i wr => ∃ k : Nat, k ≤ xs.length ∧ i = .int .i64 k ∧ s = .string (bs ((xs.take k).flatMap VM.enc)) ∧ Below w.heap.size w wr) (fun _ i _ => xs.length - (intOf i).toNat)
      case atStart => exact ⟨0, Nat.zero_le _, rfl, rfl, HB2.out⟩
      case round =>
        obtain ⟨k, hk, rfl, rfl, hb⟩ := hrel
        have HB := Lib.hid hb
        by_cases hlt : k < xs.length
        · obtain ⟨b, off, v, hA, hbl, hv, d0, d1, d2, d3, d4⟩ := rd_val (HR.out.now hb) hlt
          have HSt := Lib.hid (flat_succ VM.enc xs k hlt)
          have HMem := Lib.hid (List.getElem_mem hlt)
          rw [hv] at HSt HMem
          have hle := flat_le VM.enc xs (k + 1)
          rw [HSt.out, List.length_append] at hle
          subst hA
          clear hb hv
          go_wp2_with fail
          refine (write_any v _ (HV.out.now HB.out) ((HOk.out v HMem.out).now HB.out) (HF.out v HMem.out)).mono ?_
          rintro e w3 ⟨rfl, hb3⟩
          have HB3 := Lib.hid (HB.out.trans (hb3.mono HB.out.size))
          clear hb3
          go_wp2_with (first
              | ((with_reducible show wpList _ _ _ (Oper.mk _ (Op.binOp .add 9 _ _ _) _ _ _ _ :: _) _ _); refine wp_cat rfl rfl Tryd.underlying9 rfl rfl (by first | omega | (simp; done) | (simp; omega)) ?_)
              | fail)
          go_roundw
          case rel => exact ⟨k + 1, by omega, by go_num, by rw [HSt.out], HB3.out⟩
          case measure => simp [intOf]; omega
        · have hke : xs.take k = xs := List.take_of_length_le (by omega)
          simp only [hke]
          clear hke hb
          go_wp2_with (first
              | ((with_reducible show wpList _ _ _ (Oper.mk _ (Op.binOp .add 9 _ _ _) _ _ _ _ :: _) _ _); refine wp_cat rfl rfl Tryd.underlying9 rfl rfl (by first | omega | (simp; done) | (simp; omega)) ?_)
              | fail)
          refine (open_any (xs.flatMap VM.enc ++ tail) _).mono ?_
          rintro e w4 ⟨rfl, hr4, hb4⟩
          have HR4 := Lib.hid hr4
          have HB4 := Lib.hid (HB.out.trans (hb4.mono HB.out.size))
          have HZ := Lib.hid (show w.heap.size ≤ wr.heap.size from HB.out.size)
          generalize wr.heap.size = b at *
          clear hr4 hb4
          go_wp2_with fail
          go_loopw [9] (fun i wx => ∃ m : Nat, m ≤ xs.length ∧ i = .int .i64 m ∧ RdAt b ⟨(xs.drop m).flatMap VM.enc ++ tail, false⟩ wx ∧ Below w.heap.size w wx) (fun i _ => xs.length - (intOf i).toNat)
          case atStart => exact ⟨0, Nat.zero_le _, rfl, HR4.out, HB4.out⟩
          case round =>
            obtain ⟨m, hm, rfl, hrd, hb⟩ := hrel
            have HB5 := Lib.hid hb
            have HR5 := Lib.hid hrd
            clear hrd
            by_cases hlt : m < xs.length
            · obtain ⟨b3, off, v, hA, hbl, hv, d0, d1, d2, d3, d4⟩ := rd_val (HR.out.now hb) hlt
              have HMem := Lib.hid (List.getElem_mem hlt)
              have HDr : Hid ((xs.drop m).flatMap VM.enc ++ tail = v.enc ++ ((xs.drop (m + 1)).flatMap VM.enc ++ tail)) := Lib.hid (by
                rw [List.drop_eq_getElem_cons hlt, hv]; simp)
              rw [hv] at HMem
              have HQ := Lib.hid (eq_back v ((xs.drop (m + 1)).flatMap VM.enc ++ tail) (HOk.out v HMem.out).n (HOk.out v HMem.out).li (HF.out v HMem.out))
              have hr5 := HR5.out
              rw [HDr.out] at hr5
              have HR6 := Lib.hid hr5
              have hln : (⟨v.enc ++ ((xs.drop (m + 1)).flatMap VM.enc ++ tail), false⟩ : RS).rest.length ≤ 1000000000000 := by
                have h1 : ((xs.drop m).flatMap VM.enc).length ≤ (xs.flatMap VM.enc).length := by
                  conv => rhs; rw [← List.take_append_drop m xs, List.flatMap_append, List.length_append]
                  omega
                show (v.enc ++ ((xs.drop (m + 1)).flatMap VM.enc ++ tail)).length ≤ _
                rw [← HDr.out, List.length_append]
                omega
              have HLn := Lib.hid hln
              have HOv := Lib.hid (VM.Ok.at_ (HOk.out v HMem.out) HB5.out)
              subst hA
              clear hb hv hr5 HR5 hln
              go_wp2_with fail
              refine (equal_any b _ v _ (HV.out.now HB5.out) HZ.out HR6.out HLn.out HOv.out).mono ?_
              rw [HQ.out]
              rintro e w6 ⟨rfl, hr6, ht6⟩
              have HR7 := Lib.hid hr6
              have HB6 := Lib.hid (HB5.out.trans (ht6.to_below HB5.out.size (fun i hi => by cases hi; exact HZ.out)))
              clear hr6 ht6
              go_wp2_with fail
              go_roundw
              case rel => exact ⟨m + 1, by omega, by go_num, HR7.out, HB6.out⟩
              case measure => simp [intOf]; omega
            · have hde : (xs.drop m).flatMap VM.enc ++ tail = tail := by rw [List.drop_eq_nil_of_le (by omega)]; rfl
              have hr5 := HR5.out
              rw [hde] at hr5
              have HR6 := Lib.hid hr5
              clear hde hr5 HR5 hb
              go_wp2_with fail
              refine (left_any b _ _ HR6.out).mono ?_
              rintro e w7 ⟨rfl, rfl⟩
              go_wp2_with fail
              refine (done_any b _ _ HR6.out).mono ?_
              rintro e w8 ⟨rfl, rfl⟩
              have hdn : rDone ⟨tail, false⟩ = tail.isEmpty := rfl
              have hq : (bs tail).toList.isEmpty = tail.isEmpty := by rw [bs_toList]
              go_wp2_with fail
              refine (rest_any b _ _ HR6.out).mono ?_
              rintro e w9 ⟨rfl, hr9, ht9⟩
              have HR9 := Lib.hid hr9
              have HB9 := Lib.hid (HB5.out.trans (ht9.to_below HB5.out.size (fun i hi => by cases hi; exact HZ.out)))
              clear hr9 ht9
              go_wp2_with fail
              refine (done_any b _ _ HR9.out).mono ?_
              rintro e w10 ⟨rfl, rfl⟩
              have hdn2 : rDone ⟨[], false⟩ = true := rfl
              go_wp2_with fail
              refine (left_any b _ _ HR9.out).mono ?_
              rintro e w11 ⟨rfl, rfl⟩
              go_wp2_with fail
              go_ret
              exact ⟨rfl, HB9.out⟩
end Go.Proofs.YtijknmocidggbaaDoor
