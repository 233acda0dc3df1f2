/- The walk of WireNests. -/
import Derived.Test.YtijknmocidggbaaDoorWrBack
namespace Go.Proofs.YtijknmocidggbaaDoor
open Go.RowKit

theorem few_enc {xs : List VM} (h : fewV xs = true) {v : VM} (hv : v ∈ xs) (hn : InInt v.n) (hl : ∀ x ∈ v.l, InInt x) : v.enc.length ≤ 10000000 := by
  unfold fewV at h
  simp only [Bool.and_eq_true, decide_eq_true_eq, List.all_eq_true] at h
  have h1 := h.2.1 v hv
  have h2 := v.sz_le h1
  unfold VM.sz at h2
  unfold VM.enc
  have hit : ∀ m : Nat, m ≤ 200000 → (Lib.itoa m).length ≤ 21 := fun m hm => Lib.itoa_length_le m (by omega) (by omega)
  split
  · have := encI_len _ (numV_in hn).1; omega
  · split
    · have := encI_len _ hn; omega
    · split
      · have := encT_len v.s ⟨by omega, by omega⟩; omega
      · split
        · have a := hit v.l.length (by omega)
          have b := flat_bound encI 22 v.l (fun x hx => encI_len x (hl x hx))
          simp only [encL, List.length_append, List.length_cons, List.length_nil]
          omega
        · have a := hit v.t.length (by omega)
          have b := flat_tot v.t (fun x hx => by have := tot_le hx; exact ⟨by omega, by omega⟩)
          simp only [encL, List.length_append, List.length_cons, List.length_nil]
          omega
set_option maxRecDepth 100000 in
set_option maxHeartbeats 8000000 in
theorem nests_any (xs : List VM) (A : Option Addr) (c : Nat) (w : World) (hV : Vs w.heap.size w) (hr : RdL 5 VM.cs w w.heap.size A xs) (hok : ∀ x ∈ xs, x.Ok w w.heap.size) (hn : xs.length ≤ 9223372036854775807) :
    Calls Tryd.prog 6 #[.slice A xs.length c] w fun e w' => e = .returned (.bool true) ∧ Below w.heap.size w w' := by
  have HV := Lib.hid hV
  have HR := Lib.hid hr
  have HOk := Lib.hid hok
  clear hV hr hok
  go_enter Tryd.func6, Tryd.ntmps6
  go_wp2_with fail
  refine (small_any _ HV.out).mono ?_
  rintro e w1 ⟨rfl, hb1⟩
  have HB1 := Lib.hid hb1
  clear hb1
  go_wp2_with fail
  refine (few_any xs A c w1 (HR.out.now HB1.out) (fun x hx => (HOk.out x hx).now HB1.out) hn).mono ?_
  rintro e w2 ⟨rfl, hb2⟩
  have HB2 := Lib.hid (HB1.out.trans (hb2.mono HB1.out.size))
  clear hb2 HB1
  cases hf : fewV xs with
  | false =>
    clear hf
    go_wp2_with fail
    go_ret
    exact ⟨rfl, HB2.out⟩
  | true =>
    have hlen20 : xs.length ≤ 20 := by
      unfold fewV at hf
      simp only [Bool.and_eq_true, decide_eq_true_eq] at hf
      exact hf.1
    have HF := Lib.hid (fun v hv => few_fits hf (v := v) hv)
    have HEl := Lib.hid (fun v (hv : v ∈ xs) => few_enc hf hv (HOk.out v hv).n (HOk.out v hv).li)
    clear hf
    have HTot : Hid (tot (xs.map VM.enc) ≤ 200000000) := Lib.hid (by
      have h := tot_bound (xs.map VM.enc) 10000000 (fun x hx => by
        obtain ⟨v, hv, rfl⟩ := List.mem_map.1 hx
        exact HEl.out v hv)
      rw [List.length_map] at h
      omega)
    go_wp2_with fail
    go_loopw [4, 5] (fun o i wr => ∃ (k : Nat) (A' : Option Addr) (c' : Nat), k ≤ xs.length ∧ i = .int .i64 k ∧ o = .slice A' ((xs.take k).map VM.enc).length c' ∧ OwnL wr w.heap.size 9 1 strE A' c' ((xs.take k).map VM.enc) ∧ Below w.heap.size w wr) (fun _ i _ => xs.length - (intOf i).toNat)
    case atStart => exact ⟨0, none, 0, Nat.zero_le _, rfl, rfl, OwnL.nil_, HB2.out⟩
    case round =>
      obtain ⟨k, A', c', hk, rfl, rfl, hown, hb⟩ := hrel
      have HB := Lib.hid hb
      have HO := Lib.hid hown
      clear hown
      by_cases hlt : k < xs.length
      · obtain ⟨b, off, v, hA, hbl, hv, d0, d1, d2, d3, d4⟩ := rd_val (HR.out.now hb) hlt
        have HSt : Hid ((xs.take (k + 1)).map VM.enc = (xs.take k).map VM.enc ++ [v.enc]) := Lib.hid (by
          rw [List.take_succ_eq_append_getElem hlt, hv, List.map_append]; rfl)
        have HMem := Lib.hid (List.getElem_mem hlt)
        rw [hv] at HMem
        subst hA
        clear hb hv
        have hlk : ((xs.take k).map VM.enc).length = k := by simp; omega
        have HLk := Lib.hid hlk
        obtain ⟨out, hout⟩ : ∃ x, x = (xs.take k).map VM.enc := ⟨_, rfl⟩
        rw [← hout] at HSt HO HLk ⊢
        clear hout hlk
        go_wp2_with fail
        refine (write_any v _ (HV.out.now HB.out) ((HOk.out v HMem.out).now HB.out) (HF.out v HMem.out)).mono ?_
        rintro e w3 ⟨rfl, hb3⟩
        have HB3 := Lib.hid (HB.out.trans (hb3.mono HB.out.size))
        have HO3 := Lib.hid (HO.out.below hb3)
        clear hb3 HO
        go_wp2_with (at_builtin; refine wp_append_l rfl (.tmp 22) (.tmp 28) rfl slStr strLay w.heap.size (xs := out) (ys := [v.enc]) rfl rfl (HO3.out.alloc _) rfl rfl (RdL.one w3 v.enc _ _ rfl _ rfl) (by have := HLk.out; simp; omega) (by have := HB3.out.size; simp; omega) ?_; intro A2 c2 w6 hown hg hb2 hat; have HO2 := Lib.hid hown; have HB2 := Lib.hid (((Below.refl w.heap.size w3).alloc HB3.out.size _).trans hb2); clear hown hg hb2 hat)
        go_roundw
        case rel => exact ⟨k + 1, A2, c2, by omega, by go_num, by rw [HSt.out]; simp, by rw [HSt.out]; exact HO2.out, HB3.out.trans HB2.out⟩
        case measure => simp [intOf]; omega
      · have hke : (xs.take k).map VM.enc = xs.map VM.enc := by rw [List.take_of_length_le (by omega)]
        simp only [hke]
        have hown := HO.out
        rw [hke] at hown
        have HO := Lib.hid hown
        clear hke hb hown
        have hlm : (xs.map VM.enc).length = xs.length := by simp
        have HLm := Lib.hid hlm
        have hcon := wTexts_any (xs.map VM.enc) A' c' wr (HV.out.now HB.out) (HO.out.rd strLay) (by have := HTot.out; omega) (by omega)
        rw [hlm] at hcon
        have HCon := Lib.hid hcon
        have HTl : Hid ((encL encT (xs.map VM.enc)).length ≤ 300000000) := Lib.hid (by
          have h1 := flat_tot (xs.map VM.enc) (fun x hx => by have := tot_le hx; have := HTot.out; exact ⟨by omega, by omega⟩)
          have h2 := Lib.itoa_length_le (xs.map VM.enc).length (by omega) (by omega)
          have h3 := HTot.out
          simp only [encL, List.length_append, List.length_cons, List.length_nil]
          omega)
        have HBk := Lib.hid (rItems_back rText encT (xs.map VM.enc) [] ⟨by omega, by omega⟩ (fun x hx tl => rText_back x tl (by have := tot_le hx; have := HTot.out; exact ⟨by omega, by omega⟩)))
        have HGet : Hid (∀ (i : Nat) (h : i < xs.length) (h' : i < (xs.map VM.enc).length), (xs.map VM.enc)[i] = xs[i].enc) := Lib.hid (fun i h h' => by simp)
        clear hlm hcon
        go_wp2_with fail
        refine HCon.out.mono ?_
        rintro e w4 ⟨rfl, hb4⟩
        have HB4 := Lib.hid (HB.out.trans (hb4.mono HB.out.size))
        clear hb4 HCon HO
        generalize xs.map VM.enc = ps at *
        obtain ⟨T, hT⟩ : ∃ x, x = encL encT ps := ⟨_, rfl⟩
        rw [← hT] at HTl HBk ⊢
        clear hT
        go_wp2_with fail
        refine (wText_any T _ (HV.out.now HB4.out) (by have := HTl.out; omega)).mono ?_
        rintro e w5 ⟨rfl, hb5⟩
        have HB5 := Lib.hid (HB4.out.trans (hb5.mono HB4.out.size))
        clear hb5 HB4
        go_wp2_with fail
        refine (open_any (encT T) _).mono ?_
        rintro e w6 ⟨rfl, hr6, hb6⟩
        have HB6 := Lib.hid (HB5.out.trans (hb6.mono HB5.out.size))
        have HR6 := Lib.hid hr6
        have HZ := Lib.hid (show w.heap.size ≤ w5.heap.size from HB5.out.size)
        generalize w5.heap.size = b1 at *
        have HTx : Hid (rText ⟨encT T, false⟩ = (T, ⟨[], false⟩)) := Lib.hid (by
          have h := rText_back T [] ⟨by omega, by have := HTl.out; omega⟩
          rwa [List.append_nil] at h)
        have hTl2 : (⟨encT T, false⟩ : RS).rest.length ≤ 1000000000000 := by
          have h1 := encT_len T ⟨by omega, by have := HTl.out; omega⟩
          have h2 := HTl.out
          show (encT T).length ≤ _
          omega
        have HTl2 := Lib.hid hTl2
        clear hr6 hb6 hTl2 HB5
        go_wp2_with fail
        refine (rdText_any b1 _ _ (HV.out.now HB6.out) HZ.out HR6.out HTl2.out).mono ?_
        rw [HTx.out]
        rintro e w7 ⟨rfl, hr7, ht7⟩
        have HR7 := Lib.hid hr7
        have HB7 := Lib.hid (HB6.out.trans (ht7.to_below HB6.out.size (fun i hi => by cases hi; exact HZ.out)))
        clear hr7 ht7 HR6 HB6
        go_wp2_with fail
        refine (open_any T _).mono ?_
        rintro e w8 ⟨rfl, hr8, hb8⟩
        have HB8 := Lib.hid (HB7.out.trans (hb8.mono HB7.out.size))
        have HR8 := Lib.hid hr8
        have HR7 := Lib.hid (HR7.out.now hb8)
        have HZ2 := Lib.hid (show w.heap.size ≤ w7.heap.size from HB7.out.size)
        generalize w7.heap.size = b2 at *
        clear hr8 hb8 HB7
        go_wp2_with fail
        refine (done_any b1 _ _ HR7.out).mono ?_
        rintro e w9 ⟨rfl, rfl⟩
        have hdn : rDone ⟨[], false⟩ = true := rfl
        go_wp2_with fail
        have hTl3 : (⟨T, false⟩ : RS).rest.length ≤ 1000000000000 := by have := HTl.out; show T.length ≤ _; omega
        refine (rdTexts_any b2 _ _ (HV.out.now HB8.out) HZ2.out HR8.out hTl3).mono ?_
        have hbk := HBk.out
        rw [List.append_nil] at hbk
        rw [hbk]
        rintro e w10 ⟨A3, c3, rfl, ho10, hr10, ht10⟩
        have HR10 := Lib.hid hr10
        have HB10 := Lib.hid (HB8.out.trans (ht10.to_below HB8.out.size (fun i hi => by cases hi; exact HZ2.out)))
        have HG := Lib.hid (ho10.rd strLay)
        have hll : (ps.length : Int) = xs.length := by have := HLm.out; omega
        clear hbk hTl3 ho10 hr10 ht10 HR8 HB8
        go_wp2_with fail
        refine (done_any b2 _ _ HR10.out).mono ?_
        rintro e w11 ⟨rfl, rfl⟩
        go_wp2_with fail
        go_loopw [9] (fun i wx => ∃ m : Nat, m ≤ xs.length ∧ i = .int .i64 m ∧ RdL 1 strE wx wx.heap.size A3 ps ∧ Below w.heap.size w wx) (fun i _ => xs.length - (intOf i).toNat)
        case atStart => exact ⟨0, Nat.zero_le _, rfl, HG.out, HB10.out⟩
        case round =>
          obtain ⟨m, hm, rfl, hg, hb⟩ := hrel
          have HB11 := Lib.hid hb
          by_cases hlt : m < xs.length
          · have hltp : m < ps.length := by omega
            obtain ⟨b3, off3, hA3, hb3, c3x⟩ := rd_str' hg hltp
            rw [HGet.out m hlt hltp] at c3x
            obtain ⟨b, off, v, hA, hbl, hv, d0, d1, d2, d3, d4⟩ := rd_val (HR.out.now hb) hlt
            have HMem := Lib.hid (List.getElem_mem hlt)
            rw [hv] at c3x HMem
            have HQ : Hid (v.eq ⟨v.enc, false⟩ = (true, ⟨[], false⟩)) := Lib.hid (by
              have h := eq_back v [] (HOk.out v HMem.out).n (HOk.out v HMem.out).li (HF.out v HMem.out)
              rwa [List.append_nil] at h)
            have HLe := Lib.hid (HEl.out v HMem.out)
            have HG2 := Lib.hid hg
            subst hA hA3
            clear hb hg hv
            go_wp2_with fail
            refine (open_any v.enc _).mono ?_
            rintro e w12 ⟨rfl, hr12, hb12⟩
            have HR12 := Lib.hid hr12
            have HB12 := Lib.hid hb12
            have HB13 := Lib.hid (HB11.out.trans (hb12.mono HB11.out.size))
            have e0 := (hb12.cell (p := ⟨b, off + m * 5, none⟩) hbl).trans d0
            have e1 := (hb12.cell (p := ⟨b, off + m * 5 + 1, none⟩) hbl).trans d1
            have e2 := (hb12.cell (p := ⟨b, off + m * 5 + 2, none⟩) hbl).trans d2
            have e3 := (hb12.cell (p := ⟨b, off + m * 5 + 3, none⟩) hbl).trans d3
            have e4 := (hb12.cell (p := ⟨b, off + m * 5 + 4, none⟩) hbl).trans d4
            clear hr12 hb12 d0 d1 d2 d3 d4 c3x hbl hb3
            have HZ3 := Lib.hid (show w.heap.size ≤ wr.heap.size from HB11.out.size)
            obtain ⟨bb, hbb⟩ : ∃ x, x = wr.heap.size := ⟨_, rfl⟩
            rw [← hbb] at HR12 HZ3 ⊢
            have HBb := Lib.hid hbb
            clear hbb
            go_wp2_with fail
            refine (equal_any bb ⟨v.enc, false⟩ v _ (HV.out.now HB13.out) HZ3.out HR12.out (show v.enc.length ≤ _ by have := HLe.out; omega) (VM.Ok.at_ (HOk.out v HMem.out) HB13.out)).mono ?_
            rw [HQ.out]
            rintro e w14 ⟨rfl, hr14, ht14⟩
            have HR14 := Lib.hid hr14
            have HB14 := Lib.hid (HB12.out.trans (ht14.to_below HB12.out.size (fun i hi => by cases hi; exact Nat.le_of_eq HBb.out.symm)))
            clear hr14 ht14 e0 e1 e2 e3 e4
            go_wp2_with fail
            refine (done_any bb _ _ HR14.out).mono ?_
            rintro e w15 ⟨rfl, rfl⟩
            go_wp2_with fail
            go_roundw
            case rel => exact ⟨m + 1, by omega, by go_num, HG2.out.now HB14.out, HB11.out.trans (HB14.out.mono HB11.out.size)⟩
            case measure => simp [intOf]; omega
          · clear hg hb
            go_wp2_with fail
            go_ret
            exact ⟨rfl, HB11.out⟩
end Go.Proofs.YtijknmocidggbaaDoor
