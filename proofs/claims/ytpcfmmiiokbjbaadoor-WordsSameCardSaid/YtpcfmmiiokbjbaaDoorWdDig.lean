/- Contracts of words.Digest and of the reference's Decimal and Digest. -/
import Derived.Test.YtpcfmmiiokbjbaaDoorWdLine
import Derived.Test.YtpcfmmiiokbjbaaDoorWrD
import Derived.Test.YtpcfmmiiokbjbaaDoorDetC
namespace Go.Proofs.YtpcfmmiiokbjbaaDoor
open Go.RowKit

theorem decimal_any (n : Int) (w : World) (hn : InInt n) :
    Calls Tryd.prog 34 #[.int .i64 n] w fun e w' => e = .returned (.string (bs (Lib.itoa n))) ∧ Below w.heap.size w w' := by
  have hlen := Lib.itoa_length_le n hn.1 hn.2
  have hsz : (bs (encI n)).size = (Lib.itoa n).length + 1 := by rw [bs_size]; simp [encI]
  have hx : (bs (encI n)).extract 0 (Lib.itoa n).length = bs (Lib.itoa n) := by rw [bs_take]; simp [encI]
  go_enter Tryd.func34, Tryd.ntmps34
  go_wp2_with fail
  refine (rInt_any n w hn).mono ?_
  rintro e w1 ⟨rfl, hb1⟩
  generalize hm : Lib.itoa n = m at *
  have HM := Lib.hid hm
  clear hm
  generalize encI n = x at *
  go_wp2_with fail
  go_ret
  exact ⟨by rw [HM.out]; rfl, hb1⟩
theorem lineRb_any (l : List UInt8) (most : Int) (w : World) (hl : l.length ≤ 1000000000000) (hm : InInt most) :
    Calls Tryd.prog 15 #[.string (bs l), .int .i64 most] w fun e w' => e = .returned (.string (bs (lineF l most))) ∧ Below w.heap.size w w' :=
  (lineR_any l most w hl hm).mono fun _ _ h => ⟨h.1, h.2 ▸ Below.refl _ _⟩
theorem digOne_len (i : Nat) (t : List UInt8) (hi : i ≤ 1000000) : (digOne i t).length ≤ 50 := by
  unfold digOne
  split
  · simp
  · have h1 := Lib.itoa_length_le i (by omega) (by omega)
    have h2 := (lineF_len t 20).2
    have e : (20 : Int).toNat = 20 := rfl
    rw [e] at h2
    simp only [List.length_append, List.length_cons, List.length_nil]
    omega
theorem digL_len : ∀ (l : List (List UInt8)) (i : Nat), i + l.length ≤ 1000000 → (digL i l).length ≤ 50 * l.length
  | [], i, _ => by simp [digL]
  | t :: r, i, h => by
    rw [digL, List.length_append, List.length_cons]
    rw [List.length_cons] at h
    have h1 := digOne_len i t (by omega)
    have h2 := digL_len r (i + 1) (by omega)
    omega
theorem digL_take (l : List (List UInt8)) (k : Nat) (hk : k < l.length) : digL 0 (l.take (k + 1)) = digL 0 (l.take k) ++ digOne k l[k] := by
  rw [List.take_succ_eq_append_getElem hk, digL_app]
  simp [digL, show min k l.length = k by omega]
theorem digOne_yes {i : Nat} {t : List UInt8} (h : ¬ t = []) : digOne i t = Lib.itoa i ++ [58, 32] ++ lineF t 20 ++ [10] := by rw [digOne, if_neg h]
theorem digOne_no {i : Nat} {t : List UInt8} (h : t = []) : digOne i t = [] := by rw [digOne, if_pos h]
set_option maxHeartbeats 2000000 in
theorem digest_any {B : Nat} (texts : List (List UInt8)) (A : Option Addr) (c : Nat) (w : World) (hV : Vs B w) (hr : RdL 1 strE w w.heap.size A texts) (hn : texts.length ≤ 1000000) (hx : ∀ x ∈ texts, x.length ≤ 1000000) :
    Calls Tryd.prog 19 #[.slice A texts.length c] w fun e w' => e = .returned (.string (bs (digestF texts))) ∧ Below w.heap.size w w' := by
  have HV := Lib.hid hV
  have HR := Lib.hid hr
  have HX := Lib.hid hx
  clear hr hx
  go_enter Tryd.func19, Tryd.ntmps19
  go_wp2_with fail
  have hB0 := bld_new w
  have hw0 := (Below.refl w.heap.size w).alloc (Nat.le_refl _) (.cells #[.pointer none, .slice none 0 0] 48)
  obtain ⟨w0, hw0e⟩ : ∃ x, x = w.alloc (.cells #[.pointer none, .slice none 0 0] 48) := ⟨_, rfl⟩
  rw [← hw0e] at hB0 hw0 ⊢
  clear hw0e
  have HB0 := Lib.hid hB0
  have HW0 := Lib.hid hw0
  clear hB0 hw0
  go_wp2_with fail
  go_loopw [8] (fun i wr => ∃ k : Nat, k ≤ texts.length ∧ i = .int .i64 k ∧ Bld w.heap.size w.heap.size (digL 0 (texts.take k)) wr ∧ Below w.heap.size w wr) (fun i _ => texts.length - (intOf i).toNat)
  case atStart => exact ⟨0, Nat.zero_le _, rfl, by simpa [digL] using HB0.out, HW0.out⟩
  case round =>
    obtain ⟨k, hk, rfl, hbd, hb⟩ := hrel
    have HB := Lib.hid hb
    have HD := Lib.hid hbd
    clear hbd hb HB0 HW0
    have HLn := Lib.hid (digL_len (texts.take k) 0 (by simp; omega))
    have HLt : Hid ((texts.take k).length ≤ 1000000) := Lib.hid (by simp; omega)
    by_cases hlt : k < texts.length
    · obtain ⟨b, off, hA, hbl, hc⟩ := rd_str' (HR.out.now HB.out) hlt
      subst hA
      have HSt := Lib.hid (digL_take texts k hlt)
      have HXk := Lib.hid (HX.out _ (List.getElem_mem hlt))
      have HYes := Lib.hid (fun h => digOne_yes (i := k) (t := texts[k]'hlt) h)
      have HNo := Lib.hid (fun h => digOne_no (i := k) (t := texts[k]'hlt) h)
      have HOl := Lib.hid (digOne_len k texts[k] (by omega))
      have HL2 := Lib.hid (lineF_len texts[k] 20).2
      generalize texts[k] = s at *
      by_cases he : s = []
      · have q : (bs s).toList.isEmpty = true := by rw [he, bs_toList]; rfl
        have HD2 : Hid (digL 0 (texts.take (k + 1)) = digL 0 (texts.take k)) := Lib.hid (by rw [HSt.out, HNo.out he, List.append_nil])
        clear he
        go_wp2_with fail
        go_roundw
        case rel => exact ⟨k + 1, by omega, by go_num, by rw [HD2.out]; exact HD.out, HB.out⟩
        case measure => simp [intOf]; omega
      · have q : (bs s).toList.isEmpty = false := by rw [bs_toList]; simpa using he
        have HE : Hid (Lib.itoa k ++ 58 :: 32 :: (lineF s 20 ++ [10]) = digOne k s) := Lib.hid (by rw [HYes.out he]; simp)
        have hil := Lib.itoa_length_le k (by omega) (by omega)
        have hl2 := HL2.out
        rw [show (20 : Int).toNat = 20 from rfl] at hl2
        clear he
        go_wp2_with fail
        refine (itoa_any k _ (HV.out.on (HB.out.mono HV.out.le)) ⟨by omega, by omega⟩).mono ?_
        rintro e w3 ⟨rfl, hb3⟩
        have HD3 := Lib.hid (HD.out.now hb3)
        have HB3 := Lib.hid (HB.out.trans (hb3.mono HB.out.size))
        clear hb3
        go_wp2_with (first
          | ((with_reducible show wpList _ _ _ (Oper.mk _ (Op.binOp .add 9 _ _ _) _ _ _ _ :: _) _ _); refine wp_cat rfl rfl Tryd.underlying9 rfl rfl (by first | omega | (simp; done) | (simp; omega)) ?_)
          | fail)
        refine (line_any s 20 _ (by have := HXk.out; omega) ⟨by decide, by decide⟩).mono ?_
        rintro e w4 ⟨rfl, hb4⟩
        have HD4 := Lib.hid (HD3.out.now hb4)
        have HB4 := Lib.hid (HB3.out.trans (hb4.mono HB3.out.size))
        clear hb4
        go_wp2_with (first
          | ((with_reducible show wpList _ _ _ (Oper.mk _ (Op.binOp .add 9 _ _ _) _ _ _ _ :: _) _ _); refine wp_cat rfl rfl Tryd.underlying9 rfl rfl (by first | omega | (simp; done) | (simp; omega)) ?_)
          | fail)
        rw [HE.out]
        refine (bld_write HD4.out (by have := HLn.out; have := HLt.out; have := HOl.out; omega) HB4.out.size).mono ?_
        rintro e w5 ⟨rfl, hB5, hb5⟩
        have HB5 := Lib.hid hB5
        have HW5 := Lib.hid (HB4.out.trans hb5)
        clear hB5 hb5
        go_wp2_with fail
        go_roundw
        case rel => exact ⟨k + 1, by omega, by go_num, by rw [HSt.out]; exact HB5.out, HW5.out⟩
        case measure => simp [intOf]; omega
    · have HE : Hid (texts.take k = texts) := Lib.hid (List.take_of_length_le (by omega))
      have HD2 := HD.out
      rw [HE.out] at HD2
      have HD2 := Lib.hid HD2
      go_wp2_with fail
      refine (bld_string HD2.out HB.out.size).mono ?_
      rintro e w5 ⟨rfl, hB5, hb5⟩
      go_wp2_with fail
      go_ret
      exact ⟨rfl, HB.out.trans hb5⟩
set_option maxHeartbeats 2000000 in
theorem digestR_any (texts : List (List UInt8)) (A : Option Addr) (c : Nat) (w : World) (hr : RdL 1 strE w w.heap.size A texts) (hn : texts.length ≤ 1000000) (hx : ∀ x ∈ texts, x.length ≤ 1000000) :
    Calls Tryd.prog 20 #[.slice A texts.length c] w fun e w' => e = .returned (.string (bs (digestF texts))) ∧ Below w.heap.size w w' := by
  have HR := Lib.hid hr
  have HX := Lib.hid hx
  clear hr hx
  go_enter Tryd.func20, Tryd.ntmps20
  go_wp2_with fail
  go_loopw [3, 4] (fun s i wr => ∃ k : Nat, k ≤ texts.length ∧ i = .int .i64 k ∧ s = .string (bs (digL 0 (texts.take k))) ∧ Below w.heap.size w wr) (fun _ i _ => texts.length - (intOf i).toNat)
  case atStart => exact ⟨0, Nat.zero_le _, rfl, by simp [digL]; rfl, Below.refl _ _⟩
  case round =>
    obtain ⟨k, hk, rfl, rfl, hb⟩ := hrel
    have HB := Lib.hid hb
    clear hb
    have hLn := digL_len (texts.take k) 0 (by simp; omega)
    have hLt : (texts.take k).length ≤ 1000000 := by simp; omega
    have hl1 : (digL 0 (texts.take k)).length ≤ 50000000 := by omega
    clear hLn hLt
    by_cases hlt : k < texts.length
    · obtain ⟨b, off, hA, hbl, hc⟩ := rd_str' (HR.out.now HB.out) hlt
      subst hA
      have HSt := Lib.hid (digL_take texts k hlt)
      have HXk := Lib.hid (HX.out _ (List.getElem_mem hlt))
      have HYes := Lib.hid (fun h => digOne_yes (i := k) (t := texts[k]'hlt) h)
      have HNo := Lib.hid (fun h => digOne_no (i := k) (t := texts[k]'hlt) h)
      have HL2 := Lib.hid (lineF_len texts[k] 20).2
      generalize texts[k] = s at *
      by_cases he : s = []
      · have q : (bs s).toList.isEmpty = true := by rw [he, bs_toList]; rfl
        have HD2 : Hid (digL 0 (texts.take (k + 1)) = digL 0 (texts.take k)) := Lib.hid (by rw [HSt.out, HNo.out he, List.append_nil])
        clear he
        go_wp2_with fail
        go_roundw
        case rel => exact ⟨k + 1, by omega, by go_num, by rw [HD2.out], HB.out⟩
        case measure => simp [intOf]; omega
      · have q : (bs s).toList.isEmpty = false := by rw [bs_toList]; simpa using he
        have HE := Lib.hid (HYes.out he)
        have hil := Lib.itoa_length_le k (by omega) (by omega)
        have hl2 := HL2.out
        rw [show (20 : Int).toNat = 20 from rfl] at hl2
        clear he
        generalize digL 0 (texts.take k) = pre at *
        have HKI : Hid (InInt (k : Int)) := Lib.hid ⟨by omega, by omega⟩
        go_wp2_with fail
        refine wp_region_det (S := Below wr.heap.size wr) (by kernel_rfl) (by kernel_rfl) ((Below.refl _ _).drew) ?_
        rw [List.toList_toArray]
        repeat (first
          | ((with_reducible show Det _ _ _ _ (Oper.mk _ (Op.binOp .add 9 _ _ _) _ _ _ _ :: _) _); refine Det.cat (by rfl) rfl Tryd.underlying9 rfl rfl (by first | omega | (simp; done) | (simp; omega) | (simp only [List.length_append, List.length_cons, List.length_nil]; omega)) ?_; simp only [Act.put, List.setIfInBounds_toArray, List.set_cons_zero, List.set_cons_succ, List.getElem_toArray, List.getElem_cons_zero, List.getElem_cons_succ])
          | ((with_reducible show Det _ _ _ _ (Oper.mk _ (Op.call (Call.mk (Callee.value (Operand.func 34)) _ _)) _ _ _ _ :: _) _); refine Det.step (.string (bs (Lib.itoa k))) (by rfl) (fun wq hSq K hK => ?_) ?_; (· (go_simp; refine (decimal_any k _ HKI.out).mono ?_; rintro e4 w4 ⟨rfl, hb4⟩; go_wp2_with fail; refine hK.out _ _ (hSq.trans (hb4.mono hSq.size)) ?_; first | rfl | (simp [Act.put]; done))); simp only [Act.put, List.setIfInBounds_toArray, List.set_cons_zero, List.set_cons_succ, List.getElem_toArray, List.getElem_cons_zero, List.getElem_cons_succ])
          | ((with_reducible show Det _ _ _ _ (Oper.mk _ (Op.call (Call.mk (Callee.value (Operand.func 15)) _ _)) _ _ _ _ :: _) _); refine Det.step (.string (bs (lineF s 20))) (by rfl) (fun wq hSq K hK => ?_) ?_; (· (go_simp; refine (lineRb_any s 20 _ (by have := HXk.out; omega) ⟨by decide, by decide⟩).mono ?_; rintro e4 w4 ⟨rfl, hb4⟩; go_wp2_with fail; refine hK.out _ _ (hSq.trans (hb4.mono hSq.size)) ?_; first | rfl | (simp [Act.put]; done))); simp only [Act.put, List.setIfInBounds_toArray, List.set_cons_zero, List.set_cons_succ, List.getElem_toArray, List.getElem_cons_zero, List.getElem_cons_succ])
          | (refine Det.skip (by rfl) ?_; simp only [Act.put, List.setIfInBounds_toArray, List.set_cons_zero, List.set_cons_succ, List.getElem_toArray, List.getElem_cons_zero, List.getElem_cons_succ])
          | (refine Det.read (v := ?_) (by rfl) ?_ ?_; rotate_left; (· (intro wq hSq; have hcq := (hSq.cell (p := ⟨b, off + k, none⟩) hbl).trans hc; go_simp; try with_reducible rfl)); simp only [Act.put, List.setIfInBounds_toArray, List.set_cons_zero, List.set_cons_succ, List.getElem_toArray, List.getElem_cons_zero, List.getElem_cons_succ])
          | fail)
        refine Det.done fun wz hz => ?_
        have HZ := Lib.hid (HB.out.trans (hz.mono HB.out.size))
        clear hz
        go_wp2_with fail
        go_roundw
        case rel => exact ⟨k + 1, by omega, by go_num, by rw [HSt.out, HE.out]; simp, HZ.out⟩
        case measure => simp [intOf]; omega
    · have HE : Hid (texts.take k = texts) := Lib.hid (List.take_of_length_le (by omega))
      rw [HE.out]
      go_wp2_with fail
      go_ret
      exact ⟨rfl, HB.out⟩
end Go.Proofs.YtpcfmmiiokbjbaaDoor
