/- Contracts of lease.Valid and of its reference. -/
import Derived.Test.YtoibgenhbpppdaaDoorLsD
import Derived.Test.YtoibgenhbpppdaaDoorWrG
import Derived.Test.YtoibgenhbpppdaaDoorWrH
namespace Go.Proofs.YtoibgenhbpppdaaDoor
open Go.RowKit

def vstep (a : List (List UInt8) × Int) (s : List UInt8) : List (List UInt8) × Int :=
  if (openF s).2.2 = true ∧ a.2 ≤ (openF s).1 then (a.1 ++ [(openF s).2.1], (openF s).1) else a
def validP (l : List (List UInt8)) : List (List UInt8) × Int := l.foldl vstep ([], 0)
theorem validP_succ (xs : List (List UInt8)) (k : Nat) (hk : k < xs.length) : validP (xs.take (k + 1)) = vstep (validP (xs.take k)) xs[k] := by
  unfold validP
  rw [List.take_succ_eq_append_getElem hk, List.foldl_append]
  rfl
theorem foldl_len : ∀ (xs : List (List UInt8)) (a : List (List UInt8) × Int), (xs.foldl vstep a).1.length ≤ a.1.length + xs.length
  | [], a => by simp
  | x :: r, a => by
    have h := foldl_len r (vstep a x)
    have h2 : (vstep a x).1.length ≤ a.1.length + 1 := by
      unfold vstep
      split
      · simp
      · omega
    simp only [List.foldl_cons, List.length_cons]
    omega
theorem validP_len (xs : List (List UInt8)) : (validP xs).1.length ≤ xs.length := by
  have := foldl_len xs ([], 0)
  simpa [validP] using this
/-- What the walk needs to know of an opened text. -/
def OpOk (x : Int × List UInt8 × Bool) (s : List UInt8) : Prop := x.2.2 = (openF s).2.2 ∧ (x.2.2 = true → x = openF s)
theorem opOk_l (s : List UInt8) : OpOk (openF s) s := ⟨rfl, fun _ => rfl⟩
theorem opOk_r (s : List UInt8) : OpOk (openR s) s := by
  unfold OpOk openR
  cases h : (openF s).2.2 with
  | true => simp [h]
  | false => simp
theorem vstep_yes {n last : Int} {t s : List UInt8} {out : List (List UInt8)} (h : OpOk (n, t, true) s) (hl : last ≤ n) : vstep (out, last) s = (out ++ [t], n) := by
  have h2 := h.2 rfl
  rw [vstep, ← h2, if_pos ⟨rfl, hl⟩]
theorem vstep_late {n last : Int} {t s : List UInt8} {out : List (List UInt8)} (h : OpOk (n, t, true) s) (hl : n < last) : vstep (out, last) s = (out, last) := by
  have h2 := h.2 rfl
  rw [vstep, ← h2, if_neg]
  rintro ⟨_, h3⟩
  simp only at h3
  omega
theorem vstep_no {n last : Int} {t s : List UInt8} {out : List (List UInt8)} (h : OpOk (n, t, false) s) : vstep (out, last) s = (out, last) := by
  rw [vstep, ← h.1, if_neg]
  rintro ⟨h3, _⟩
  simp at h3

set_option maxHeartbeats 2000000 in
theorem valid_any {B : Nat} (xs : List (List UInt8)) (A : Option Addr) (c : Nat) (w : World) (hV : Vs B w) (hr : RdL 1 strE w w.heap.size A xs) (hx : ∀ x ∈ xs, x.length ≤ 1000000000000) (hn : xs.length ≤ 1000000) :
    Calls Tryd.prog 16 #[.slice A xs.length c] w fun x w' => ∃ A2 c2, x = .returned (.slice A2 (validP xs).1.length c2) ∧ OwnL w' w.heap.size 9 1 strE A2 c2 (validP xs).1 ∧ Below w.heap.size w w' := by
  have HV := Lib.hid hV
  have HR := Lib.hid hr
  have HX := Lib.hid hx
  clear hV hr hx
  go_enter Tryd.func16, Tryd.ntmps16
  go_wp2_with fail
  go_loopw [3, 4, 12] (fun o l i wr => ∃ (k : Nat) (out : List (List UInt8)) (last : Int) (A2 : Option Addr) (c2 : Nat), k ≤ xs.length ∧ i = .int .i64 k ∧ o = .slice A2 out.length c2 ∧ l = .int .i64 last ∧ validP (xs.take k) = (out, last) ∧ OwnL wr w.heap.size 9 1 strE A2 c2 out ∧ Below w.heap.size w wr) (fun _ _ i _ => xs.length - (intOf i).toNat)
  case atStart => exact ⟨0, [], 0, none, 0, Nat.zero_le _, rfl, rfl, rfl, rfl, OwnL.nil_, Below.refl _ _⟩
  case round =>
    obtain ⟨k, out, last, A2, c2, hk, rfl, rfl, rfl, hval, hown, hb⟩ := hrel
    have HVl := Lib.hid hval
    have HO := Lib.hid hown
    have HB := Lib.hid hb
    clear hval hown hb
    by_cases hlt : k < xs.length
    · obtain ⟨b, off, hA, hbl, hc⟩ := rd_str' (HR.out.now HB.out) hlt
      subst hA
      have HXk := Lib.hid (HX.out _ (List.getElem_mem hlt))
      have HSt := Lib.hid (validP_succ xs k hlt)
      have HLn : Hid (out.length ≤ k) := Lib.hid (by have := validP_len (xs.take k); rw [HVl.out, List.length_take] at this; simp only at this; omega)
      generalize xs[k] = s at *
      go_wp2_with fail
      refine (openL_any s _ (HV.out.on (HB.out.mono HV.out.le)) HXk.out).mono ?_
      rintro e w4 ⟨rfl, hb4⟩
      have HOk := Lib.hid (opOk_l s)
      have HB4 := Lib.hid (HB.out.trans (hb4.mono HB.out.size))
      have HO4 := Lib.hid (HO.out.below hb4)
      clear hb4 hbl hc
      generalize openF s = x at *
      obtain ⟨n, t, f⟩ := x
      unfold opV
      cases f
      · have HT : Hid (validP (xs.take (k + 1)) = (out, last)) := Lib.hid (by rw [HSt.out, HVl.out]; exact vstep_no HOk.out)
        go_wp2_with fail
        go_roundw
        case rel => exact ⟨k + 1, out, last, A2, c2, by omega, by go_num, rfl, rfl, HT.out, HO4.out, HB4.out⟩
        case measure => simp [intOf]; omega
      · by_cases hle : last ≤ n
        · have HT : Hid (validP (xs.take (k + 1)) = (out ++ [t], n)) := Lib.hid (by rw [HSt.out, HVl.out]; exact vstep_yes HOk.out hle)
          go_wp2_with (first
            | (at_builtin; refine wp_append_l rfl (.tmp 28) (.tmp 30) rfl slStr strLay w.heap.size (xs := out) (ys := [t]) rfl rfl (HO4.out.alloc _) rfl rfl (RdL.one w4 t _ _ rfl _ rfl) (by have := HLn.out; simp; omega) (by have := HB4.out.size; simp; omega) ?_; intro A3 c3 w6 hown3 hg3 hb3 hat3; have HO3 := Lib.hid hown3; have HB3 := Lib.hid (((Below.refl w.heap.size w4).alloc HB4.out.size _).trans hb3); clear hown3 hg3 hb3 hat3)
            | fail)
          go_roundw
          case rel => exact ⟨k + 1, out ++ [t], n, A3, c3, by omega, by go_num, by simp, rfl, HT.out, HO3.out, HB4.out.trans HB3.out⟩
          case measure => simp [intOf]; omega
        · have HT : Hid (validP (xs.take (k + 1)) = (out, last)) := Lib.hid (by rw [HSt.out, HVl.out]; exact vstep_late HOk.out (by omega))
          go_wp2_with fail
          go_roundw
          case rel => exact ⟨k + 1, out, last, A2, c2, by omega, by go_num, rfl, rfl, HT.out, HO4.out, HB4.out⟩
          case measure => simp [intOf]; omega
    · have HE : Hid (validP xs = (out, last)) := Lib.hid (by have h := HVl.out; rwa [List.take_of_length_le (by omega)] at h)
      go_wp2_with fail
      go_ret
      exact ⟨A2, c2, by rw [HE.out]; rfl, by rw [HE.out]; exact HO.out, HB.out⟩
set_option maxHeartbeats 2000000 in
theorem validR_any {B : Nat} (xs : List (List UInt8)) (A : Option Addr) (c : Nat) (w : World) (hV : Vs B w) (hr : RdL 1 strE w w.heap.size A xs) (hx : ∀ x ∈ xs, x.length ≤ 1000000000000) (hn : xs.length ≤ 1000000) :
    Calls Tryd.prog 17 #[.slice A xs.length c] w fun x w' => ∃ A2 c2, x = .returned (.slice A2 (validP xs).1.length c2) ∧ OwnL w' w.heap.size 9 1 strE A2 c2 (validP xs).1 ∧ Below w.heap.size w w' := by
  have HV := Lib.hid hV
  have HR := Lib.hid hr
  have HX := Lib.hid hx
  clear hV hr hx
  go_enter Tryd.func17, Tryd.ntmps17
  go_wp2_with fail
  go_loopw [3, 4, 5] (fun o l i wr => ∃ (k : Nat) (out : List (List UInt8)) (last : Int) (A2 : Option Addr) (c2 : Nat), k ≤ xs.length ∧ i = .int .i64 k ∧ o = .slice A2 out.length c2 ∧ l = .int .i64 last ∧ validP (xs.take k) = (out, last) ∧ OwnL wr w.heap.size 9 1 strE A2 c2 out ∧ Below w.heap.size w wr) (fun _ _ i _ => xs.length - (intOf i).toNat)
  case atStart => exact ⟨0, [], 0, none, 0, Nat.zero_le _, rfl, rfl, rfl, rfl, OwnL.nil_, Below.refl _ _⟩
  case round =>
    obtain ⟨k, out, last, A2, c2, hk, rfl, rfl, rfl, hval, hown, hb⟩ := hrel
    have HVl := Lib.hid hval
    have HO := Lib.hid hown
    have HB := Lib.hid hb
    clear hval hown hb
    by_cases hlt : k < xs.length
    · obtain ⟨b, off, hA, hbl, hc⟩ := rd_str' (HR.out.now HB.out) hlt
      subst hA
      have HXk := Lib.hid (HX.out _ (List.getElem_mem hlt))
      have HSt := Lib.hid (validP_succ xs k hlt)
      have HLn : Hid (out.length ≤ k) := Lib.hid (by have := validP_len (xs.take k); rw [HVl.out, List.length_take] at this; simp only at this; omega)
      generalize xs[k] = s at *
      go_wp2_with fail
      refine (openR_any s _ (HV.out.on (HB.out.mono HV.out.le)) HXk.out).mono ?_
      rintro e w4 ⟨rfl, hb4⟩
      have HOk := Lib.hid (opOk_r s)
      have HB4 := Lib.hid (HB.out.trans (hb4.mono HB.out.size))
      have HO4 := Lib.hid (HO.out.below hb4)
      clear hb4 hbl hc
      generalize openR s = x at *
      obtain ⟨n, t, f⟩ := x
      unfold opV
      cases f
      · have HT : Hid (validP (xs.take (k + 1)) = (out, last)) := Lib.hid (by rw [HSt.out, HVl.out]; exact vstep_no HOk.out)
        go_wp2_with fail
        go_roundw
        case rel => exact ⟨k + 1, out, last, A2, c2, by omega, by go_num, rfl, rfl, HT.out, HO4.out, HB4.out⟩
        case measure => simp [intOf]; omega
      · by_cases hle : last ≤ n
        · have HT : Hid (validP (xs.take (k + 1)) = (out ++ [t], n)) := Lib.hid (by rw [HSt.out, HVl.out]; exact vstep_yes HOk.out hle)
          go_wp2_with (first
            | (at_builtin; refine wp_append_l rfl (.tmp 30) (.tmp 32) rfl slStr strLay w.heap.size (xs := out) (ys := [t]) rfl rfl (HO4.out.alloc _) rfl rfl (RdL.one w4 t _ _ rfl _ rfl) (by have := HLn.out; simp; omega) (by have := HB4.out.size; simp; omega) ?_; intro A3 c3 w6 hown3 hg3 hb3 hat3; have HO3 := Lib.hid hown3; have HB3 := Lib.hid (((Below.refl w.heap.size w4).alloc HB4.out.size _).trans hb3); clear hown3 hg3 hb3 hat3)
            | fail)
          go_roundw
          case rel => exact ⟨k + 1, out ++ [t], n, A3, c3, by omega, by go_num, by simp, rfl, HT.out, HO3.out, HB4.out.trans HB3.out⟩
          case measure => simp [intOf]; omega
        · have HT : Hid (validP (xs.take (k + 1)) = (out, last)) := Lib.hid (by rw [HSt.out, HVl.out]; exact vstep_late HOk.out (by omega))
          go_wp2_with fail
          go_roundw
          case rel => exact ⟨k + 1, out, last, A2, c2, by omega, by go_num, rfl, rfl, HT.out, HO4.out, HB4.out⟩
          case measure => simp [intOf]; omega
    · have HE : Hid (validP xs = (out, last)) := Lib.hid (by have h := HVl.out; rwa [List.take_of_length_le (by omega)] at h)
      go_wp2_with fail
      go_ret
      exact ⟨A2, c2, by rw [HE.out]; rfl, by rw [HE.out]; exact HO.out, HB.out⟩
set_option maxHeartbeats 1000000 in
theorem strings_any (xs ys : List (List UInt8)) (A B : Option Addr) (c d : Nat) (w : World) (hr : RdL 1 strE w w.heap.size A xs) (hs : RdL 1 strE w w.heap.size B ys) (hx : xs.length ≤ 9223372036854775807) (hy : ys.length ≤ 9223372036854775807) :
    Calls Tryd.prog 15 #[.slice A xs.length c, .slice B ys.length d] w fun e w' => e = .returned (.bool (xs == ys)) ∧ Below w.heap.size w w' := by
  have HR := Lib.hid hr
  have HS := Lib.hid hs
  have HFin : Hid (∀ b : Bool, (xs = ys ↔ b = true) → (xs == ys) = b) := Lib.hid fun b h => by
    cases b with
    | true => simpa using h.2 rfl
    | false => simp only [beq_eq_false_iff_ne]; intro e; exact absurd (h.1 e) (by simp)
  clear hr hs
  by_cases hl : xs.length = ys.length
  · have hl2 : ((xs.length : Int) != ys.length) = false := by simp [hl]
    go_enter Tryd.func15, Tryd.ntmps15
    have HL := Lib.hid hl
    clear hl
    go_wp2
    go_loopw [5] (fun i wr => ∃ k : Nat, k ≤ xs.length ∧ i = .int .i64 k ∧ xs.take k = ys.take k ∧ Below w.heap.size w wr) (fun i _ => xs.length - (intOf i).toNat)
    case atStart => exact ⟨0, Nat.zero_le _, rfl, by simp, Below.refl _ _⟩
    case round =>
      obtain ⟨k, hk, rfl, hf, hbw⟩ := hrel
      have HF := Lib.hid hf
      have HB := Lib.hid hbw
      clear hf
      by_cases hlt : k < xs.length
      · have hlt2 : k < ys.length := by have := HL.out; omega
        obtain ⟨b, off, hA, hb, c0⟩ := rd_str' (HR.out.now hbw) hlt
        obtain ⟨b2, off2, hA2, hb2, c1⟩ := rd_str' (HS.out.now hbw) hlt2
        subst hA hA2
        have HSt := Lib.hid (eq_take xs ys k hlt hlt2 HF.out)
        have HNe := Lib.hid (ne_at xs ys k hlt hlt2)
        have hi0 : (0 : Int) ≤ (k : Int) := by omega
        have hi1 : (k : Int) < (xs.length : Int) := by omega
        have hi2 : (k : Int) < (ys.length : Int) := by omega
        clear hbw
        generalize xs[k] = x at *
        generalize ys[k] = y at *
        by_cases hv : x = y
        · have hv2 : ((bs x).toList != (bs y).toList) = false := by rw [bne, bs_beq, hv]; simp
          have hv3 : ((bs x).toList == (bs y).toList) = true := by rw [bne, Bool.not_eq_false'] at hv2; exact hv2
          have HV := Lib.hid hv
          clear hv
          go_wp2_with fail
          go_quiet (fail)
          go_wp2
          go_roundw
          case rel => exact ⟨k + 1, by omega, by go_num, HSt.out HV.out, below_drewN HB.out _⟩
          case measure => simp [intOf]; omega
        · have hv2 : ((bs x).toList != (bs y).toList) = true := by rw [bne, bs_beq]; simpa using hv
          have hv3 : ((bs x).toList == (bs y).toList) = false := by rw [bne, Bool.not_eq_true'] at hv2; exact hv2
          have HV := Lib.hid (HNe.out hv)
          clear hv
          go_wp2_with fail
          go_quiet (fail)
          go_wp2
          go_ret
          exact ⟨ret_bool (HFin.out false ⟨fun h => absurd h HV.out, fun h => by simp at h⟩).symm, below_drewN HB.out _⟩
      · have HE : Hid (xs = ys) := Lib.hid (by
          have h1 := HF.out
          have := HL.out
          rwa [List.take_of_length_le (by omega), List.take_of_length_le (by omega)] at h1)
        go_wp2
        go_ret
        exact ⟨ret_bool (HFin.out true ⟨fun _ => rfl, fun _ => HE.out⟩).symm, HB.out⟩
  · have hl2 : ((xs.length : Int) != ys.length) = true := by simp; omega
    have HN := Lib.hid hl
    clear hl
    go_enter Tryd.func15, Tryd.ntmps15
    go_wp2
    go_ret
    exact ⟨ret_bool (HFin.out false ⟨fun h => absurd (by rw [h]) HN.out, fun h => by simp at h⟩).symm, Below.refl _ _⟩
end Go.Proofs.YtoibgenhbpppdaaDoor
