/- Contract of words.Parts. -/
import Derived.Test.YtpcfmmiiokbjbaaDoorWdF
namespace Go.Proofs.YtpcfmmiiokbjbaaDoor
open Go.RowKit

def strSz : Value → Nat
  | .string s => s.size
  | _ => 0
set_option maxRecDepth 100000 in
set_option maxHeartbeats 2000000 in
theorem parts_any (l : List UInt8) (size most : Int) (w : World) (hl : l.length ≤ 1000000) (hs : InInt size) (hm : InInt most) :
    Calls Tryd.prog 12 #[.string (bs l), .int .i64 size, .int .i64 most] w fun x w' => ∃ A c, x = .returned (.slice A (partsF l size most).length c) ∧ OwnL w' w.heap.size 9 1 strE A c (partsF l size most) ∧ Below w.heap.size w w' := by
  have hs2 := hs.2
  have hm2 := hm.2
  by_cases h0 : size < 2
  · have HD : Hid (partsF l size most = []) := Lib.hid (by rw [partsF, if_pos (.inl h0)])
    go_enter Tryd.func12, Tryd.ntmps12
    go_wp2_with fail
    go_ret
    exact ⟨none, 0, by rw [HD.out]; rfl, by rw [HD.out]; exact OwnL.nil_, Below.refl _ _⟩
  by_cases h1 : most < 1
  · have HD : Hid (partsF l size most = []) := Lib.hid (by rw [partsF, if_pos (.inr h1)])
    have d0 : decide (size < 2) = false := by simpa using h0
    go_enter Tryd.func12, Tryd.ntmps12
    go_wp2_with fail
    go_ret
    exact ⟨none, 0, by rw [HD.out]; rfl, by rw [HD.out]; exact OwnL.nil_, Below.refl _ _⟩
  have HD : Hid (partsF l size most = partsL size.toNat (most - 1).toNat l) := Lib.hid (by rw [partsF, if_neg (by omega)])
  obtain ⟨sz, rfl⟩ : ∃ n : Nat, size = n := ⟨size.toNat, by omega⟩
  obtain ⟨mo, hmo⟩ : ∃ n : Nat, most - 1 = (n : Int) := ⟨(most - 1).toNat, by omega⟩
  have e1 : ((sz : Int)).toNat = sz := rfl
  have e2 : (most - 1).toNat = mo := by omega
  rw [e1, e2] at HD
  have HMo := Lib.hid hmo
  have d8 : decide ((sz : Int) < 2) = false := by simp; omega
  have d9 : decide (most < 1) = false := by simp; omega
  have h1' : 1 ≤ most := by omega
  have hz2 : 2 ≤ sz := by omega
  have HS2 := Lib.hid hs2
  have HM2 := Lib.hid hm2
  clear e1 e2 hs hm hs2 hm2 hmo h0 h1
  go_enter Tryd.func12, Tryd.ntmps12
  go_wp2_with fail
  go_loopw [0, 7] (fun t o wr => ∃ (s : List UInt8) (out : List (List UInt8)) (A : Option Addr) (c : Nat), t = .string (bs s) ∧ o = .slice A out.length c ∧ partsL sz mo l = out ++ partsL sz (mo - out.length) s ∧ out.length ≤ mo ∧ s.length + out.length ≤ l.length ∧ OwnL wr w.heap.size 9 1 strE A c out ∧ Below w.heap.size w wr) (fun t _ _ => strSz t)
  case atStart => exact ⟨l, [], none, 0, rfl, rfl, by simp, by simp, by simp, OwnL.nil_, Below.refl _ _⟩
  case round =>
    obtain ⟨s, out, A, c, rfl, rfl, heq, hmo3, hsl, hown, hb⟩ := hrel
    have HE := Lib.hid heq
    have HO := Lib.hid hown
    have HB := Lib.hid hb
    have hsz : (bs s).size = s.length := bs_size s
    have hs2 := HS2.out
    have hm2 := HM2.out
    clear heq hown hb
    by_cases g1 : (sz : Int) < s.length
    · have hmo2 := HMo.out
      by_cases g2 : (out.length : Int) < most - 1
      · have HSt := Lib.hid (partsL_step (size := sz) (n := mo - out.length) (s := s) (by omega) (by omega))
        have hx1 : (bs s).extract 0 sz = bs (s.take sz) := bs_take s sz
        have hx2 : (bs s).extract sz s.length = bs (s.drop sz) := bs_drop s sz
        have d1 : decide ((sz : Int) < s.length) = true := by simp; omega
        have d2 : decide ((out.length : Int) < most - 1) = true := by simp; omega
        clear hmo2
        go_wp2_with (first
          | (at_builtin; refine wp_append_l rfl (.tmp 25) (.tmp 29) rfl slStr strLay w.heap.size (xs := out) (ys := [s.take sz]) rfl rfl (HO.out.alloc _) rfl rfl (RdL.one wr (s.take sz) _ _ rfl _ rfl) (by simp; omega) (by have := HB.out.size; simp; omega) ?_; intro A3 c3 w6 hown3 hg3 hb3 hat3; have HO3 := Lib.hid hown3; have HB3 := Lib.hid (((Below.refl w.heap.size wr).alloc HB.out.size _).trans hb3); clear hown3 hg3 hb3 hat3)
          | fail)
        go_roundw
        case rel => exact ⟨s.drop sz, out ++ [s.take sz], A3, c3, rfl, by simp, by rw [HE.out, HSt.out, List.append_assoc]; simp [Nat.sub_sub], by have := HMo.out; simp; omega, by simp; omega, HO3.out, HB.out.trans HB3.out⟩
        case measure => simp [strSz, bs_size]; omega
      · have HEn := Lib.hid (partsL_end (size := sz) (n := mo - out.length) (s := s) (by omega))
        have HFt : Hid (fitW sz s = s.take (sz - 1) ++ [43]) := Lib.hid (by rw [fitW, if_pos (by omega)])
        have hx3 : (bs s).extract 0 (sz - 1) = bs (s.take (sz - 1)) := bs_take s (sz - 1)
        have d1 : decide ((sz : Int) < s.length) = true := by simp; omega
        have d2 : decide ((out.length : Int) < most - 1) = false := by simp; omega
        clear hmo2
        have hlt : (s.take (sz - 1)).length ≤ 1000000 := by simp; omega
        go_wp2_with (first
          | ((with_reducible show wpList _ _ _ (Oper.mk _ (Op.binOp .add 9 _ _ _) _ _ _ _ :: _) _ _); refine wp_cat rfl rfl Tryd.underlying9 rfl rfl (by first | omega | (simp; done) | (simp; omega)) ?_)
          | (at_builtin; refine wp_append_l rfl (.tmp 43) (.tmp 45) rfl slStr strLay w.heap.size (xs := out) (ys := [s.take (sz - 1) ++ [43]]) rfl rfl (HO.out.alloc _) rfl rfl (RdL.one (enc := strE) wr (s.take (sz - 1) ++ [43]) _ _ rfl _ rfl) (by simp; omega) (by have := HB.out.size; simp; omega) ?_; intro A3 c3 w6 hown3 hg3 hb3 hat3; have HO3 := Lib.hid hown3; have HB3 := Lib.hid (((Below.refl w.heap.size wr).alloc HB.out.size _).trans hb3); clear hown3 hg3 hb3 hat3)
          | fail)
        go_ret
        have hfin : partsF l sz most = out ++ [s.take (sz - 1) ++ [43]] := by rw [HD.out, HE.out, HEn.out, HFt.out]
        exact ⟨A3, c3, by rw [hfin]; simp, by rw [hfin]; exact HO3.out, HB.out.trans HB3.out⟩
    · have HEn := Lib.hid (partsL_end (size := sz) (n := mo - out.length) (s := s) (by omega))
      have HFt : Hid (fitW sz s = s) := Lib.hid (by rw [fitW, if_neg (by omega)])
      have d1 : decide ((sz : Int) < s.length) = false := by simp; omega
      go_wp2_with (first
        | (at_builtin; refine wp_append_l rfl (.tmp 43) (.tmp 45) rfl slStr strLay w.heap.size (xs := out) (ys := [s]) rfl rfl (HO.out.alloc _) rfl rfl (RdL.one wr s _ _ rfl _ rfl) (by simp; omega) (by have := HB.out.size; simp; omega) ?_; intro A3 c3 w6 hown3 hg3 hb3 hat3; have HO3 := Lib.hid hown3; have HB3 := Lib.hid (((Below.refl w.heap.size wr).alloc HB.out.size _).trans hb3); clear hown3 hg3 hb3 hat3)
        | fail)
      go_ret
      have hfin : partsF l sz most = out ++ [s] := by rw [HD.out, HE.out, HEn.out, HFt.out]
      exact ⟨A3, c3, by rw [hfin]; simp, by rw [hfin]; exact HO3.out, HB.out.trans HB3.out⟩
end Go.Proofs.YtpcfmmiiokbjbaaDoor
