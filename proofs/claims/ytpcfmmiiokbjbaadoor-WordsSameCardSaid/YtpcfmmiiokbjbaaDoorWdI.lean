/- Contract of the reference's Parts. -/
import Derived.Test.YtpcfmmiiokbjbaaDoorWdF
namespace Go.Proofs.YtpcfmmiiokbjbaaDoor
open Go.RowKit

set_option maxRecDepth 100000 in
set_option maxHeartbeats 2000000 in
theorem partsR_any (l : List UInt8) (size most : Int) (w : World) (hl : l.length ≤ 1000000) (hs : InInt size) (hm : InInt most) :
    Calls Tryd.prog 13 #[.string (bs l), .int .i64 size, .int .i64 most] w fun x w' => ∃ A c, x = .returned (.slice A (partsF l size most).length c) ∧ OwnL w' w.heap.size 9 1 strE A c (partsF l size most) ∧ Below w.heap.size w w' := by
  have hs2 := hs.2
  have hm2 := hm.2
  by_cases h0 : size < 2
  · have HD : Hid (partsF l size most = []) := Lib.hid (by rw [partsF, if_pos (.inl h0)])
    go_enter Tryd.func13, Tryd.ntmps13
    go_wp2_with fail
    go_ret
    exact ⟨none, 0, by rw [HD.out]; rfl, by rw [HD.out]; exact OwnL.nil_, Below.refl _ _⟩
  by_cases h1 : most < 1
  · have HD : Hid (partsF l size most = []) := Lib.hid (by rw [partsF, if_pos (.inr h1)])
    have d0 : decide (size < 2) = false := by simpa using h0
    go_enter Tryd.func13, Tryd.ntmps13
    go_wp2_with fail
    go_ret
    exact ⟨none, 0, by rw [HD.out]; rfl, by rw [HD.out]; exact OwnL.nil_, Below.refl _ _⟩
  have HD : Hid (partsF l size most = partsL size.toNat (most - 1).toNat l) := Lib.hid (by rw [partsF, if_neg (by omega)])
  obtain ⟨sz, rfl⟩ : ∃ n : Nat, size = n := ⟨size.toNat, by omega⟩
  obtain ⟨mo, hmo⟩ : ∃ n : Nat, most - 1 = (n : Int) := ⟨(most - 1).toNat, by omega⟩
  have e1 : ((sz : Int)).toNat = sz := rfl
  have e2 : (most - 1).toNat = mo := by omega
  rw [e1, e2] at HD
  have HMo := Lib.hid hmo
  have d8 : decide ((sz : Int) < 2) = false := by simp; omega
  have d9 : decide (most < 1) = false := by simp; omega
  have h1' : 1 ≤ most := by omega
  have hz2 : 2 ≤ sz := by omega
  have HS2 := Lib.hid hs2
  have HM2 := Lib.hid hm2
  clear e1 e2 hs hm hs2 hm2 hmo h0 h1
  go_enter Tryd.func13, Tryd.ntmps13
  go_wp2_with fail
  go_loopw [7, 8] (fun o f wr => ∃ (fr : Nat) (out : List (List UInt8)) (A : Option Addr) (c : Nat), f = .int .i64 fr ∧ o = .slice A out.length c ∧ partsL sz mo l = out ++ partsL sz (mo - out.length) (l.drop fr) ∧ out.length ≤ mo ∧ fr ≤ l.length ∧ out.length ≤ fr ∧ OwnL wr w.heap.size 9 1 strE A c out ∧ Below w.heap.size w wr) (fun _ f _ => l.length - (intOf f).toNat)
  case atStart => exact ⟨0, [], none, 0, rfl, rfl, by simp, by simp, by simp, by simp, OwnL.nil_, Below.refl _ _⟩
  case round =>
    obtain ⟨fr, out, A, c, rfl, rfl, heq, hmo3, hfl, hof, hown, hb⟩ := hrel
    have HE := Lib.hid heq
    have HO := Lib.hid hown
    have HB := Lib.hid hb
    have hsz : (bs l).size = l.length := bs_size l
    have hs2 := HS2.out
    have hm2 := HM2.out
    have HSl : Hid ((l.drop fr).length = l.length - fr) := Lib.hid (by simp)
    have d7 : decide ((out.length : Int) < most) = true := by have := HMo.out; simp; omega
    clear heq hown hb
    by_cases g1 : (l.length : Int) - fr ≤ sz
    · have HEn := Lib.hid (partsL_end (size := sz) (n := mo - out.length) (s := l.drop fr) (by have := HSl.out; omega))
      have HFt : Hid (fitW sz (l.drop fr) = l.drop fr) := Lib.hid (by rw [fitW, if_neg (by have := HSl.out; omega)])
      have hx : (bs l).extract fr l.length = bs (l.drop fr) := bs_drop l fr
      have d1 : decide ((l.length : Int) - fr ≤ sz) = true := by simp; omega
      go_wp2_with (first
        | (at_builtin; refine wp_append_l rfl (.tmp 27) (.tmp 31) rfl slStr strLay w.heap.size (xs := out) (ys := [l.drop fr]) rfl rfl (HO.out.alloc _) rfl rfl (RdL.one (enc := strE) wr (l.drop fr) _ _ rfl _ rfl) (by simp; omega) (by have := HB.out.size; simp; omega) ?_; intro A3 c3 w6 hown3 hg3 hb3 hat3; have HO3 := Lib.hid hown3; have HB3 := Lib.hid (((Below.refl w.heap.size wr).alloc HB.out.size _).trans hb3); clear hown3 hg3 hb3 hat3)
        | fail)
      go_ret
      have hfin : partsF l sz most = out ++ [l.drop fr] := by rw [HD.out, HE.out, HEn.out, HFt.out]
      exact ⟨A3, c3, by rw [hfin]; simp, by rw [hfin]; exact HO3.out, HB.out.trans HB3.out⟩
    · have d1 : decide ((l.length : Int) - fr ≤ sz) = false := by simp; omega
      have hmo2 := HMo.out
      by_cases g2 : (out.length : Int) = most - 1
      · have HEn := Lib.hid (partsL_end (size := sz) (n := mo - out.length) (s := l.drop fr) (by omega))
        have HFt : Hid (fitW sz (l.drop fr) = (l.drop fr).take (sz - 1) ++ [43]) := Lib.hid (by rw [fitW, if_pos (by have := HSl.out; omega)])
        have hx : (bs l).extract fr (fr + sz - 1) = bs ((l.drop fr).take (sz - 1)) := by rw [bs_extract, List.drop_take]; congr 2; omega
        have d2 : ((out.length : Int) == most - 1) = true := by simpa using g2
        have hlt : ((l.drop fr).take (sz - 1)).length ≤ 1000000 := by simp; omega
        have hot : out.length ≤ 1000000 := by omega
        have b0 : (0 : Int) ≤ (fr : Int) + sz - 1 := by omega
        have b1 : (fr : Int) ≤ (fr : Int) + sz - 1 := by omega
        have b2 : (fr : Int) + sz - 1 ≤ l.length := by omega
        have b3 : fr ≤ fr + sz - 1 := by omega
        have b4 : fr + sz - 1 ≤ l.length := by omega
        have b5 : ((fr : Int) + sz - 1).toNat = fr + sz - 1 := by omega
        clear hmo2 g2
        go_wp2_with (first
          | ((with_reducible show wpList _ _ _ (Oper.mk _ (Op.binOp .add 9 _ _ _) _ _ _ _ :: _) _ _); refine wp_cat rfl rfl Tryd.underlying9 rfl rfl (by first | omega | (simp; done) | (simp; omega)) ?_)
          | (at_builtin; refine wp_append_l rfl (.tmp 38) (.tmp 47) rfl slStr strLay w.heap.size (xs := out) (ys := [(l.drop fr).take (sz - 1) ++ [43]]) rfl rfl (HO.out.alloc _) rfl rfl (RdL.one (enc := strE) wr ((l.drop fr).take (sz - 1) ++ [43]) _ _ rfl _ rfl) (by simp; omega) (by have := HB.out.size; simp; omega) ?_; intro A3 c3 w6 hown3 hg3 hb3 hat3; have HO3 := Lib.hid hown3; have HB3 := Lib.hid (((Below.refl w.heap.size wr).alloc HB.out.size _).trans hb3); clear hown3 hg3 hb3 hat3)
          | fail)
        go_ret
        have hfin : partsF l sz most = out ++ [(l.drop fr).take (sz - 1) ++ [43]] := by rw [HD.out, HE.out, HEn.out, HFt.out]
        exact ⟨A3, c3, by rw [hfin]; simp, by rw [hfin]; exact HO3.out, HB.out.trans HB3.out⟩
      · have HSt := Lib.hid (partsL_step (size := sz) (n := mo - out.length) (s := l.drop fr) (by have := HSl.out; omega) (by omega))
        have hx : (bs l).extract fr (fr + sz) = bs ((l.drop fr).take sz) := by rw [bs_extract, List.drop_take]; congr 2; omega
        have d2 : ((out.length : Int) == most - 1) = false := by simpa using g2
        clear hmo2
        go_wp2_with (first
          | (at_builtin; refine wp_append_l rfl (.tmp 49) (.tmp 56) rfl slStr strLay w.heap.size (xs := out) (ys := [(l.drop fr).take sz]) rfl rfl (HO.out.alloc _) rfl rfl (RdL.one (enc := strE) wr ((l.drop fr).take sz) _ _ rfl _ rfl) (by simp; omega) (by have := HB.out.size; simp; omega) ?_; intro A3 c3 w6 hown3 hg3 hb3 hat3; have HO3 := Lib.hid hown3; have HB3 := Lib.hid (((Below.refl w.heap.size wr).alloc HB.out.size _).trans hb3); clear hown3 hg3 hb3 hat3)
          | fail)
        go_roundw
        case rel => exact ⟨fr + sz, out ++ [(l.drop fr).take sz], A3, c3, by go_num, by simp, by rw [HE.out, HSt.out, List.append_assoc, List.drop_drop]; simp [Nat.sub_sub], by have := HMo.out; simp; omega, by omega, by simp; omega, HO3.out, HB.out.trans HB3.out⟩
        case measure => simp [intOf]; omega
end Go.Proofs.YtpcfmmiiokbjbaaDoor
