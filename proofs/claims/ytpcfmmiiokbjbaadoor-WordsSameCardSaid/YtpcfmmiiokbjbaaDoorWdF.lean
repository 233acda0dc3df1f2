/- Contract of the reference's Words. -/
import Derived.Test.YtpcfmmiiokbjbaaDoorWdE
namespace Go.Proofs.YtpcfmmiiokbjbaaDoor
open Go.RowKit

theorem slByte : SlTy Tryd.prog 41 5 1 1 := by
  obtain ⟨i, hi, h0, h1, h2⟩ := info_parts (show (Tryd.prog.info? 5).map (fun i => (i.zero, i.size, i.bytes)) = some (some (.int .u8 0), 1, 1) by kernel_rfl)
  exact ⟨Tryd.underlying41, ⟨i, _, hi, h0, h1, h2, rfl⟩, by decide, by decide⟩
/-- The words so far, and the one that is being read. -/
structure W2 (w wx : World) (Ao : Option Addr) (co : Nat) (out : List (List UInt8)) (An : Option Addr) (cn : Nat) (now : List UInt8) : Prop where
  b : Below w.heap.size w wx
  o1 : OwnL wx w.heap.size 9 1 strE Ao co out
  o2 : OwnL wx w.heap.size 5 1 byteE An cn now
  nn : ∀ i, slBlk Ao = some i → slBlk An ≠ some i
section
variable {w wx wy : World} {Ao An : Option Addr} {co cn : Nat} {out : List (List UInt8)} {now : List UInt8}
theorem W2.on (h : W2 w wx Ao co out An cn now) (hb : Below wx.heap.size wx wy) : W2 w wy Ao co out An cn now :=
  ⟨h.b.trans (hb.mono h.b.size), h.o1.below hb, h.o2.below hb, h.nn⟩
theorem W2.reset (h : W2 w wx Ao co out An cn now) : W2 w wx Ao co out none 0 [] := ⟨h.b, h.o1, OwnL.nil_, fun i _ => by simp [slBlk]⟩
theorem W2.app1 (h : W2 w wx Ao co out An cn now) {A2 : Option Addr} {c2 : Nat} {out2 : List (List UInt8)} (ho : OwnL wy w.heap.size 9 1 strE A2 c2 out2) (hg : wx.grownBy wy (slBlk Ao)) (hat : slBlk A2 = slBlk Ao ∨ slBlk A2 = some wx.heap.size) : W2 w wy A2 c2 out2 An cn now := by
  refine ⟨h.b.grown hg h.b.size (fun j hj => (h.o1.blk_lt hj).1), ho, h.o2.turn (fun i hi hlt => hg.block i hlt (fun e => h.nn i e.symm hi)), fun i hi hq => ?_⟩
  rcases hat with e | e
  · exact h.nn i (e ▸ hi) hq
  · rw [e] at hi
    have := (h.o2.blk_lt hq).2
    have := Option.some.inj hi
    omega
theorem W2.app2 (h : W2 w wx Ao co out An cn now) {A2 : Option Addr} {c2 : Nat} {now2 : List UInt8} (ho : OwnL wy w.heap.size 5 1 byteE A2 c2 now2) (hg : wx.grownBy wy (slBlk An)) (hat : slBlk A2 = slBlk An ∨ slBlk A2 = some wx.heap.size) : W2 w wy Ao co out A2 c2 now2 := by
  refine ⟨h.b.grown hg h.b.size (fun j hj => (h.o2.blk_lt hj).1), h.o1.turn (fun i hi hlt => hg.block i hlt (fun e => h.nn i hi e.symm)), ho, fun i hi hq => ?_⟩
  rcases hat with e | e
  · exact h.nn i hi (e ▸ hq)
  · rw [e] at hq
    have := (h.o1.blk_lt hi).2
    have := Option.some.inj hq
    omega
end
theorem fold_succ (l : List UInt8) (k : Nat) (hk : k < l.length) : (l.take (k + 1)).foldl wstep ([], []) = wstep ((l.take k).foldl wstep ([], [])) l[k] := by
  rw [List.take_succ_eq_append_getElem hk, List.foldl_append]
  rfl
theorem fold_now : ∀ (l : List UInt8) (a : List (List UInt8) × List UInt8), (l.foldl wstep a).2.length ≤ a.2.length + l.length ∧ (l.foldl wstep a).1.length ≤ a.1.length + l.length
  | [], a => by simp
  | c :: r, a => by
    have h := fold_now r (wstep a c)
    have h2 : (wstep a c).2.length ≤ a.2.length + 1 ∧ (wstep a c).1.length ≤ a.1.length + 1 := by
      unfold wstep
      split
      · simp
      · simp only
        split <;> simp
    rw [List.foldl_cons, List.length_cons]
    omega
set_option maxHeartbeats 2000000 in
theorem wordsR_any (l : List UInt8) (w : World) (hl : l.length ≤ 1000000) :
    Calls Tryd.prog 11 #[.string (bs l)] w fun x w' => ∃ A c, x = .returned (.slice A (wordsF l).length c) ∧ OwnL w' w.heap.size 9 1 strE A c (wordsF l) ∧ Below w.heap.size w w' := by
  have hsz : (bs l).size = l.length := bs_size l
  go_enter Tryd.func11, Tryd.ntmps11
  go_wp2_with fail
  go_loopw [3, 4, 5] (fun o n i wr => ∃ (k : Nat) (out : List (List UInt8)) (now : List UInt8) (Ao : Option Addr) (co : Nat) (An : Option Addr) (cn : Nat), k ≤ l.length ∧ i = .int .i64 k ∧ o = .slice Ao out.length co ∧ n = .slice An now.length cn ∧ (l.take k).foldl wstep ([], []) = (out, now) ∧ W2 w wr Ao co out An cn now) (fun _ _ i _ => l.length - (intOf i).toNat)
  case atStart => exact ⟨0, [], [], none, 0, none, 0, Nat.zero_le _, rfl, rfl, rfl, rfl, ⟨Below.refl _ _, OwnL.nil_, OwnL.nil_, fun i hi => by simp [slBlk] at hi⟩⟩
  case round =>
    obtain ⟨k, out, now, Ao, co, An, cn, hk, rfl, rfl, rfl, hf, hw⟩ := hrel
    have HFo := Lib.hid hf
    have HW := Lib.hid hw
    have hln : now.length ≤ k ∧ out.length ≤ k := by
      have h := fold_now (l.take k) ([], [])
      rw [hf, List.length_take] at h
      simp only [List.length_nil] at h
      omega
    have hl1 := hln.1
    have hl2 := hln.2
    clear hf hw hln
    by_cases hlt : k < l.length
    · have HSt := Lib.hid (fold_succ l k hlt)
      rw [HFo.out] at HSt
      have hget : ∀ h, (bs l)[k]'h = l[k]'hlt := fun h => rfl
      generalize l[k] = c at *
      go_wp2_with fail
      refine (letter_any c _).mono ?_
      rintro e w4 ⟨rfl, rfl⟩
      cases hp : partB c.toNat
      · have hz := (let_zero c).2 hp
        rw [hz]
        have HSt2 : Hid ((l.take (k + 1)).foldl wstep ([], []) = (wfin (out, now), [])) := Lib.hid (by rw [HSt.out, wstep, hp, if_neg (by simp)]; rfl)
        clear hp hz
        by_cases hne : now = []
        · have HR : Hid (wfin (out, now) = out) := Lib.hid (by rw [wfin, if_pos hne])
          have hnl : now.length = 0 := by rw [hne]; rfl
          have d1 : decide ((0 : Int) < now.length) = false := by simp; omega
          clear hne
          go_wp2_with fail
          go_roundw
          case rel => exact ⟨k + 1, out, [], Ao, co, none, 0, by omega, by go_num, rfl, rfl, by rw [HSt2.out, HR.out], HW.out.reset⟩
          case measure => simp [intOf]; omega
        · have HNe := Lib.hid hne
          have HR : Hid (wfin (out, now) = out ++ [now]) := Lib.hid (by rw [wfin, if_neg hne])
          have hnl : 0 < now.length := by cases now with
            | nil => exact absurd rfl hne
            | cons _ _ => simp
          clear hne
          go_wp2_with (first
            | ((with_reducible show wpList _ _ _ (Oper.mk _ (Op.convert 41 9 _) _ _ _ _ :: _) _ _); refine wp_string_l rfl _ _ _ rfl Tryd.underlying41 Tryd.underlying5 Tryd.underlying9 rfl rfl HNe.out (HW.out.o2.rd byteLay) ?_)
            | (at_builtin; refine wp_append_l rfl (.tmp 26) (.tmp 29) rfl slStr strLay w.heap.size (xs := out) (ys := [now]) rfl rfl (HW.out.o1.alloc _) rfl rfl (RdL.one wr now _ _ rfl _ rfl) (by simp; omega) (by have := HW.out.b.size; simp; omega) ?_; intro A3 c3 w6 hown3 hg3 hb3 hat3; rw [own_blk] at hg3 hat3; rw [own_blk] at hat3; have HW3 := Lib.hid ((HW.out.on ((Below.refl wr.heap.size wr).alloc (Nat.le_refl _) (.cells #[.string (bs now)] 9))).app1 hown3 hg3 hat3); clear hown3 hg3 hb3 hat3)
            | fail)
          go_roundw
          case rel => exact ⟨k + 1, out ++ [now], [], A3, c3, none, 0, by omega, by go_num, by simp, rfl, by rw [HSt2.out, HR.out], HW3.out.reset⟩
          case measure => simp [intOf]; omega
      · have HLf : Hid (letF c = Lib.lowerB c) := Lib.hid (by rw [letF, hp, if_pos rfl])
        have HSt2 : Hid ((l.take (k + 1)).foldl wstep ([], []) = (out, now ++ [letF c])) := Lib.hid (by rw [HSt.out, wstep, hp, if_pos rfl, HLf.out])
        have hnz : ((letF c).toNat : Int) ≠ 0 := fun h => by
          have h1 : letF c = 0 := by rw [← UInt8.toNat_inj]; exact_mod_cast h
          have h2 := (let_zero c).1 h1
          rw [hp] at h2
          cases h2
        have q1 : (((letF c).toNat : Int) != 0) = true := by simpa using hnz
        clear hp hnz
        generalize letF c = y at *
        go_wp2_with (first
          | (at_builtin; refine wp_append_l rfl (.tmp 19) (.tmp 21) rfl slByte byteLay w.heap.size (xs := now) (ys := [y]) rfl rfl (HW.out.o2.alloc _) rfl rfl (RdL.one wr y _ _ rfl _ rfl) (by simp; omega) (by have := HW.out.b.size; simp; omega) ?_; intro A3 c3 w6 hown3 hg3 hb3 hat3; rw [own_blk] at hg3 hat3; rw [own_blk] at hat3; have HW3 := Lib.hid ((HW.out.on ((Below.refl wr.heap.size wr).alloc (Nat.le_refl _) (.cells #[.int .u8 y.toNat] 5))).app2 hown3 hg3 hat3); clear hown3 hg3 hb3 hat3)
          | fail)
        go_roundw
        case rel => exact ⟨k + 1, out, now ++ [y], Ao, co, A3, c3, by omega, by go_num, rfl, by simp, HSt2.out, HW3.out⟩
        case measure => simp [intOf]; omega
    · have HE : Hid (wordsF l = wfin (out, now)) := Lib.hid (by have h := HFo.out; rw [List.take_of_length_le (by omega)] at h; rw [wordsF, h])
      by_cases hne : now = []
      · have HR : Hid (wfin (out, now) = out) := Lib.hid (by rw [wfin, if_pos hne])
        have hnl : now.length = 0 := by rw [hne]; rfl
        have d1 : decide ((0 : Int) < now.length) = false := by simp; omega
        clear hne
        go_wp2_with fail
        go_ret
        exact ⟨Ao, co, by rw [HE.out, HR.out]; rfl, by rw [HE.out, HR.out]; exact HW.out.o1, HW.out.b⟩
      · have HNe := Lib.hid hne
        have HR : Hid (wfin (out, now) = out ++ [now]) := Lib.hid (by rw [wfin, if_neg hne])
        have hnl : 0 < now.length := by cases now with
          | nil => exact absurd rfl hne
          | cons _ _ => simp
        clear hne
        go_wp2_with (first
          | ((with_reducible show wpList _ _ _ (Oper.mk _ (Op.convert 41 9 _) _ _ _ _ :: _) _ _); refine wp_string_l rfl _ _ _ rfl Tryd.underlying41 Tryd.underlying5 Tryd.underlying9 rfl rfl HNe.out (HW.out.o2.rd byteLay) ?_)
          | (at_builtin; refine wp_append_l rfl (.tmp 34) (.tmp 37) rfl slStr strLay w.heap.size (xs := out) (ys := [now]) rfl rfl (HW.out.o1.alloc _) rfl rfl (RdL.one wr now _ _ rfl _ rfl) (by simp; omega) (by have := HW.out.b.size; simp; omega) ?_; intro A3 c3 w6 hown3 hg3 hb3 hat3; rw [own_blk] at hg3 hat3; rw [own_blk] at hat3; have HW3 := Lib.hid ((HW.out.on ((Below.refl wr.heap.size wr).alloc (Nat.le_refl _) (.cells #[.string (bs now)] 9))).app1 hown3 hg3 hat3); clear hown3 hg3 hb3 hat3)
          | fail)
        go_ret
        exact ⟨A3, c3, by rw [HE.out, HR.out]; simp, by rw [HE.out, HR.out]; exact HW3.out.o1, HW3.out.b⟩
end Go.Proofs.YtpcfmmiiokbjbaaDoor
