/- The contract of linguaref01.Back. -/
import Derived.Test.YtoibgenhbpppdaaDoorWrQ
import Derived.Test.YtoibgenhbpppdaaDoorWrD
namespace Go.Proofs.YtoibgenhbpppdaaDoor
open Go.RowKit

theorem bs_get (l : List UInt8) (k : Nat) (h : k < (bs l).size) : (bs l)[k]'h = l[k]'h := rfl
/-- Where the digits begin. -/
def FromOk (l : List UInt8) (f : Nat) : Prop := (f = 1 ∧ ∃ r, l = 45 :: r) ∨ (f = 0 ∧ ∀ r, l ≠ 45 :: r)
theorem not_dig45 : ¬ isDig 45 := by unfold isDig; decide
theorem form_bad {l : List UInt8} {f i : Nat} (hf : FromOk l f) (hfi : f ≤ i) (hi : i < l.length) (h : ¬ isDig l[i]) : IsForm l 0 false := by
  refine ⟨fun h => by simp at h, fun _ m hm he => ?_⟩
  rcases itoa_shape m hm with ⟨r, h1, h2, _⟩ | ⟨r, h1, _, h2, _⟩
  · rw [he] at h1
    rcases hf with ⟨rfl, _⟩ | ⟨_, h3⟩
    · subst h1
      obtain ⟨j, rfl⟩ : ∃ j, i = j + 1 := ⟨i - 1, by omega⟩
      exact h (h2 _ (by simp only [List.getElem_cons_succ]; exact List.getElem_mem _))
    · exact h3 r h1
  · rw [he] at h1
    subst h1
    exact h (h2 _ (List.getElem_mem hi))
theorem form_end {l : List UInt8} {f : Nat} (hf : FromOk l f) {v : Int} (hv : v = if f = 0 then wrap64 (-bfold (l.drop f)) else bfold (l.drop f)) : IsForm l v (decide (Lib.itoa v = l)) := by
  have hin : InInt v := by
    rw [hv]
    split
    · unfold InInt
      generalize -bfold (l.drop f) = x
      unfold wrap64
      omega
    · exact bfold_in _
  refine ⟨fun h => ⟨of_decide_eq_true h, hin⟩, fun h m hm he => ?_⟩
  have hne := of_decide_eq_false h
  apply hne
  have : v = m := by
    rcases itoa_shape m hm with ⟨r, h1, _, h3⟩ | ⟨r, h1, h0, h2, h3⟩
    · rw [he] at h1
      rcases hf with ⟨rfl, _⟩ | ⟨_, h4⟩
      · rw [hv, if_neg (by omega), h1]; exact h3
      · exact absurd h1 (h4 r)
    · rw [he] at h1
      rcases hf with ⟨rfl, r', h4⟩ | ⟨rfl, _⟩
      · have := h2 45 (by rw [← h1, h4]; simp)
        exact absurd this not_dig45
      · rw [hv, if_pos rfl, List.drop_zero, h1]; exact h3
  rw [this, he]
theorem fold_step {l : List UInt8} {f i : Nat} (hfi : f ≤ i) (hi : i < l.length) : bfold ((l.drop f).take (i + 1 - f)) = bstep (bfold ((l.drop f).take (i - f))) l[i] := by
  have h1 : i - f < (l.drop f).length := by simp; omega
  rw [show i + 1 - f = (i - f) + 1 by omega, List.take_succ_eq_append_getElem h1, bfold_snoc]
  congr 1
  simp only [List.getElem_drop]
  congr 1
  omega
theorem form_eq (v : Int) (l : List UInt8) : ((bs (encI v)).toList == (bs (l ++ [59])).toList) = decide (Lib.itoa v = l) := by
  rw [bs_beq, encI, Bool.eq_iff_iff]
  simp
/-- How 'Back' ends. -/
def FormOut (l : List UInt8) (w : World) (e : Ending) (w' : World) : Prop := ∃ v ok, e = .returned (.tuple #[.int .i64 v, .bool ok]) ∧ IsForm l v ok ∧ Below w.heap.size w w'
set_option maxRecDepth 100000 in
set_option maxHeartbeats 4000000 in
theorem qBack_any (l : List UInt8) (w : World) (hl : l.length ≤ 21) :
    Calls Tryd.prog 59 #[.string (bs l)] w (FormOut l w) := by
  have hsz : (bs l).size = l.length := bs_size l
  go_enter Tryd.func59, Tryd.ntmps59
  go_upto_region 2 with fail
  go_cut [14] (fun x wx => ∃ b : Bool, x = .bool b ∧ (b = true ↔ ∃ r, l = 45 :: r) ∧ wx = w)
  case first =>
    cases l with
    | nil =>
      go_wp2_with fail
      go_meet
      exact ⟨false, by simp, by simp, rfl⟩
    | cons c r =>
      have hp2 : (0 : Int) < (c :: r).length := by simp
      have hget : ∀ h, (bs (c :: r))[0]'h = c := fun h => rfl
      by_cases hc : c = 45
      · subst hc
        have h45 : ((((45 : UInt8).toNat : Nat) : Int) == 45) = true := by decide
        go_wp2_with fail
        go_meet
        exact ⟨true, by simp, ⟨fun _ => ⟨r, rfl⟩, fun _ => rfl⟩, rfl⟩
      · have h45 : ((c.toNat : Int) == 45) = false := by
          simp only [beq_eq_false_iff_ne]
          intro h
          apply hc
          have : c.toNat = 45 := by omega
          exact UInt8.toNat_inj.1 this
        go_wp2_with fail
        go_meet
        exact ⟨false, by simp, ⟨fun h => by simp at h, fun ⟨r', h⟩ => absurd (List.cons.inj h).1 hc⟩, rfl⟩
  case rest =>
  obtain ⟨b0, rfl, hb0, rfl⟩ := hcut
  go_upto_if 14 with fail
  go_cut [4] (fun x wx => ∃ f : Nat, x = .int .i64 f ∧ FromOk l f ∧ wx = wc)
  case first =>
    cases b0 with
    | true =>
      have HF := Lib.hid (hb0.1 rfl)
      go_wp2_with fail
      go_meet
      exact ⟨1, by simp, .inl ⟨rfl, HF.out⟩, rfl⟩
    | false =>
      have HF : Hid (∀ r, l ≠ 45 :: r) := Lib.hid (fun r h => by have := hb0.2 ⟨r, h⟩; simp at this)
      go_wp2_with fail
      go_meet
      exact ⟨0, by simp, .inr ⟨rfl, HF.out⟩, rfl⟩
  case rest =>
    clear hb0
    obtain ⟨f, rfl, hf, rfl⟩ := hcut
    have HF := Lib.hid hf
    have hf1 : f ≤ l.length := by
      rcases hf with ⟨rfl, r, rfl⟩ | ⟨rfl, _⟩
      · simp
      · simp
    clear hf
    go_wp2_with fail
    go_loopw [5, 6] (fun n i wr => ∃ k : Nat, f ≤ k ∧ k ≤ l.length ∧ i = .int .i64 k ∧ n = .int .i64 (bfold ((l.drop f).take (k - f))) ∧ wr = wc) (fun _ i _ => l.length - (intOf i).toNat)
    case atStart => exact ⟨f, Nat.le_refl _, hf1, rfl, by rw [Nat.sub_self, List.take_zero]; rfl, rfl⟩
    case round =>
      obtain ⟨k, hfk, hk, rfl, rfl, rfl⟩ := hrel
      by_cases hlt : k < l.length
      · have HSt := Lib.hid (fold_step hfk hlt)
        have HBad := Lib.hid (fun h => form_bad HF.out hfk hlt h)
        obtain ⟨c, hc⟩ : ∃ c, c = l[k] := ⟨_, rfl⟩
        have hget : ∀ h, (bs l)[k]'h = c := fun h => hc.symm
        rw [← hc] at HSt HBad
        have hn := bfold_in ((l.drop f).take (k - f))
        clear hc
        generalize bfold ((l.drop f).take (k - f)) = n at *
        by_cases hd : isDig c
        · have hd1 : ¬ (c.toNat : Int) < 48 := by have := hd.1; omega
          have hd2 : ¬ (57 : Int) < c.toNat := by have := hd.2; omega
          go_wp2_with fail
          go_roundw
          case rel =>
            refine ⟨k + 1, by omega, by omega, by go_num, ?_, by first | rfl | trivial⟩
            rw [HSt.out]
            rfl
          case measure => simp [intOf]; omega
        · have HF2 := Lib.hid (HBad.out hd)
          by_cases hd1 : (c.toNat : Int) < 48
          · go_wp2_with fail
            go_ret2
            exact ⟨0, false, rfl, HF2.out, Below.refl _ _⟩
          · have hd2 : (57 : Int) < c.toNat := by unfold isDig at hd; omega
            clear hd
            go_wp2_with fail
            go_ret2
            exact ⟨0, false, rfl, HF2.out, Below.refl _ _⟩
      · have htk : (l.drop f).take (k - f) = l.drop f := List.take_of_length_le (by simp; omega)
        rw [htk]
        clear htk
        have HE := Lib.hid (fun v (hv : v = if f = 0 then wrap64 (-bfold (l.drop f)) else bfold (l.drop f)) => form_end HF.out hv)
        have hn := bfold_in (l.drop f)
        generalize bfold (l.drop f) = n at *
        by_cases hf0 : f = 0
        · subst hf0
          have HE2 : Hid (IsForm l (wrap64 (-n)) (decide (Lib.itoa (wrap64 (-n)) = l))) := Lib.hid (HE.out _ (by simp))
          have hin : InInt (wrap64 (-n)) := by
            unfold InInt
            generalize -n = x
            unfold wrap64
            omega
          obtain ⟨v, hv⟩ : ∃ v, v = wrap64 (-n) := ⟨_, rfl⟩
          rw [← hv] at HE2 hin
          have HV := Lib.hid hv
          clear hv
          go_wp2_with fail
          rw [← HV.out]
          refine (rInt_any v wr hin).mono ?_
          rintro e w5 ⟨rfl, hb5⟩
          have hl1 := encI_len v hin
          go_wp2_with (first
              | ((with_reducible show wpList _ _ _ (Oper.mk _ (Op.binOp .add 9 _ _ _) _ _ _ _ :: _) _ _); refine wp_cat rfl rfl Tryd.underlying9 rfl rfl (by first | omega | (simp; done) | (simp; omega)) ?_)
              | fail)
          go_ret2
          refine ⟨v, decide (Lib.itoa v = l), ?_, HE2.out, hb5⟩
          rw [← form_eq]
          rfl
        · have HE2 : Hid (IsForm l n (decide (Lib.itoa n = l))) := Lib.hid (HE.out _ (by rw [if_neg hf0]))
          have hin := hn
          have hf1' : f = 1 := by
            rcases HF.out with ⟨h, _⟩ | ⟨h, _⟩
            · exact h
            · exact absurd h hf0
          subst hf1'
          clear hn hf0
          obtain ⟨v, hv⟩ : ∃ v, v = n := ⟨_, rfl⟩
          subst hv
          go_wp2_with fail
          refine (rInt_any v wr hin).mono ?_
          rintro e w5 ⟨rfl, hb5⟩
          have hl1 := encI_len v hin
          go_wp2_with (first
              | ((with_reducible show wpList _ _ _ (Oper.mk _ (Op.binOp .add 9 _ _ _) _ _ _ _ :: _) _ _); refine wp_cat rfl rfl Tryd.underlying9 rfl rfl (by first | omega | (simp; done) | (simp; omega)) ?_)
              | fail)
          go_ret2
          refine ⟨v, decide (Lib.itoa v = l), ?_, HE2.out, hb5⟩
          rw [← form_eq]
          rfl
end Go.Proofs.YtoibgenhbpppdaaDoor
