/- Contracts of linguaref01's reader: it does what the program's does. -/
import Derived.Test.YtoibgenhbpppdaaDoorWrK
import Derived.Test.YtoibgenhbpppdaaDoorWrP
namespace Go.Proofs.YtoibgenhbpppdaaDoor
open Go.RowKit

def RqAt (b : Nat) (s : RS) (w : World) : Prop := w.heap[b]? = some (.cells #[.string (bs s.rest), .bool s.bad] 59 (0, 0))
section
variable {b : Nat} {s s' : RS} {w w' : World}
theorem RqAt.lt (h : RqAt b s w) : b < w.heap.size := box_lt h
theorem RqAt.c0 (h : RqAt b s w) : w.cell? ⟨b, 0, none⟩ = some (.string (bs s.rest)) := box_cell h 0 _ rfl
theorem RqAt.c1 (h : RqAt b s w) : w.cell? ⟨b, 1, none⟩ = some (.bool s.bad) := box_cell h 1 _ rfl
theorem RqAt.free (h : RqAt b s w) (j : Nat) : w.frozen? ⟨b, j, none⟩ = false := box_free h j
theorem RqAt.now (h : RqAt b s w) (hb : Below w.heap.size w w') : RqAt b s w' := (hb.block b h.lt).trans h
theorem RqAt.set0 (h : RqAt b s w) (l : List UInt8) : RqAt b ⟨l, s.bad⟩ (w.setCell ⟨b, 0, none⟩ (.string (bs l))) := by
  unfold RqAt at *
  simp [World.setCell, Array.getElem?_modify, h]
theorem RqAt.set1 (h : RqAt b s w) (x : Bool) : RqAt b ⟨s.rest, x⟩ (w.setCell ⟨b, 1, none⟩ (.bool x)) := by
  unfold RqAt at *
  simp [World.setCell, Array.getElem?_modify, h]
end
/-- A reader that has failed has nothing left. -/
def Good (s : RS) : Prop := s.bad = true → s.rest = []

theorem qFail_any (b : Nat) (s : RS) (w : World) (h : RqAt b s w) :
    Calls Tryd.prog 44 #[.pointer (some ⟨b, 0, none⟩)] w fun e w' => e = .returned (.int .i64 0) ∧ RqAt b .fail w' ∧ Turn (One b) w w' := by
  have c0 := h.c0
  have c1 := h.c1
  have f0 := h.free 0
  have f1 := h.free 1
  go_enter Tryd.func44, Tryd.ntmps44
  go_wp2_with fail
  go_ret
  exact ⟨rfl, (h.set0 []).set1 true, ((Turn.refl (One b) w).set b 0 _ (.inl rfl)).set b 1 _ (.inl rfl)⟩

/-- A digit more, from the left, as a negative number. -/
def bstep (n : Int) (c : UInt8) : Int := wrap64 (wrap64 (10 * n) - ((c.toNat : Int) - 48))
def bfold (l : List UInt8) : Int := l.foldl bstep 0
theorem bstep_dig {a : Int} {d : Nat} (hd : d < 10) (h0 : a ≤ 0) (h : -9223372036854775808 ≤ 10 * a - d) : bstep a (UInt8.ofNat (48 + d)) = 10 * a - d := by
  have e := dig_nat hd
  unfold bstep
  rw [e, wrap_id (x := 10 * a) (by omega)]
  rw [show ((48 + d : Nat) : Int) - 48 = d by omega, wrap_id (by omega)]
theorem bfold_dd : ∀ u : Nat, u ≤ 9223372036854775808 → bfold (Lib.decDigits u) = -(u : Int) := by
  intro u
  induction u using Nat.strongRecOn with
  | _ u ih =>
    intro h
    by_cases hu : u < 10
    · rw [dd_small hu]
      show bstep 0 _ = _
      rw [bstep_dig hu (by omega) (by omega)]; omega
    · rw [dd_big hu]
      unfold bfold
      rw [List.foldl_append]
      have := ih (u / 10) (by omega) (by omega)
      unfold bfold at this
      rw [this]
      show bstep _ _ = _
      rw [bstep_dig (by omega) (by omega) (by omega)]; omega
theorem bfold_in (l : List UInt8) : InInt (bfold l) := by
  have one : ∀ (l : List UInt8) (a : Int), InInt a → InInt (l.foldl bstep a) := by
    intro l
    induction l with
    | nil => intro a h; exact h
    | cons c l ih =>
      intro a h
      refine ih _ ?_
      unfold bstep InInt
      generalize wrap64 (10 * a) - ((c.toNat : Int) - 48) = x
      unfold wrap64
      omega
  exact one l 0 ⟨by decide, by decide⟩
theorem bfold_snoc (l : List UInt8) (c : UInt8) : bfold (l ++ [c]) = bstep (bfold l) c := by simp [bfold]

/-- What 'Back' is asked for: the int of a decimal form. -/
def IsForm (l : List UInt8) (v : Int) (ok : Bool) : Prop := (ok = true → Lib.itoa v = l ∧ InInt v) ∧ (ok = false → ∀ m, InInt m → Lib.itoa m ≠ l)
def isDig (c : UInt8) : Prop := 48 ≤ c.toNat ∧ c.toNat ≤ 57
theorem itoa_shape (m : Int) (hm : InInt m) : (∃ r, Lib.itoa m = 45 :: r ∧ (∀ c ∈ r, isDig c) ∧ bfold r = m) ∨ (∃ r, Lib.itoa m = r ∧ r ≠ [] ∧ (∀ c ∈ r, isDig c) ∧ wrap64 (-bfold r) = m) := by
  have h0 := hm.1
  have h1 := hm.2
  by_cases h : m < 0
  · left
    refine ⟨Lib.decDigits m.natAbs, by rw [Lib.itoa, if_pos h], fun c hc => dd_dig _ c hc, ?_⟩
    rw [bfold_dd _ (by omega)]; omega
  · right
    refine ⟨Lib.decDigits m.toNat, by rw [Lib.itoa, if_neg h], dd_ne _, fun c hc => dd_dig _ c hc, ?_⟩
    rw [bfold_dd _ (by omega), wrap_id (by omega)]; omega
end Go.Proofs.YtoibgenhbpppdaaDoor
