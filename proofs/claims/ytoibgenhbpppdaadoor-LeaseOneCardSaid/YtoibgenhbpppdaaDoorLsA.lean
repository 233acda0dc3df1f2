/- Contracts of package lease and of its reference: valid, May. -/
import Derived.Test.YtoibgenhbpppdaaDoorBox
import Derived.Test.YtoibgenhbpppdaaDoorWrB
namespace Go.Proofs.YtoibgenhbpppdaaDoor
open Go.RowKit

/-- A lease. -/
structure Ls where
  who : Int
  epoch : Int
  till : Int
def Ls.cs (l : Ls) : List Value := [.int .i64 l.who, .int .i64 l.epoch, .int .i64 l.till]
def Ls.v (l : Ls) : Value := .agg #[.int .i64 l.who, .int .i64 l.epoch, .int .i64 l.till]
def withinB (n m : Int) : Bool := decide (0 ≤ n) && decide (n ≤ m)
def Ls.fine (l : Ls) : Bool := withinB l.who 99 && (withinB l.epoch 1073741824 && withinB l.till 1073741824)

theorem within_any (n m : Int) (w : World) : Calls Tryd.prog 20 #[.int .i64 n, .int .i64 m] w fun e w' => e = .returned (.bool (withinB n m)) ∧ w = w' := by
  go_enter Tryd.func20, Tryd.ntmps20
  go_wp2
  all_goals go_ret
  all_goals exact ⟨by simp_all [withinB] <;> omega, rfl⟩

theorem validL_any (l : Ls) (w : World) : Calls Tryd.prog 18 #[l.v] w fun e w' => e = .returned (.bool l.fine) ∧ Below w.heap.size w w' := by
  have HB := Lib.hid ((Below.refl w.heap.size w).alloc (Nat.le_refl _) (.cells #[.int .i64 l.who, .int .i64 l.epoch, .int .i64 l.till] 23))
  unfold Ls.v
  go_enter Tryd.func18, Tryd.ntmps18
  go_wp2
  all_goals go_ret
  all_goals exact ⟨by simp_all [Ls.fine, withinB] <;> omega, HB.out⟩

theorem right_any (l : Ls) (w : World) : Calls Tryd.prog 19 #[l.v] w fun e w' => e = .returned (.bool l.fine) ∧ Below w.heap.size w w' := by
  have HB := Lib.hid ((Below.refl w.heap.size w).alloc (Nat.le_refl _) (.cells #[.int .i64 l.who, .int .i64 l.epoch, .int .i64 l.till] 23))
  unfold Ls.v
  go_enter Tryd.func19, Tryd.ntmps19
  go_wp2_with fail
  refine (within_any _ _ _).mono ?_
  rintro e w1 ⟨rfl, rfl⟩
  cases h1 : withinB l.who 99
  · go_wp2_with fail
    go_ret
    exact ⟨by simp [Ls.fine, h1], HB.out⟩
  go_wp2_with fail
  refine (within_any _ _ _).mono ?_
  rintro e w1 ⟨rfl, rfl⟩
  cases h2 : withinB l.epoch 1073741824
  · go_wp2_with fail
    go_ret
    exact ⟨by simp [Ls.fine, h1, h2], HB.out⟩
  go_wp2_with fail
  refine (within_any _ _ _).mono ?_
  rintro e w1 ⟨rfl, rfl⟩
  go_wp2_with fail
  go_ret
  exact ⟨by simp [Ls.fine, h1, h2], HB.out⟩

end Go.Proofs.YtoibgenhbpppdaaDoor
