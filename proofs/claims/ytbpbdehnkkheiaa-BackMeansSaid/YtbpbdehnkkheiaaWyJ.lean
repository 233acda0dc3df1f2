/- Contract of ways.first. -/
import Derived.Test.YtbpbdehnkkheiaaWyI
namespace Go.Proofs.Ytbpbdehnkkheiaa
open Go.RowKit

def choC (x : Bool × Int × Int) : List Value := [.bool x.1, .int .i64 x.2.1, .int .i64 x.2.2]
theorem choLay : Lay 3 choC := ⟨fun _ => rfl, fun x u hu => by simp only [choC, List.mem_cons, List.not_mem_nil, or_false] at hu; rcases hu with rfl | rfl | rfl <;> rfl⟩
def firstW : List (Bool × Int × Int) → Int × Int
  | [] => (5, 2)
  | (b, x) :: r => if b then x else firstW r
theorem firstW_drop {xs : List (Bool × Int × Int)} {k : Nat} {b : Bool} {x : Int × Int} (h : xs[k]? = some (b, x)) : firstW (xs.drop k) = if b then x else firstW (xs.drop (k + 1)) := by
  obtain ⟨hk, he⟩ := List.getElem?_eq_some_iff.1 h
  rw [List.drop_eq_getElem_cons hk, he]
  rfl

end Go.Proofs.Ytbpbdehnkkheiaa
