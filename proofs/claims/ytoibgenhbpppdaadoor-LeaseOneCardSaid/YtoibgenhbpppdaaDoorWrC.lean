/- Contracts of package wire: lists. -/
import Derived.Test.YtoibgenhbpppdaaDoorWrB
namespace Go.Proofs.YtoibgenhbpppdaaDoor
open Go.RowKit

def intE (n : Int) : List Value := [.int .i64 n]
def strE (l : List UInt8) : List Value := [.string (bs l)]
theorem rd_int {w : World} {A : Option Addr} {xs : List Int} {k : Nat} (h : RdL 1 intE w w.heap.size A xs) (hk : k < xs.length) : ∃ b off, A = some ⟨b, off, none⟩ ∧ w.cell? ⟨b, off + k, none⟩ = some (.int .i64 xs[k]) := by
  obtain ⟨b, off, e, hb, hc⟩ := h.at_ hk
  exact ⟨b, off, e, by simpa using hc 0 _ rfl⟩
theorem rd_str {w : World} {A : Option Addr} {xs : List (List UInt8)} {k : Nat} (h : RdL 1 strE w w.heap.size A xs) (hk : k < xs.length) : ∃ b off, A = some ⟨b, off, none⟩ ∧ w.cell? ⟨b, off + k, none⟩ = some (.string (bs xs[k])) := by
  obtain ⟨b, off, e, hb, hc⟩ := h.at_ hk
  exact ⟨b, off, e, by simpa using hc 0 _ rfl⟩

theorem strCells_bs (l : List UInt8) : Lib.strCells (bs l) = Lib.byteCells l := by simp [Lib.strCells, Lib.byteCells, bs]
theorem flat_succ {T : Type} (one : T → List UInt8) (xs : List T) (k : Nat) (hk : k < xs.length) : (xs.take (k + 1)).flatMap one = (xs.take k).flatMap one ++ one xs[k] := by
  rw [List.take_succ_eq_append_getElem hk, List.flatMap_append]; simp
theorem flat_le {T : Type} (one : T → List UInt8) (xs : List T) (k : Nat) : ((xs.take k).flatMap one).length ≤ (xs.flatMap one).length := by
  conv => rhs; rw [← List.take_append_drop k xs, List.flatMap_append, List.length_append]
  omega

theorem flat_bound {T : Type} (one : T → List UInt8) (m : Nat) : ∀ xs : List T, (∀ x ∈ xs, (one x).length ≤ m) → (xs.flatMap one).length ≤ xs.length * m
  | [], _ => by simp
  | x :: r, h => by
    have h1 := h x (by simp)
    have h2 := flat_bound one m r (fun y hy => h y (by simp [hy]))
    simp only [List.flatMap_cons, List.length_append, List.length_cons, Nat.add_mul]
    omega

/-- The bytes of a list of strings. -/
def tot (xs : List (List UInt8)) : Nat := (xs.map List.length).sum
theorem tot_le {xs : List (List UInt8)} {x : List UInt8} (h : x ∈ xs) : x.length ≤ tot xs := by
  induction xs with
  | nil => cases h
  | cons y r ih =>
    rcases List.mem_cons.1 h with rfl | h
    · simp [tot]
    · have := ih h
      simp only [tot, List.map_cons, List.sum_cons] at *
      omega
theorem flat_tot : ∀ xs : List (List UInt8), (∀ x ∈ xs, InInt x.length) → (xs.flatMap encT).length ≤ 23 * xs.length + tot xs
  | [], _ => by simp
  | x :: r, h => by
    have h1 := encT_len x (h x (by simp))
    have h2 := flat_tot r (fun y hy => h y (by simp [hy]))
    simp only [List.flatMap_cons, List.length_append, List.length_cons, tot, List.map_cons, List.sum_cons] at *
    omega
end Go.Proofs.YtoibgenhbpppdaaDoor
