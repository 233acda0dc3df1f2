/- Contracts and plain laws, joined: WrH. -/
import Derived.Test.YtlgnggogiopjaaaGreatDoorQaw
import Derived.Test.YtlgnggogiopjaaaGreatDoorQao
/- Contracts of lingualaw01's own functions. -/
set_option linter.unusedSimpArgs false
set_option linter.unusedVariables false
namespace Go.Proofs.YtlgnggogiopjaaaGreatDoor
open Go.RowKit

theorem eq_take {T : Type} (xs ys : List T) (k : Nat) (hk : k < xs.length) (hk2 : k < ys.length) (h : xs.take k = ys.take k) (he : xs[k] = ys[k]) : xs.take (k + 1) = ys.take (k + 1) := by
  rw [List.take_succ_eq_append_getElem hk, List.take_succ_eq_append_getElem hk2, h, he]
theorem ne_at {T : Type} (xs ys : List T) (k : Nat) (hk : k < xs.length) (hk2 : k < ys.length) (he : ¬ xs[k] = ys[k]) : ¬ xs = ys := fun h => he (by subst h; rfl)
theorem rd_int' {w : World} {A : Option Addr} {xs : List Int} {k : Nat} (h : RdL 1 intE w w.heap.size A xs) (hk : k < xs.length) : ∃ b off, A = some ⟨b, off, none⟩ ∧ b < w.heap.size ∧ w.cell? ⟨b, off + k, none⟩ = some (.int .i64 xs[k]) := by
  obtain ⟨b, off, e, hb, hc⟩ := h.at_ hk
  exact ⟨b, off, e, hb, by simpa using hc 0 _ rfl⟩
theorem rd_str' {w : World} {A : Option Addr} {xs : List (List UInt8)} {k : Nat} (h : RdL 1 strE w w.heap.size A xs) (hk : k < xs.length) : ∃ b off, A = some ⟨b, off, none⟩ ∧ b < w.heap.size ∧ w.cell? ⟨b, off + k, none⟩ = some (.string (bs xs[k])) := by
  obtain ⟨b, off, e, hb, hc⟩ := h.at_ hk
  exact ⟨b, off, e, hb, by simpa using hc 0 _ rfl⟩
/-- The kind of a value. -/
def VM.knd (v : VM) : Int := if v.kind.tmod 5 < 0 then v.kind.tmod 5 + 5 else v.kind.tmod 5
theorem VM.knd_in (v : VM) : 0 ≤ v.knd ∧ v.knd < 5 := by
  unfold VM.knd
  have h := Int.tmod_lt_of_pos v.kind (show (0 : Int) < 5 by decide)
  have h2 := Int.lt_tmod_of_pos v.kind (show (0 : Int) < 5 by decide)
  split <;> omega
def numV (n : Int) : Int := if n < 0 then -(n + 1) else n
theorem numV_in {n : Int} (h : InInt n) : InInt (numV n) ∧ 0 ≤ numV n := by
  unfold numV InInt at *
  split <;> omega
end Go.Proofs.YtlgnggogiopjaaaGreatDoor
