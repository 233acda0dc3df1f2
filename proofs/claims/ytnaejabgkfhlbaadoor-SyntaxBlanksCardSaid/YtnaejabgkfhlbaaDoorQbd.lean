/- Contracts and plain laws, joined: SyLaid. -/
import Derived.Test.YtnaejabgkfhlbaaDoorRows
import Derived.Test.YtnaejabgkfhlbaaDoorTie
import Derived.Test.YtnaejabgkfhlbaaDoorQap
import Derived.LaidMore
import Derived.Stop.Joined
import Derived.Stop.LaidErr
import Derived.Lib.LaidTab
import Derived.MakeChecks
import Derived.ProofKit
import Derived.Lay
/- What the rows' condition on the library's variables gives; the door's own heap meets it. -/
set_option linter.unusedSimpArgs false
set_option linter.unusedVariables false
namespace Go.Proofs.YtnaejabgkfhlbaaDoor
open Go.ChangeShapes Go.WideShapes Go.ChangeAt Go.WideElems Go.RowKit

theorem var_below {P : Program} {w w' : World} {name : String} {cs : Array Value} (h : w.var? P name = some cs) (hb : Below w.heap.size w w') : w'.var? P name = some cs := by
  unfold World.var? at *
  cases hg : P.globalNamed name with
  | none => simp [hg] at h
  | some g =>
    simp only [hg, Option.bind_some] at h ⊢
    have hlt : g < w.heap.size := by
      rcases Nat.lt_or_ge g w.heap.size with h1 | h1
      · exact h1
      · simp [Array.getElem?_eq_none h1] at h
    rw [hb.block g hlt]
    exact h
/-- The list of every row of this seat (layer 12). -/
abbrev laidL : List (String × DataW Unit) := Rows.syntaxTellsRow.laid
theorem door_met (os : Os) (args : Array Value) : laidMetH Tryd.prog laidL ((World.laidAll Tryd.prog os laidL).forCall (fun _ _ => 0) ⟨#[], args, []⟩).memory := by
  rw [MakeChecks.laidMetH_plain _ _ _ (by kernel_rfl)]
  exact laidMet_laidAll _ (by kernel_rfl) (by kernel_rfl)
theorem noErr : ((Tryd.prog.globalNamed "strconv.ErrSyntax").isSome = true → False) ∧ ((Tryd.prog.globalNamed "strconv.ErrRange").isSome = true → False) := by
  have h1 : (Tryd.prog.globalNamed "strconv.ErrSyntax").isSome = false := by kernel_rfl
  have h2 : (Tryd.prog.globalNamed "strconv.ErrRange").isSome = false := by kernel_rfl
  exact ⟨fun h => (by rw [h1] at h; cases h), fun h => (by rw [h2] at h; cases h)⟩
theorem laid_vs {W : World} (h : laidMetH Tryd.prog laidL W) : Vs W.heap.size W := by
  rw [MakeChecks.laidMetH_plain _ _ _ (by kernel_rfl)] at h
  have h3 := h.tail.tail
  have hT : Lib.TabIs Tryd.prog W "internal/strconv.uint64pow10" .u64 Lib.pow10Tab :=
    Lib.tabIs_of_head (t := 116) (e := 110) (n := 20) (g := 1) (by kernel_rfl) (by kernel_rfl) Tryd.underlying116 Tryd.underlying110 (by kernel_rfl) (by kernel_rfl) h3
  exact ⟨Nat.le_refl _, fun w' hb => ⟨var_below hT hb, fun h => (noErr.1 h).elim, fun h => (noErr.2 h).elim⟩⟩
theorem str_len {s : ByteArray} (h : s.size ≤ maxLen) : s.data.toList.length ≤ 9223372036854775807 := by
  have e : s.data.toList.length = s.size := by rw [Array.length_toList]; rfl
  simp only [maxLen] at h
  omega
end Go.Proofs.YtnaejabgkfhlbaaDoor
