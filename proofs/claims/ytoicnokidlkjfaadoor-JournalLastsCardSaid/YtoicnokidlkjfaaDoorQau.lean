/- Contracts and plain laws, joined: JnLaid. -/
import Derived.Test.YtoicnokidlkjfaaDoorRows
import Derived.Test.YtoicnokidlkjfaaDoorTie
import Derived.Test.YtoicnokidlkjfaaDoorQak
import Derived.LaidMore
import Derived.Stop.Joined
import Derived.Stop.LaidErr
import Derived.Lib.LaidTab
import Derived.MakeChecks
import Derived.ProofKit
/- What the rows' condition on the library's variables gives; the door's own heap meets it. -/
namespace Go.Proofs.YtoicnokidlkjfaaDoor
open Go.ChangeShapes Go.WideShapes Go.ChangeAt Go.WideElems Go.RowKit

theorem var_below {P : Program} {w w' : World} {name : String} {cs : Array Value} (h : w.var? P name = some cs) (hb : Below w.heap.size w w') : w'.var? P name = some cs := by
  unfold World.var? at *
  cases hg : P.globalNamed name with
  | none => simp [hg] at h
  | some g =>
    simp only [hg, Option.bind_some] at h ⊢
    have hlt : g < w.heap.size := by
      rcases Nat.lt_or_ge g w.heap.size with h1 | h1
      · exact h1
      · simp [Array.getElem?_eq_none h1] at h
    rw [hb.block g hlt]
    exact h
/-- The list of every row of this seat (layer 3). -/
abbrev laidL : List (String × DataW Unit) := Rows.journalTornRow.laid
theorem door_met (os : Os) (args : Array Value) : laidMetH Tryd.prog laidL ((World.doorLaid Tryd.prog 62 os).forCall (fun _ _ => 0) ⟨#[], args, []⟩).memory :=
  laidMetH_of_parts3 (fuel := 8) (laidMet_of_run' 8 (by kernel_rfl) (by kernel_rfl)) (by kernel_rfl) (by kernel_rfl)
theorem starErr : "*" ++ "errors.errorString" = "*errors.errorString" := by decide
theorem rowErr (u : TypeId) (h : Tryd.prog.typeName? 3 u = some "*errors.errorString") : u = 123 :=
  typeName_ptr_named (nm := "errors.errorString") (by rw [starErr]; kernel_rfl) (by kernel_rfl) (by decide) u (by rw [starErr]; exact h)
theorem laid_vs {W : World} (h : laidMetH Tryd.prog laidL W) : Vs W.heap.size W := by
  rw [MakeChecks.laidMetH_plain _ _ _ (by kernel_rfl)] at h
  have h3 := h.tail.tail
  have hT : Lib.TabIs Tryd.prog W "internal/strconv.uint64pow10" .u64 Lib.pow10Tab :=
    Lib.tabIs_of_head (t := 116) (e := 104) (n := 20) (g := 3) (by kernel_rfl) (by kernel_rfl) Tryd.underlying116 Tryd.underlying104 (by kernel_rfl) (by kernel_rfl) h3
  have h4 := h3.tail
  obtain ⟨a, s, ha, _⟩ := laid_sentinel (g := 2) (ti := 84) (tp := 123) (te := 125) (ts := 9) h4 (by kernel_rfl) (by kernel_rfl) Tryd.underlying84 rowErr Tryd.underlying123 Tryd.underlying125 rfl rfl Tryd.underlying9 (by kernel_rfl) (by kernel_rfl)
  obtain ⟨a', s', ha', _⟩ := laid_sentinel (g := 1) (ti := 84) (tp := 123) (te := 125) (ts := 9) h4.tail (by kernel_rfl) (by kernel_rfl) Tryd.underlying84 rowErr Tryd.underlying123 Tryd.underlying125 rfl rfl Tryd.underlying9 (by kernel_rfl) (by kernel_rfl)
  exact ⟨Nat.le_refl _, fun w' hb => ⟨var_below hT hb, fun _ => ⟨_, _, var_below ha' hb⟩, fun _ => ⟨_, _, var_below ha hb⟩⟩⟩
end Go.Proofs.YtoicnokidlkjfaaDoor
