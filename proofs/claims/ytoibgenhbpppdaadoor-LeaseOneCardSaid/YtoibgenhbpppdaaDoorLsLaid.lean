/- What the rows' condition on the library's variables gives; the door's own heap meets it. -/
import Derived.Test.YtoibgenhbpppdaaDoorRows
import Derived.Test.YtoibgenhbpppdaaDoorTie
import Derived.Test.YtoibgenhbpppdaaDoorWrB
import Derived.LaidMore
import Derived.Stop.Joined
import Derived.Stop.LaidErr
import Derived.Lib.LaidTab
import Derived.MakeChecks
import Derived.ProofKit
namespace Go.Proofs.YtoibgenhbpppdaaDoor
open Go.ChangeShapes Go.WideShapes Go.ChangeAt Go.WideElems Go.RowKit

theorem var_below {P : Program} {w w' : World} {name : String} {cs : Array Value} (h : w.var? P name = some cs) (hb : Below w.heap.size w w') : w'.var? P name = some cs := by
  unfold World.var? at *
  cases hg : P.globalNamed name with
  | none => simp [hg] at h
  | some g =>
    simp only [hg, Option.bind_some] at h ⊢
    have hlt : g < w.heap.size := by
      rcases Nat.lt_or_ge g w.heap.size with h1 | h1
      · exact h1
      · simp [Array.getElem?_eq_none h1] at h
    rw [hb.block g hlt]
    exact h
/-- The list of every row of this seat (layer 47). -/
abbrev laidL : List (String × DataW Unit) := Rows.leaseTellsRow.laid
theorem door_met (os : Os) (args : Array Value) : laidMetH Tryd.prog laidL ((World.doorLaid Tryd.prog 62 os).forCall (fun _ _ => 0) ⟨#[], args, []⟩).memory :=
  laidMetH_of_parts3 (fuel := 8) (laidMet_of_run' 8 (by kernel_rfl) (by kernel_rfl)) (by kernel_rfl) (by kernel_rfl)
theorem starErr : "*" ++ "errors.errorString" = "*errors.errorString" := by decide
theorem rowErr (u : TypeId) (h : Tryd.prog.typeName? 3 u = some "*errors.errorString") : u = 105 :=
  typeName_ptr_named (nm := "errors.errorString") (by rw [starErr]; kernel_rfl) (by kernel_rfl) (by decide) u (by rw [starErr]; exact h)
theorem laid_vs {W : World} (h : laidMetH Tryd.prog laidL W) : Vs W.heap.size W := by
  rw [MakeChecks.laidMetH_plain _ _ _ (by kernel_rfl)] at h
  have h3 := h.tail.tail
  have hT : Lib.TabIs Tryd.prog W "internal/strconv.uint64pow10" .u64 Lib.pow10Tab :=
    Lib.tabIs_of_head (t := 81) (e := 71) (n := 20) (g := 0) (by kernel_rfl) (by kernel_rfl) Tryd.underlying81 Tryd.underlying71 (by kernel_rfl) (by kernel_rfl) h3
  have h4 := h3.tail
  obtain ⟨a, s, ha, _⟩ := laid_sentinel (g := 3) (ti := 65) (tp := 105) (te := 107) (ts := 9) h4 (by kernel_rfl) (by kernel_rfl) Tryd.underlying65 rowErr Tryd.underlying105 Tryd.underlying107 rfl rfl Tryd.underlying9 (by kernel_rfl) (by kernel_rfl)
  obtain ⟨a', s', ha', _⟩ := laid_sentinel (g := 2) (ti := 65) (tp := 105) (te := 107) (ts := 9) h4.tail (by kernel_rfl) (by kernel_rfl) Tryd.underlying65 rowErr Tryd.underlying105 Tryd.underlying107 rfl rfl Tryd.underlying9 (by kernel_rfl) (by kernel_rfl)
  exact ⟨Nat.le_refl _, fun w' hb => ⟨var_below hT hb, ⟨_, _, var_below ha' hb⟩, ⟨_, _, var_below ha hb⟩⟩⟩
end Go.Proofs.YtoibgenhbpppdaaDoor
