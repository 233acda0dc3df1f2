/- Contracts and plain laws, joined: StLaid. -/
import Derived.Test.YthlpehhlhebhbaaGreatDoorRows
import Derived.Test.YthlpehhlhebhbaaGreatDoorTie
import Derived.Test.YthlpehhlhebhbaaGreatDoorQau
import Derived.LaidMore
import Derived.Stop.Joined
import Derived.Stop.LaidErr
import Derived.Lib.LaidTab
import Derived.MakeChecks
import Derived.ProofKit
/- What the rows' condition on the library's variables gives;the door's own heap meets it. -/
set_option linter.unusedSimpArgs false
set_option linter.unusedVariables false
namespace Go.Proofs.YthlpehhlhebhbaaGreatDoor
open Go.ChangeShapes Go.WideShapes Go.ChangeAt Go.WideElems Go.RowKit
theorem var_below {P:Program} {w w':World} {name:String} {cs:Array Value} (h:w.var? P name=some cs) (hb:Below w.heap.size w w'):w'.var? P name=some cs:=by
 unfold World.var? at *
 cases hg:P.globalNamed name with
 | none=>simp [hg] at h
 | some g =>
  simp only [hg,Option.bind_some] at h ⊢
  have hlt:g<w.heap.size:=by
   rcases Nat.lt_or_ge g w.heap.size with h1 | h1
   ·exact h1
   ·simp [Array.getElem?_eq_none h1] at h
  rw [hb.block g hlt]
  exact h
abbrev laidL:List (String × DataW Unit):=Rows.stateBackRow.laid
theorem door_met (os:Os) (args:Array Value):laidMetH Tryz.prog laidL ((World.doorLaid Tryz.prog 62 os).forCall (fun _ _=>0) ⟨#[],args,[]⟩).memory :=
 laidMetH_of_parts3 (fuel:=8) (laidMet_of_run' 8 (by kernel_rfl) (by kernel_rfl)) (by kernel_rfl) (by kernel_rfl)
theorem starErr : "*" ++ "errors.errorString" = "*errors.errorString" := by decide
theorem rowErr (u : TypeId) (h : Tryz.prog.typeName? 3 u = some "*errors.errorString") : u = 302 :=
 typeName_ptr_named (nm := "errors.errorString") (by rw [starErr]; kernel_rfl) (by kernel_rfl) (by decide) u (by rw [starErr]; exact h)
theorem laid_vs {W:World} (h:laidMetH Tryz.prog laidL W):Vs W.heap.size W:=by
 rw [MakeChecks.laidMetH_plain _ _ _ (by kernel_rfl)] at h
 have h3:=h.tail.tail
 have hT : Lib.TabIs Tryz.prog W "internal/strconv.uint64pow10" .u64 Lib.pow10Tab :=
  Lib.tabIs_of_head (t:=296) (e:=284) (n:=20) (g:=3) (by kernel_rfl) (by kernel_rfl) Tryz.underlying296 Tryz.underlying284 (by kernel_rfl) (by kernel_rfl) h3
 have h4:=h3.tail
 obtain ⟨a,s,ha,_⟩:=laid_sentinel (g:=2) (ti:=238) (tp:=302) (te:=304) (ts:=9) h4 (by kernel_rfl) (by kernel_rfl) Tryz.underlying238 rowErr Tryz.underlying302 Tryz.underlying304 rfl rfl Tryz.underlying9 (by kernel_rfl) (by kernel_rfl)
 obtain ⟨a',s',ha',_⟩:=laid_sentinel (g:=1) (ti:=238) (tp:=302) (te:=304) (ts:=9) h4.tail (by kernel_rfl) (by kernel_rfl) Tryz.underlying238 rowErr Tryz.underlying302 Tryz.underlying304 rfl rfl Tryz.underlying9 (by kernel_rfl) (by kernel_rfl)
 exact ⟨Nat.le_refl _,fun w' hb=>⟨var_below hT hb,fun _=>⟨_,_,var_below ha' hb⟩,fun _=>⟨_,_,var_below ha hb⟩⟩⟩
end Go.Proofs.YthlpehhlhebhbaaGreatDoor
