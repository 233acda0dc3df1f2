/- Contracts and plain laws, joined: TlLaid. -/
import Derived.Test.YtlnnjdibkbabiaaGreatDoorRows
import Derived.Test.YtlnnjdibkbabiaaGreatDoorTie
import Derived.Test.YtlnnjdibkbabiaaGreatDoorQba
import Derived.LaidMore
import Derived.Stop.Joined
import Derived.Stop.LaidErr
import Derived.Lib.LaidTab
import Derived.MakeChecks
import Derived.ProofKit
import Derived.Lay
/- What the rows' condition on the library's variables gives;the door's own heap meets it. -/
set_option linter.unusedSimpArgs false
set_option linter.unusedVariables false
namespace Go.Proofs.YtlnnjdibkbabiaaGreatDoor
open Go.ChangeShapes Go.WideShapes Go.ChangeAt Go.WideElems Go.RowKit
theorem var_below {P:Program} {w w':World} {name:String} {cs:Array Value} (h:w.var? P name=some cs) (hb:Below w.heap.size w w'):w'.var? P name=some cs:=by
 unfold World.var? at *
 cases hg:P.globalNamed name with
 | none=>simp [hg] at h
 | some g =>
  simp only [hg,Option.bind_some] at h ⊢
  have hlt:g<w.heap.size:=by
   rcases Nat.lt_or_ge g w.heap.size with h1 | h1
   ·exact h1
   ·simp [Array.getElem?_eq_none h1] at h
  rw [hb.block g hlt]
  exact h
abbrev laidL:List (String × DataW Unit):=Rows.tripRichRow.laid
theorem door_met (os:Os) (args:Array Value):laidMetH Tryz.prog laidL ((World.laidAll Tryz.prog os laidL).forCall (fun _ _=>0) ⟨#[],args,[]⟩).memory:=by
 rw [MakeChecks.laidMetH_plain _ _ _ (by kernel_rfl)]
 exact laidMet_laidAll _ (by kernel_rfl) (by kernel_rfl)
theorem noErr : ((Tryz.prog.globalNamed "strconv.ErrSyntax").isSome = true → False) ∧ ((Tryz.prog.globalNamed "strconv.ErrRange").isSome = true → False) := by
 have h1 : (Tryz.prog.globalNamed "strconv.ErrSyntax").isSome = false := by kernel_rfl
 have h2 : (Tryz.prog.globalNamed "strconv.ErrRange").isSome = false := by kernel_rfl
 exact ⟨fun h=>(by rw [h1] at h;cases h),fun h=>(by rw [h2] at h;cases h)⟩
theorem laid_vs {W:World} (h:laidMetH Tryz.prog laidL W):Vs W.heap.size W:=by
 rw [MakeChecks.laidMetH_plain _ _ _ (by kernel_rfl)] at h
 have h3:=h.tail.tail
 have hT : Lib.TabIs Tryz.prog W "internal/strconv.uint64pow10" .u64 Lib.pow10Tab :=
  Lib.tabIs_of_head (t:=199) (e:=192) (n:=20) (g:=0) (by kernel_rfl) (by kernel_rfl) Tryz.underlying199 Tryz.underlying192 (by kernel_rfl) (by kernel_rfl) h3
 exact ⟨Nat.le_refl _,fun w' hb=>⟨var_below hT hb,fun h=>(noErr.1 h).elim,fun h=>(noErr.2 h).elim⟩⟩
theorem u8_in {n:Int} (h:(Lit.int .u8 n).wf=true):0≤n∧n≤255:=by
 simp [Lit.wf,IntKind.min,IntKind.max,IntKind.bits,IntKind.signed] at h
 omega
end Go.Proofs.YtlnnjdibkbabiaaGreatDoor
