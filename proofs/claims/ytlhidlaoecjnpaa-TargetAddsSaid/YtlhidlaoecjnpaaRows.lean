/-
  No cell of these rows narrows 'for every input' (looked for: loops, veiled, ifaces, maps, wideKeys, modest, calm, conditions, laid).
  DERIVED. THE GIVEN ROWS OF THIS SEAT. 5 by the template 'for every input the law returns true; each argument reads behind the call as it read before'; 0 by the template 'total and deterministic' (their statements: YtlhidlaoecjnpaaTotals.lean).
  GIVEN WITH THE SEED: the statements are not yours to turn. If you find one false, say at which input.
  Laid BY PROGRAM, IN A SANDBOX (cutbox-rows.mjs): the forced cells as the released guide's own fill.sh prints them over the translation 5eb43cc53e445c41… (all of the seat's roots in one cut). By AI agents, Wed Nov 11 2026. No macro, syntax, notation, axiom, sorry.
-/
import Derived.Test.YtlhidlaoecjnpaaChecked
import GoSem.Claim
import GoSem.ClaimJoined
import GoSem.ClaimMapViews
import Derived.JoinedTies
import Derived.KernelRfl
namespace Go.Proofs.Ytlhidlaoecjnpaa
/- THE CELL 'sum', in the pinned program and in every row, IS THE sha256 OF THE DUMP (.gsa) THAT YtlhidlaoecjnpaaProg.lean LOADS. Nothing in Lean hashes anything: it is a label: what it is worth is what the hold of that sum in a sandbox is worth. -/
noncomputable def Try.pinned : Pinned := { name := "ytlhidlaoecjnpaa", sum := "5eb43cc53e445c419c17c917eea4fa8e341e9097214bd35005e29248fc556ca4", checked := Try.checked }
namespace Rows
def none {H : Type} : Left H := { results := [], args := [] }

/-- 'lingualaw22.TargetTells': WHATEVER THE INPUT: true; the input reads as it did. -/
def targetTellsSpec : ChangeSpec := { name := "targetTells", fn := fun _ => fun
  | [d1, d2, d3, d4, d5] => { results := [.lit (.bool true)], args := [d1, d2, d3, d4, d5] }
  | _ => none }
def targetTellsRow : OpenClaim := { program := "ytlhidlaoecjnpaa", sum := "5eb43cc53e445c419c17c917eea4fa8e341e9097214bd35005e29248fc556ca4", func := "lingua/lingualaw22.TargetTells", spec := "targetTells", unfollowed := true, recurses := true, plainKeys := false, apart := false }
def TargetTellsSaid : Prop := targetTellsRow.holds Try.pinned (OpenSpec.ofChange targetTellsSpec)

/-- ITS FALSE NEIGHBOUR: 'it returns false'. Refute it at one input. -/
def targetTellsWrong : ChangeSpec := { name := "targetTells", fn := fun _ => fun
  | [d1, d2, d3, d4, d5] => { results := [.lit (.bool false)], args := [d1, d2, d3, d4, d5] }
  | _ => none }
def TargetTellsWrongFalsely : Prop := targetTellsRow.holds Try.pinned (OpenSpec.ofChange targetTellsWrong)

/-- 'lingualaw22.TargetBack': WHATEVER THE INPUT: true; the input reads as it did. -/
def targetBackSpec : ChangeSpec := { name := "targetBack", fn := fun _ => fun
  | [d1, d2, d3, d4] => { results := [.lit (.bool true)], args := [d1, d2, d3, d4] }
  | _ => none }
def targetBackRow : OpenClaim := { program := "ytlhidlaoecjnpaa", sum := "5eb43cc53e445c419c17c917eea4fa8e341e9097214bd35005e29248fc556ca4", func := "lingua/lingualaw22.TargetBack", spec := "targetBack", unfollowed := true, recurses := true, plainKeys := false, apart := false }
def TargetBackSaid : Prop := targetBackRow.holds Try.pinned (OpenSpec.ofChange targetBackSpec)

/-- ITS FALSE NEIGHBOUR: 'it returns false'. Refute it at one input. -/
def targetBackWrong : ChangeSpec := { name := "targetBack", fn := fun _ => fun
  | [d1, d2, d3, d4] => { results := [.lit (.bool false)], args := [d1, d2, d3, d4] }
  | _ => none }
def TargetBackWrongFalsely : Prop := targetBackRow.holds Try.pinned (OpenSpec.ofChange targetBackWrong)

/-- 'lingualaw22.TargetAdds': WHATEVER THE INPUT: true; the input reads as it did. -/
def targetAddsSpec : ChangeSpec := { name := "targetAdds", fn := fun _ => fun
  | [d1, d2] => { results := [.lit (.bool true)], args := [d1, d2] }
  | _ => none }
def targetAddsRow : OpenClaim := { program := "ytlhidlaoecjnpaa", sum := "5eb43cc53e445c419c17c917eea4fa8e341e9097214bd35005e29248fc556ca4", func := "lingua/lingualaw22.TargetAdds", spec := "targetAdds", unfollowed := true, recurses := true, plainKeys := false, apart := false }
def TargetAddsSaid : Prop := targetAddsRow.holds Try.pinned (OpenSpec.ofChange targetAddsSpec)

/-- ITS FALSE NEIGHBOUR: 'it returns false'. Refute it at one input. -/
def targetAddsWrong : ChangeSpec := { name := "targetAdds", fn := fun _ => fun
  | [d1, d2] => { results := [.lit (.bool false)], args := [d1, d2] }
  | _ => none }
def TargetAddsWrongFalsely : Prop := targetAddsRow.holds Try.pinned (OpenSpec.ofChange targetAddsWrong)

/-- 'lingualaw22.TargetDrops': WHATEVER THE INPUT: true; the input reads as it did. -/
def targetDropsSpec : ChangeSpec := { name := "targetDrops", fn := fun _ => fun
  | [d1, d2, d3, d4, d5] => { results := [.lit (.bool true)], args := [d1, d2, d3, d4, d5] }
  | _ => none }
def targetDropsRow : OpenClaim := { program := "ytlhidlaoecjnpaa", sum := "5eb43cc53e445c419c17c917eea4fa8e341e9097214bd35005e29248fc556ca4", func := "lingua/lingualaw22.TargetDrops", spec := "targetDrops", unfollowed := true, recurses := true, plainKeys := false, apart := false }
def TargetDropsSaid : Prop := targetDropsRow.holds Try.pinned (OpenSpec.ofChange targetDropsSpec)

/-- ITS FALSE NEIGHBOUR: 'it returns false'. Refute it at one input. -/
def targetDropsWrong : ChangeSpec := { name := "targetDrops", fn := fun _ => fun
  | [d1, d2, d3, d4, d5] => { results := [.lit (.bool false)], args := [d1, d2, d3, d4, d5] }
  | _ => none }
def TargetDropsWrongFalsely : Prop := targetDropsRow.holds Try.pinned (OpenSpec.ofChange targetDropsWrong)

/-- 'lingualaw22.TargetNets': WHATEVER THE INPUT: true; the input reads as it did. -/
def targetNetsSpec : ChangeSpec := { name := "targetNets", fn := fun _ => fun
  | [d1, d2, d3, d4] => { results := [.lit (.bool true)], args := [d1, d2, d3, d4] }
  | _ => none }
def targetNetsRow : OpenClaim := { program := "ytlhidlaoecjnpaa", sum := "5eb43cc53e445c419c17c917eea4fa8e341e9097214bd35005e29248fc556ca4", func := "lingua/lingualaw22.TargetNets", spec := "targetNets", unfollowed := true, recurses := true, plainKeys := false, apart := false }
def TargetNetsSaid : Prop := targetNetsRow.holds Try.pinned (OpenSpec.ofChange targetNetsSpec)

/-- ITS FALSE NEIGHBOUR: 'it returns false'. Refute it at one input. -/
def targetNetsWrong : ChangeSpec := { name := "targetNets", fn := fun _ => fun
  | [d1, d2, d3, d4] => { results := [.lit (.bool false)], args := [d1, d2, d3, d4] }
  | _ => none }
def TargetNetsWrongFalsely : Prop := targetNetsRow.holds Try.pinned (OpenSpec.ofChange targetNetsWrong)

/- THE SECOND FORM. 'bulk': how many values and letters a reading holds, each counted each time it is reached (what is shared counts as often as it is met; a slice's spare places count too). A statement '..UptoSaid' is the law's where the arguments, and the package variables that the reading takes, are together of bulk at most 1048576: NARROWER than '..Said'. Prove '..Said' where nothing that the law and all that it calls make is longer than what came in: it says more and counts as full. Else prove '..UptoSaid'. A law counts once. -/
mutual
def uptoBulk {H : Type} : DataW H → Nat
  | .lit (.string bytes) => bytes.length + 1
  | .lit _ => 1
  | .nil => 1
  | .ptr d => uptoBulk d + 1
  | .slice elems spare => uptoBulkAll elems + uptoBulkAll spare + 1
  | .agg parts => uptoBulkAll parts + 1
  | .iface _ d => uptoBulk d + 1
  | .map entries => uptoBulkEntries entries + 1
  | .held _ => 1
def uptoBulkAll {H : Type} : List (DataW H) → Nat
  | [] => 0
  | d :: r => uptoBulk d + uptoBulkAll r
def uptoBulkEntries {H : Type} : List (Lit × DataW H) → Nat
  | [] => 0
  | x :: r => uptoBulkEntry x + uptoBulkEntries r
def uptoBulkEntry {H : Type} : Lit × DataW H → Nat
  | (.string bytes, d) => bytes.length + uptoBulk d + 1
  | (_, d) => uptoBulk d + 1
 end
def uptoSmall : (H : Type) → List (DataW H) → Bool := fun _ ds => decide (uptoBulkAll ds ≤ 1048576)
def OpenSpec.upto (s : _root_.Go.ChangeSpec) : _root_.Go.OpenSpec := { _root_.Go.OpenSpec.ofChange s with cond := some uptoSmall }

/-- 'lingualaw22.TargetTells', WHERE WHAT IT READS IS OF BULK AT MOST 1048576: true; the input reads as it did. -/
def targetTellsUptoRow : OpenClaim := { program := "ytlhidlaoecjnpaa", sum := "5eb43cc53e445c419c17c917eea4fa8e341e9097214bd35005e29248fc556ca4", func := "lingua/lingualaw22.TargetTells", spec := "targetTells", unfollowed := true, recurses := true, plainKeys := false, apart := false, narrowed := true }
def TargetTellsUptoSaid : Prop := targetTellsUptoRow.holds Try.pinned (OpenSpec.upto targetTellsSpec)

/-- 'lingualaw22.TargetBack', WHERE WHAT IT READS IS OF BULK AT MOST 1048576: true; the input reads as it did. -/
def targetBackUptoRow : OpenClaim := { program := "ytlhidlaoecjnpaa", sum := "5eb43cc53e445c419c17c917eea4fa8e341e9097214bd35005e29248fc556ca4", func := "lingua/lingualaw22.TargetBack", spec := "targetBack", unfollowed := true, recurses := true, plainKeys := false, apart := false, narrowed := true }
def TargetBackUptoSaid : Prop := targetBackUptoRow.holds Try.pinned (OpenSpec.upto targetBackSpec)

/-- 'lingualaw22.TargetAdds', WHERE WHAT IT READS IS OF BULK AT MOST 1048576: true; the input reads as it did. -/
def targetAddsUptoRow : OpenClaim := { program := "ytlhidlaoecjnpaa", sum := "5eb43cc53e445c419c17c917eea4fa8e341e9097214bd35005e29248fc556ca4", func := "lingua/lingualaw22.TargetAdds", spec := "targetAdds", unfollowed := true, recurses := true, plainKeys := false, apart := false, narrowed := true }
def TargetAddsUptoSaid : Prop := targetAddsUptoRow.holds Try.pinned (OpenSpec.upto targetAddsSpec)

/-- 'lingualaw22.TargetDrops', WHERE WHAT IT READS IS OF BULK AT MOST 1048576: true; the input reads as it did. -/
def targetDropsUptoRow : OpenClaim := { program := "ytlhidlaoecjnpaa", sum := "5eb43cc53e445c419c17c917eea4fa8e341e9097214bd35005e29248fc556ca4", func := "lingua/lingualaw22.TargetDrops", spec := "targetDrops", unfollowed := true, recurses := true, plainKeys := false, apart := false, narrowed := true }
def TargetDropsUptoSaid : Prop := targetDropsUptoRow.holds Try.pinned (OpenSpec.upto targetDropsSpec)

/-- 'lingualaw22.TargetNets', WHERE WHAT IT READS IS OF BULK AT MOST 1048576: true; the input reads as it did. -/
def targetNetsUptoRow : OpenClaim := { program := "ytlhidlaoecjnpaa", sum := "5eb43cc53e445c419c17c917eea4fa8e341e9097214bd35005e29248fc556ca4", func := "lingua/lingualaw22.TargetNets", spec := "targetNets", unfollowed := true, recurses := true, plainKeys := false, apart := false, narrowed := true }
def TargetNetsUptoSaid : Prop := targetNetsUptoRow.holds Try.pinned (OpenSpec.upto targetNetsSpec)

end Rows
end Go.Proofs.Ytlhidlaoecjnpaa
