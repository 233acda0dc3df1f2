/-
  No cell of these rows narrows 'for every input' (looked for: loops, veiled, ifaces, maps, wideKeys, modest, calm, conditions, laid).
  DERIVED. THE GIVEN ROWS OF THIS SEAT. 3 by the template 'for every input the law returns true; each argument reads behind the call as it read before'; 0 by the template 'total and deterministic' (their statements: YtebpnlbpdhgacaaTotals.lean).
  GIVEN WITH THE SEED: the statements are not yours to turn. If you find one false, say at which input.
  Laid BY PROGRAM, IN A SANDBOX (cutbox-rows.mjs): the forced cells as the released guide's own fill.sh prints them over the translation ca8ac4c15b7d58d6… (all of the seat's roots in one cut). By AI agents, Wed Nov 11 2026. No macro, syntax, notation, axiom, sorry.
-/
import Derived.Test.YtebpnlbpdhgacaaChecked
import GoSem.Claim
import GoSem.ClaimJoined
import GoSem.ClaimMapViews
import Derived.JoinedTies
import Derived.KernelRfl
namespace Go.Proofs.Ytebpnlbpdhgacaa
/- THE CELL 'sum', in the pinned program and in every row, IS THE sha256 OF THE DUMP (.gsa) THAT YtebpnlbpdhgacaaProg.lean LOADS. Nothing in Lean hashes anything: it is a label: what it is worth is what the hold of that sum in a sandbox is worth. -/
noncomputable def Try.pinned : Pinned := { name := "ytebpnlbpdhgacaa", sum := "ca8ac4c15b7d58d6be95bc54069458df2296734cf5876cf9bc5b345d767d5828", checked := Try.checked }
namespace Rows
def none {H : Type} : Left H := { results := [], args := [] }

/-- 'lingualaw19.WaysTells': WHATEVER THE INPUT: true; the input reads as it did. -/
def waysTellsSpec : ChangeSpec := { name := "waysTells", fn := fun _ => fun
  | [d] => { results := [.lit (.bool true)], args := [d] }
  | _ => none }
def waysTellsRow : OpenClaim := { program := "ytebpnlbpdhgacaa", sum := "ca8ac4c15b7d58d6be95bc54069458df2296734cf5876cf9bc5b345d767d5828", func := "lingua/lingualaw19.WaysTells", spec := "waysTells", unfollowed := true, recurses := true, apart := false }
def WaysTellsSaid : Prop := waysTellsRow.holds Try.pinned (OpenSpec.ofChange waysTellsSpec)

/-- ITS FALSE NEIGHBOUR: 'it returns false'. Refute it at one input. -/
def waysTellsWrong : ChangeSpec := { name := "waysTells", fn := fun _ => fun
  | [d] => { results := [.lit (.bool false)], args := [d] }
  | _ => none }
def WaysTellsWrongFalsely : Prop := waysTellsRow.holds Try.pinned (OpenSpec.ofChange waysTellsWrong)

/-- 'lingualaw19.WaysUses': WHATEVER THE INPUT: true; the input reads as it did. -/
def waysUsesSpec : ChangeSpec := { name := "waysUses", fn := fun _ => fun
  | [d] => { results := [.lit (.bool true)], args := [d] }
  | _ => none }
def waysUsesRow : OpenClaim := { program := "ytebpnlbpdhgacaa", sum := "ca8ac4c15b7d58d6be95bc54069458df2296734cf5876cf9bc5b345d767d5828", func := "lingua/lingualaw19.WaysUses", spec := "waysUses", unfollowed := true, recurses := true, apart := false }
def WaysUsesSaid : Prop := waysUsesRow.holds Try.pinned (OpenSpec.ofChange waysUsesSpec)

/-- ITS FALSE NEIGHBOUR: 'it returns false'. Refute it at one input. -/
def waysUsesWrong : ChangeSpec := { name := "waysUses", fn := fun _ => fun
  | [d] => { results := [.lit (.bool false)], args := [d] }
  | _ => none }
def WaysUsesWrongFalsely : Prop := waysUsesRow.holds Try.pinned (OpenSpec.ofChange waysUsesWrong)

/-- 'lingualaw19.WaysBetter': WHATEVER THE INPUT: true; the input reads as it did. -/
def waysBetterSpec : ChangeSpec := { name := "waysBetter", fn := fun _ => fun
  | [d1, d2] => { results := [.lit (.bool true)], args := [d1, d2] }
  | _ => none }
def waysBetterRow : OpenClaim := { program := "ytebpnlbpdhgacaa", sum := "ca8ac4c15b7d58d6be95bc54069458df2296734cf5876cf9bc5b345d767d5828", func := "lingua/lingualaw19.WaysBetter", spec := "waysBetter", unfollowed := true, recurses := true, apart := false }
def WaysBetterSaid : Prop := waysBetterRow.holds Try.pinned (OpenSpec.ofChange waysBetterSpec)

/-- ITS FALSE NEIGHBOUR: 'it returns false'. Refute it at one input. -/
def waysBetterWrong : ChangeSpec := { name := "waysBetter", fn := fun _ => fun
  | [d1, d2] => { results := [.lit (.bool false)], args := [d1, d2] }
  | _ => none }
def WaysBetterWrongFalsely : Prop := waysBetterRow.holds Try.pinned (OpenSpec.ofChange waysBetterWrong)

/- THE SECOND FORM. 'bulk': how many values and letters a reading holds, each counted each time it is reached (what is shared counts as often as it is met; a slice's spare places count too). A statement '..UptoSaid' is the law's where the arguments, and the package variables that the reading takes, are together of bulk at most 1048576: NARROWER than '..Said'. Prove '..Said' where nothing that the law and all that it calls make is longer than what came in: it says more and counts as full. Else prove '..UptoSaid'. A law counts once. -/
mutual
def uptoBulk {H : Type} : DataW H → Nat
  | .lit (.string bytes) => bytes.length + 1
  | .lit _ => 1
  | .nil => 1
  | .ptr d => uptoBulk d + 1
  | .slice elems spare => uptoBulkAll elems + uptoBulkAll spare + 1
  | .agg parts => uptoBulkAll parts + 1
  | .iface _ d => uptoBulk d + 1
  | .map entries => uptoBulkEntries entries + 1
  | .held _ => 1
def uptoBulkAll {H : Type} : List (DataW H) → Nat
  | [] => 0
  | d :: r => uptoBulk d + uptoBulkAll r
def uptoBulkEntries {H : Type} : List (Lit × DataW H) → Nat
  | [] => 0
  | x :: r => uptoBulkEntry x + uptoBulkEntries r
def uptoBulkEntry {H : Type} : Lit × DataW H → Nat
  | (.string bytes, d) => bytes.length + uptoBulk d + 1
  | (_, d) => uptoBulk d + 1
 end
def uptoSmall : (H : Type) → List (DataW H) → Bool := fun _ ds => decide (uptoBulkAll ds ≤ 1048576)
def OpenSpec.upto (s : _root_.Go.ChangeSpec) : _root_.Go.OpenSpec := { _root_.Go.OpenSpec.ofChange s with cond := some uptoSmall }

/-- 'lingualaw19.WaysTells', WHERE WHAT IT READS IS OF BULK AT MOST 1048576: true; the input reads as it did. -/
def waysTellsUptoRow : OpenClaim := { program := "ytebpnlbpdhgacaa", sum := "ca8ac4c15b7d58d6be95bc54069458df2296734cf5876cf9bc5b345d767d5828", func := "lingua/lingualaw19.WaysTells", spec := "waysTells", unfollowed := true, recurses := true, apart := false, narrowed := true }
def WaysTellsUptoSaid : Prop := waysTellsUptoRow.holds Try.pinned (OpenSpec.upto waysTellsSpec)

/-- 'lingualaw19.WaysUses', WHERE WHAT IT READS IS OF BULK AT MOST 1048576: true; the input reads as it did. -/
def waysUsesUptoRow : OpenClaim := { program := "ytebpnlbpdhgacaa", sum := "ca8ac4c15b7d58d6be95bc54069458df2296734cf5876cf9bc5b345d767d5828", func := "lingua/lingualaw19.WaysUses", spec := "waysUses", unfollowed := true, recurses := true, apart := false, narrowed := true }
def WaysUsesUptoSaid : Prop := waysUsesUptoRow.holds Try.pinned (OpenSpec.upto waysUsesSpec)

/-- 'lingualaw19.WaysBetter', WHERE WHAT IT READS IS OF BULK AT MOST 1048576: true; the input reads as it did. -/
def waysBetterUptoRow : OpenClaim := { program := "ytebpnlbpdhgacaa", sum := "ca8ac4c15b7d58d6be95bc54069458df2296734cf5876cf9bc5b345d767d5828", func := "lingua/lingualaw19.WaysBetter", spec := "waysBetter", unfollowed := true, recurses := true, apart := false, narrowed := true }
def WaysBetterUptoSaid : Prop := waysBetterUptoRow.holds Try.pinned (OpenSpec.upto waysBetterSpec)

end Rows
end Go.Proofs.Ytebpnlbpdhgacaa
