/-
  DERIVED. GIVEN WITH THE SEED: THE CARDS: each row of YtjmkodkechahdaaGreatDoorRows.lean that lists a variable, with what it lists TIED to the program's text (the seventh form; the later family's looks); each row that meets fmt, with fmt's text TOLD by the authors' own Lean function (tested against real Go, not proved from fmt's source: count such statements apart). THE CARD IS WHAT COUNTS. Prove the row's statement (the work); the ties are given (YtjmkodkechahdaaGreatDoorTie.lean); close each card by the builder's one call (the guide's Derived/Test/ToyasCard.lean, 'card_holds'). Laid BY PROGRAM, IN A SANDBOX (cutbox-door.mjs). By AI agents, Wed Nov 11 2026. No macro, syntax, notation, axiom, sorry.
-/
import Derived.Test.YtjmkodkechahdaaGreatDoorRows
import GoSem.ClaimSeven
namespace Go.Proofs.YtjmkodkechahdaaGreatDoor
namespace Rows

/-- THE TIED CARD OF 'lingualaw43.EraseTells'. -/
def eraseTellsCard : Claim7 := { stood := { row := eraseTellsRow, standIns := [], harness := (true, "fd565e9b3811f0cac31ed9fbd97cf851042ad84fb43f0109706e7fcce46d3b29"), looks := true }, kinds := [], alts := [], laidByText := true, laidKinds := [.data, .data, .data, .sentinel, .sentinel], laidTests := true, laidLooks := .later }
def EraseTellsCardSaid : Prop := Claim7.holds Tryz.pinned (.plain (OpenSpec.ofChange eraseTellsSpec)) eraseTellsCard

/-- THE SECOND FORM's CARD OF 'lingualaw43.EraseTells'. -/
def eraseTellsUptoCard : Claim7 := { stood := { row := eraseTellsUptoRow, standIns := [], harness := (true, "fd565e9b3811f0cac31ed9fbd97cf851042ad84fb43f0109706e7fcce46d3b29"), looks := true }, kinds := [], alts := [], laidByText := true, laidKinds := [.data, .data, .data, .sentinel, .sentinel], laidTests := true, laidLooks := .later }
def EraseTellsUptoCardSaid : Prop := Claim7.holds Tryz.pinned (.plain (OpenSpec.upto eraseTellsSpec)) eraseTellsUptoCard
end Rows
end Go.Proofs.YtjmkodkechahdaaGreatDoor
