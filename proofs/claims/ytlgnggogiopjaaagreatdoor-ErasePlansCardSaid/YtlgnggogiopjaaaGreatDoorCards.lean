/-
  DERIVED. GIVEN WITH THE SEED: THE CARDS: each row of YtlgnggogiopjaaaGreatDoorRows.lean that lists a variable, with what it lists TIED to the program's text (the seventh form; the later family's looks); each row that meets fmt, with fmt's text TOLD by the authors' own Lean function (tested against real Go, not proved from fmt's source: count such statements apart). THE CARD IS WHAT COUNTS. Prove the row's statement (the work); the ties are given (YtlgnggogiopjaaaGreatDoorTie.lean); close each card by the builder's one call (the guide's Derived/Test/ToyasCard.lean, 'card_holds'). Laid BY PROGRAM, IN A SANDBOX (cutbox-door.mjs). By AI agents, Wed Nov 11 2026. No macro, syntax, notation, axiom, sorry.
-/
import Derived.Test.YtlgnggogiopjaaaGreatDoorRows
import GoSem.ClaimSeven
namespace Go.Proofs.YtlgnggogiopjaaaGreatDoor
namespace Rows

/-- THE TIED CARD OF 'lingualaw43.ErasePlans'. -/
def erasePlansCard : Claim7 := { stood := { row := erasePlansRow, standIns := [], harness := (true, "24ae2d9bb524a1ebfee2144f72c93504f854d8fad05c50e4c1dd3f442cf8e7a4"), looks := true }, kinds := [], alts := [], laidByText := true, laidKinds := [.data, .data, .data, .sentinel, .sentinel], laidTests := true, laidLooks := .later }
def ErasePlansCardSaid : Prop := Claim7.holds Tryz.pinned (.plain (OpenSpec.ofChange erasePlansSpec)) erasePlansCard

/-- THE TIED CARD OF 'lingualaw43.EraseMany'. -/
def eraseManyCard : Claim7 := { stood := { row := eraseManyRow, standIns := [], harness := (true, "24ae2d9bb524a1ebfee2144f72c93504f854d8fad05c50e4c1dd3f442cf8e7a4"), looks := true }, kinds := [], alts := [], laidByText := true, laidKinds := [.data, .data, .data, .sentinel, .sentinel], laidTests := true, laidLooks := .later }
def EraseManyCardSaid : Prop := Claim7.holds Tryz.pinned (.plain (OpenSpec.ofChange eraseManySpec)) eraseManyCard

/-- THE TIED CARD OF 'lingualaw43.EraseAtomic'. -/
def eraseAtomicCard : Claim7 := { stood := { row := eraseAtomicRow, standIns := [], harness := (true, "24ae2d9bb524a1ebfee2144f72c93504f854d8fad05c50e4c1dd3f442cf8e7a4"), looks := true }, kinds := [], alts := [], laidByText := true, laidKinds := [.data, .data, .data, .sentinel, .sentinel], laidTests := true, laidLooks := .later }
def EraseAtomicCardSaid : Prop := Claim7.holds Tryz.pinned (.plain (OpenSpec.ofChange eraseAtomicSpec)) eraseAtomicCard

/-- THE TIED CARD OF 'lingualaw43.EraseTells'. -/
def eraseTellsCard : Claim7 := { stood := { row := eraseTellsRow, standIns := [], harness := (true, "24ae2d9bb524a1ebfee2144f72c93504f854d8fad05c50e4c1dd3f442cf8e7a4"), looks := true }, kinds := [], alts := [], laidByText := true, laidKinds := [.data, .data, .data, .sentinel, .sentinel], laidTests := true, laidLooks := .later }
def EraseTellsCardSaid : Prop := Claim7.holds Tryz.pinned (.plain (OpenSpec.ofChange eraseTellsSpec)) eraseTellsCard

/-- THE TIED CARD OF 'lingualaw43.EraseRefuses'. -/
def eraseRefusesCard : Claim7 := { stood := { row := eraseRefusesRow, standIns := [], harness := (true, "24ae2d9bb524a1ebfee2144f72c93504f854d8fad05c50e4c1dd3f442cf8e7a4"), looks := true }, kinds := [], alts := [], laidByText := true, laidKinds := [.data, .data, .data, .sentinel, .sentinel], laidTests := true, laidLooks := .later }
def EraseRefusesCardSaid : Prop := Claim7.holds Tryz.pinned (.plain (OpenSpec.ofChange eraseRefusesSpec)) eraseRefusesCard

/-- THE TIED CARD OF 'lingualaw43.EraseFirst'. -/
def eraseFirstCard : Claim7 := { stood := { row := eraseFirstRow, standIns := [], harness := (true, "24ae2d9bb524a1ebfee2144f72c93504f854d8fad05c50e4c1dd3f442cf8e7a4"), looks := true }, kinds := [], alts := [], laidByText := true, laidKinds := [.data, .data, .data, .sentinel, .sentinel], laidTests := true, laidLooks := .later }
def EraseFirstCardSaid : Prop := Claim7.holds Tryz.pinned (.plain (OpenSpec.ofChange eraseFirstSpec)) eraseFirstCard

/-- THE SECOND FORM's CARD OF 'lingualaw43.ErasePlans'. -/
def erasePlansUptoCard : Claim7 := { stood := { row := erasePlansUptoRow, standIns := [], harness := (true, "24ae2d9bb524a1ebfee2144f72c93504f854d8fad05c50e4c1dd3f442cf8e7a4"), looks := true }, kinds := [], alts := [], laidByText := true, laidKinds := [.data, .data, .data, .sentinel, .sentinel], laidTests := true, laidLooks := .later }
def ErasePlansUptoCardSaid : Prop := Claim7.holds Tryz.pinned (.plain (OpenSpec.upto erasePlansSpec)) erasePlansUptoCard

/-- THE SECOND FORM's CARD OF 'lingualaw43.EraseMany'. -/
def eraseManyUptoCard : Claim7 := { stood := { row := eraseManyUptoRow, standIns := [], harness := (true, "24ae2d9bb524a1ebfee2144f72c93504f854d8fad05c50e4c1dd3f442cf8e7a4"), looks := true }, kinds := [], alts := [], laidByText := true, laidKinds := [.data, .data, .data, .sentinel, .sentinel], laidTests := true, laidLooks := .later }
def EraseManyUptoCardSaid : Prop := Claim7.holds Tryz.pinned (.plain (OpenSpec.upto eraseManySpec)) eraseManyUptoCard

/-- THE SECOND FORM's CARD OF 'lingualaw43.EraseAtomic'. -/
def eraseAtomicUptoCard : Claim7 := { stood := { row := eraseAtomicUptoRow, standIns := [], harness := (true, "24ae2d9bb524a1ebfee2144f72c93504f854d8fad05c50e4c1dd3f442cf8e7a4"), looks := true }, kinds := [], alts := [], laidByText := true, laidKinds := [.data, .data, .data, .sentinel, .sentinel], laidTests := true, laidLooks := .later }
def EraseAtomicUptoCardSaid : Prop := Claim7.holds Tryz.pinned (.plain (OpenSpec.upto eraseAtomicSpec)) eraseAtomicUptoCard

/-- THE SECOND FORM's CARD OF 'lingualaw43.EraseTells'. -/
def eraseTellsUptoCard : Claim7 := { stood := { row := eraseTellsUptoRow, standIns := [], harness := (true, "24ae2d9bb524a1ebfee2144f72c93504f854d8fad05c50e4c1dd3f442cf8e7a4"), looks := true }, kinds := [], alts := [], laidByText := true, laidKinds := [.data, .data, .data, .sentinel, .sentinel], laidTests := true, laidLooks := .later }
def EraseTellsUptoCardSaid : Prop := Claim7.holds Tryz.pinned (.plain (OpenSpec.upto eraseTellsSpec)) eraseTellsUptoCard

/-- THE SECOND FORM's CARD OF 'lingualaw43.EraseRefuses'. -/
def eraseRefusesUptoCard : Claim7 := { stood := { row := eraseRefusesUptoRow, standIns := [], harness := (true, "24ae2d9bb524a1ebfee2144f72c93504f854d8fad05c50e4c1dd3f442cf8e7a4"), looks := true }, kinds := [], alts := [], laidByText := true, laidKinds := [.data, .data, .data, .sentinel, .sentinel], laidTests := true, laidLooks := .later }
def EraseRefusesUptoCardSaid : Prop := Claim7.holds Tryz.pinned (.plain (OpenSpec.upto eraseRefusesSpec)) eraseRefusesUptoCard

/-- THE SECOND FORM's CARD OF 'lingualaw43.EraseFirst'. -/
def eraseFirstUptoCard : Claim7 := { stood := { row := eraseFirstUptoRow, standIns := [], harness := (true, "24ae2d9bb524a1ebfee2144f72c93504f854d8fad05c50e4c1dd3f442cf8e7a4"), looks := true }, kinds := [], alts := [], laidByText := true, laidKinds := [.data, .data, .data, .sentinel, .sentinel], laidTests := true, laidLooks := .later }
def EraseFirstUptoCardSaid : Prop := Claim7.holds Tryz.pinned (.plain (OpenSpec.upto eraseFirstSpec)) eraseFirstUptoCard
end Rows
end Go.Proofs.YtlgnggogiopjaaaGreatDoor
