/-
  DERIVED. GIVEN WITH THE SEED: THE CARDS: each row of YtpcfmmiiokbjbaaDoorRows.lean that lists a variable, with what it lists TIED to the program's text (the seventh form; the later family's looks); each row that meets fmt, with fmt's text TOLD by the authors' own Lean function (tested against real Go, not proved from fmt's source: count such statements apart). THE CARD IS WHAT COUNTS. Prove the row's statement (the work); the ties are given (YtpcfmmiiokbjbaaDoorTie.lean); close each card by the builder's one call (the guide's Derived/Test/ToyasCard.lean, 'card_holds'). Laid BY PROGRAM, IN A SANDBOX (cutbox-door.mjs). By AI agents, Wed Nov 11 2026. No macro, syntax, notation, axiom, sorry.
-/
import Derived.Test.YtpcfmmiiokbjbaaDoorRows
import GoSem.ClaimSeven
namespace Go.Proofs.YtpcfmmiiokbjbaaDoor
namespace Rows

/-- THE TIED CARD OF 'lingualaw10.WordsTells'. -/
def wordsTellsCard : Claim7 := { stood := { row := wordsTellsRow, standIns := [], harness := (true, "091dcbcecbfd930bbe8a522bdd3f5b26fc3faeab3a187c9a2ebe95adb6c67fef"), looks := false }, kinds := [], alts := [], laidByText := true, laidKinds := [.data, .data, .data, .data, .pinned, .pinned], laidTests := true, laidLooks := .later }
def WordsTellsCardSaid : Prop := Claim7.holds Tryd.pinned (.plain (OpenSpec.ofChange wordsTellsSpec)) wordsTellsCard

/-- THE TIED CARD OF 'lingualaw10.WordsParts'. -/
def wordsPartsCard : Claim7 := { stood := { row := wordsPartsRow, standIns := [], harness := (true, "091dcbcecbfd930bbe8a522bdd3f5b26fc3faeab3a187c9a2ebe95adb6c67fef"), looks := false }, kinds := [], alts := [], laidByText := true, laidKinds := [.data, .data, .data, .data, .pinned, .pinned], laidTests := true, laidLooks := .later }
def WordsPartsCardSaid : Prop := Claim7.holds Tryd.pinned (.plain (OpenSpec.ofChange wordsPartsSpec)) wordsPartsCard

/-- THE TIED CARD OF 'lingualaw10.WordsErase'. -/
def wordsEraseCard : Claim7 := { stood := { row := wordsEraseRow, standIns := [], harness := (true, "091dcbcecbfd930bbe8a522bdd3f5b26fc3faeab3a187c9a2ebe95adb6c67fef"), looks := false }, kinds := [], alts := [], laidByText := true, laidKinds := [.data, .data, .data, .data, .pinned, .pinned], laidTests := true, laidLooks := .later }
def WordsEraseCardSaid : Prop := Claim7.holds Tryd.pinned (.plain (OpenSpec.ofChange wordsEraseSpec)) wordsEraseCard

/-- THE TIED CARD OF 'lingualaw10.WordsSame'. -/
def wordsSameCard : Claim7 := { stood := { row := wordsSameRow, standIns := [], harness := (true, "091dcbcecbfd930bbe8a522bdd3f5b26fc3faeab3a187c9a2ebe95adb6c67fef"), looks := false }, kinds := [], alts := [], laidByText := true, laidKinds := [.data, .data, .data, .data, .pinned, .pinned], laidTests := true, laidLooks := .later }
def WordsSameCardSaid : Prop := Claim7.holds Tryd.pinned (.plain (OpenSpec.ofChange wordsSameSpec)) wordsSameCard

/-- THE SECOND FORM's CARD OF 'lingualaw10.WordsTells'. -/
def wordsTellsUptoCard : Claim7 := { stood := { row := wordsTellsUptoRow, standIns := [], harness := (true, "091dcbcecbfd930bbe8a522bdd3f5b26fc3faeab3a187c9a2ebe95adb6c67fef"), looks := false }, kinds := [], alts := [], laidByText := true, laidKinds := [.data, .data, .data, .data, .pinned, .pinned], laidTests := true, laidLooks := .later }
def WordsTellsUptoCardSaid : Prop := Claim7.holds Tryd.pinned (.plain (OpenSpec.upto wordsTellsSpec)) wordsTellsUptoCard

/-- THE SECOND FORM's CARD OF 'lingualaw10.WordsParts'. -/
def wordsPartsUptoCard : Claim7 := { stood := { row := wordsPartsUptoRow, standIns := [], harness := (true, "091dcbcecbfd930bbe8a522bdd3f5b26fc3faeab3a187c9a2ebe95adb6c67fef"), looks := false }, kinds := [], alts := [], laidByText := true, laidKinds := [.data, .data, .data, .data, .pinned, .pinned], laidTests := true, laidLooks := .later }
def WordsPartsUptoCardSaid : Prop := Claim7.holds Tryd.pinned (.plain (OpenSpec.upto wordsPartsSpec)) wordsPartsUptoCard

/-- THE SECOND FORM's CARD OF 'lingualaw10.WordsErase'. -/
def wordsEraseUptoCard : Claim7 := { stood := { row := wordsEraseUptoRow, standIns := [], harness := (true, "091dcbcecbfd930bbe8a522bdd3f5b26fc3faeab3a187c9a2ebe95adb6c67fef"), looks := false }, kinds := [], alts := [], laidByText := true, laidKinds := [.data, .data, .data, .data, .pinned, .pinned], laidTests := true, laidLooks := .later }
def WordsEraseUptoCardSaid : Prop := Claim7.holds Tryd.pinned (.plain (OpenSpec.upto wordsEraseSpec)) wordsEraseUptoCard

/-- THE SECOND FORM's CARD OF 'lingualaw10.WordsSame'. -/
def wordsSameUptoCard : Claim7 := { stood := { row := wordsSameUptoRow, standIns := [], harness := (true, "091dcbcecbfd930bbe8a522bdd3f5b26fc3faeab3a187c9a2ebe95adb6c67fef"), looks := false }, kinds := [], alts := [], laidByText := true, laidKinds := [.data, .data, .data, .data, .pinned, .pinned], laidTests := true, laidLooks := .later }
def WordsSameUptoCardSaid : Prop := Claim7.holds Tryd.pinned (.plain (OpenSpec.upto wordsSameSpec)) wordsSameUptoCard
end Rows
end Go.Proofs.YtpcfmmiiokbjbaaDoor
