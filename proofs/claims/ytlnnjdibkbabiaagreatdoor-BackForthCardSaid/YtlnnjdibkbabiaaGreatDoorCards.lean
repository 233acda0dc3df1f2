/-
  DERIVED. GIVEN WITH THE SEED: THE CARDS: each row of YtlnnjdibkbabiaaGreatDoorRows.lean that lists a variable, with what it lists TIED to the program's text (the seventh form; the later family's looks); each row that meets fmt, with fmt's text TOLD by the authors' own Lean function (tested against real Go, not proved from fmt's source: count such statements apart). THE CARD IS WHAT COUNTS. Prove the row's statement (the work); the ties are given (YtlnnjdibkbabiaaGreatDoorTie.lean); close each card by the builder's one call (the guide's Derived/Test/ToyasCard.lean, 'card_holds'). Laid BY PROGRAM, IN A SANDBOX (cutbox-door.mjs). By AI agents, Wed Nov 11 2026. No macro, syntax, notation, axiom, sorry.
-/
import Derived.Test.YtlnnjdibkbabiaaGreatDoorRows
import GoSem.ClaimSeven
namespace Go.Proofs.YtlnnjdibkbabiaaGreatDoor
namespace Rows

/-- THE TIED CARD OF 'lingualaw23.BackForth'. -/
def backForthCard : Claim7 := { stood := { row := backForthRow, standIns := [], harness := (true, "174a8e8d21afda5146dd4377bf35e83e3b835923070ed427c528eeae271d7bfc"), looks := false }, kinds := [], alts := [], laidByText := true, laidKinds := [.data, .data, .data], laidTests := true, laidLooks := .later }
def BackForthCardSaid : Prop := Claim7.holds Tryz.pinned (.plain (OpenSpec.ofChange backForthSpec)) backForthCard

/-- THE TIED CARD OF 'lingualaw24.TripTells'. -/
def tripTellsCard : Claim7 := { stood := { row := tripTellsRow, standIns := [], harness := (true, "174a8e8d21afda5146dd4377bf35e83e3b835923070ed427c528eeae271d7bfc"), looks := false }, kinds := [], alts := [], laidByText := true, laidKinds := [.data, .data, .data], laidTests := true, laidLooks := .later }
def TripTellsCardSaid : Prop := Claim7.holds Tryz.pinned (.plain (OpenSpec.ofChange tripTellsSpec)) tripTellsCard

/-- THE TIED CARD OF 'lingualaw24.TripNames'. -/
def tripNamesCard : Claim7 := { stood := { row := tripNamesRow, standIns := [], harness := (true, "174a8e8d21afda5146dd4377bf35e83e3b835923070ed427c528eeae271d7bfc"), looks := false }, kinds := [], alts := [], laidByText := true, laidKinds := [.data, .data, .data], laidTests := true, laidLooks := .later }
def TripNamesCardSaid : Prop := Claim7.holds Tryz.pinned (.plain (OpenSpec.ofChange tripNamesSpec)) tripNamesCard

/-- THE TIED CARD OF 'lingualaw24.TripLines'. -/
def tripLinesCard : Claim7 := { stood := { row := tripLinesRow, standIns := [], harness := (true, "174a8e8d21afda5146dd4377bf35e83e3b835923070ed427c528eeae271d7bfc"), looks := false }, kinds := [], alts := [], laidByText := true, laidKinds := [.data, .data, .data], laidTests := true, laidLooks := .later }
def TripLinesCardSaid : Prop := Claim7.holds Tryz.pinned (.plain (OpenSpec.ofChange tripLinesSpec)) tripLinesCard

/-- THE TIED CARD OF 'lingualaw24.TripRich'. -/
def tripRichCard : Claim7 := { stood := { row := tripRichRow, standIns := [], harness := (true, "174a8e8d21afda5146dd4377bf35e83e3b835923070ed427c528eeae271d7bfc"), looks := false }, kinds := [], alts := [], laidByText := true, laidKinds := [.data, .data, .data], laidTests := true, laidLooks := .later }
def TripRichCardSaid : Prop := Claim7.holds Tryz.pinned (.plain (OpenSpec.ofChange tripRichSpec)) tripRichCard

/-- THE SECOND FORM's CARD OF 'lingualaw23.BackForth'. -/
def backForthUptoCard : Claim7 := { stood := { row := backForthUptoRow, standIns := [], harness := (true, "174a8e8d21afda5146dd4377bf35e83e3b835923070ed427c528eeae271d7bfc"), looks := false }, kinds := [], alts := [], laidByText := true, laidKinds := [.data, .data, .data], laidTests := true, laidLooks := .later }
def BackForthUptoCardSaid : Prop := Claim7.holds Tryz.pinned (.plain (OpenSpec.upto backForthSpec)) backForthUptoCard

/-- THE SECOND FORM's CARD OF 'lingualaw24.TripTells'. -/
def tripTellsUptoCard : Claim7 := { stood := { row := tripTellsUptoRow, standIns := [], harness := (true, "174a8e8d21afda5146dd4377bf35e83e3b835923070ed427c528eeae271d7bfc"), looks := false }, kinds := [], alts := [], laidByText := true, laidKinds := [.data, .data, .data], laidTests := true, laidLooks := .later }
def TripTellsUptoCardSaid : Prop := Claim7.holds Tryz.pinned (.plain (OpenSpec.upto tripTellsSpec)) tripTellsUptoCard

/-- THE SECOND FORM's CARD OF 'lingualaw24.TripNames'. -/
def tripNamesUptoCard : Claim7 := { stood := { row := tripNamesUptoRow, standIns := [], harness := (true, "174a8e8d21afda5146dd4377bf35e83e3b835923070ed427c528eeae271d7bfc"), looks := false }, kinds := [], alts := [], laidByText := true, laidKinds := [.data, .data, .data], laidTests := true, laidLooks := .later }
def TripNamesUptoCardSaid : Prop := Claim7.holds Tryz.pinned (.plain (OpenSpec.upto tripNamesSpec)) tripNamesUptoCard

/-- THE SECOND FORM's CARD OF 'lingualaw24.TripLines'. -/
def tripLinesUptoCard : Claim7 := { stood := { row := tripLinesUptoRow, standIns := [], harness := (true, "174a8e8d21afda5146dd4377bf35e83e3b835923070ed427c528eeae271d7bfc"), looks := false }, kinds := [], alts := [], laidByText := true, laidKinds := [.data, .data, .data], laidTests := true, laidLooks := .later }
def TripLinesUptoCardSaid : Prop := Claim7.holds Tryz.pinned (.plain (OpenSpec.upto tripLinesSpec)) tripLinesUptoCard

/-- THE SECOND FORM's CARD OF 'lingualaw24.TripRich'. -/
def tripRichUptoCard : Claim7 := { stood := { row := tripRichUptoRow, standIns := [], harness := (true, "174a8e8d21afda5146dd4377bf35e83e3b835923070ed427c528eeae271d7bfc"), looks := false }, kinds := [], alts := [], laidByText := true, laidKinds := [.data, .data, .data], laidTests := true, laidLooks := .later }
def TripRichUptoCardSaid : Prop := Claim7.holds Tryz.pinned (.plain (OpenSpec.upto tripRichSpec)) tripRichUptoCard
end Rows
end Go.Proofs.YtlnnjdibkbabiaaGreatDoor
