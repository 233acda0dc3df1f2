/-
  DERIVED. GIVEN WITH THE SEED: THE CARDS: each row of YthlpehhlhebhbaaGreatDoorRows.lean that lists a variable, with what it lists TIED to the program's text (the seventh form; the later family's looks); each row that meets fmt, with fmt's text TOLD by the authors' own Lean function (tested against real Go, not proved from fmt's source: count such statements apart). THE CARD IS WHAT COUNTS. Prove the row's statement (the work); the ties are given (YthlpehhlhebhbaaGreatDoorTie.lean); close each card by the builder's one call (the guide's Derived/Test/ToyasCard.lean, 'card_holds'). Laid BY PROGRAM, IN A SANDBOX (cutbox-door.mjs). By AI agents, Wed Nov 11 2026. No macro, syntax, notation, axiom, sorry.
-/
import Derived.Test.YthlpehhlhebhbaaGreatDoorRows
import GoSem.ClaimSeven
namespace Go.Proofs.YthlpehhlhebhbaaGreatDoor
namespace Rows

/-- THE TIED CARD OF 'lingualaw46.StateTells'. -/
def stateTellsCard : Claim7 := { stood := { row := stateTellsRow, standIns := [], harness := (true, "9a0399f464b875f4095ea4f7a750892e4642d40b0ae1c8dc56748ac74bfe51d9"), looks := true }, kinds := [], alts := [], laidByText := true, laidKinds := [.data, .data, .data, .sentinel, .sentinel], laidTests := true, laidLooks := .later }
def StateTellsCardSaid : Prop := Claim7.holds Tryz.pinned (.plain (OpenSpec.ofChange stateTellsSpec)) stateTellsCard

/-- THE TIED CARD OF 'lingualaw46.StateBack'. -/
def stateBackCard : Claim7 := { stood := { row := stateBackRow, standIns := [], harness := (true, "9a0399f464b875f4095ea4f7a750892e4642d40b0ae1c8dc56748ac74bfe51d9"), looks := true }, kinds := [], alts := [], laidByText := true, laidKinds := [.data, .data, .data, .sentinel, .sentinel], laidTests := true, laidLooks := .later }
def StateBackCardSaid : Prop := Claim7.holds Tryz.pinned (.plain (OpenSpec.ofChange stateBackSpec)) stateBackCard

/-- THE TIED CARD OF 'lingualaw46.StateFields'. -/
def stateFieldsCard : Claim7 := { stood := { row := stateFieldsRow, standIns := [], harness := (true, "9a0399f464b875f4095ea4f7a750892e4642d40b0ae1c8dc56748ac74bfe51d9"), looks := true }, kinds := [], alts := [], laidByText := true, laidKinds := [.data, .data, .data, .sentinel, .sentinel], laidTests := true, laidLooks := .later }
def StateFieldsCardSaid : Prop := Claim7.holds Tryz.pinned (.plain (OpenSpec.ofChange stateFieldsSpec)) stateFieldsCard

/-- THE TIED CARD OF 'lingualaw46.StateCopies'. -/
def stateCopiesCard : Claim7 := { stood := { row := stateCopiesRow, standIns := [], harness := (true, "9a0399f464b875f4095ea4f7a750892e4642d40b0ae1c8dc56748ac74bfe51d9"), looks := true }, kinds := [], alts := [], laidByText := true, laidKinds := [.data, .data, .data, .sentinel, .sentinel], laidTests := true, laidLooks := .later }
def StateCopiesCardSaid : Prop := Claim7.holds Tryz.pinned (.plain (OpenSpec.ofChange stateCopiesSpec)) stateCopiesCard

/-- THE TIED CARD OF 'lingualaw46.StateErased'. -/
def stateErasedCard : Claim7 := { stood := { row := stateErasedRow, standIns := [], harness := (true, "9a0399f464b875f4095ea4f7a750892e4642d40b0ae1c8dc56748ac74bfe51d9"), looks := true }, kinds := [], alts := [], laidByText := true, laidKinds := [.data, .data, .data, .sentinel, .sentinel], laidTests := true, laidLooks := .later }
def StateErasedCardSaid : Prop := Claim7.holds Tryz.pinned (.plain (OpenSpec.ofChange stateErasedSpec)) stateErasedCard

/-- THE SECOND FORM's CARD OF 'lingualaw46.StateTells'. -/
def stateTellsUptoCard : Claim7 := { stood := { row := stateTellsUptoRow, standIns := [], harness := (true, "9a0399f464b875f4095ea4f7a750892e4642d40b0ae1c8dc56748ac74bfe51d9"), looks := true }, kinds := [], alts := [], laidByText := true, laidKinds := [.data, .data, .data, .sentinel, .sentinel], laidTests := true, laidLooks := .later }
def StateTellsUptoCardSaid : Prop := Claim7.holds Tryz.pinned (.plain (OpenSpec.upto stateTellsSpec)) stateTellsUptoCard

/-- THE SECOND FORM's CARD OF 'lingualaw46.StateBack'. -/
def stateBackUptoCard : Claim7 := { stood := { row := stateBackUptoRow, standIns := [], harness := (true, "9a0399f464b875f4095ea4f7a750892e4642d40b0ae1c8dc56748ac74bfe51d9"), looks := true }, kinds := [], alts := [], laidByText := true, laidKinds := [.data, .data, .data, .sentinel, .sentinel], laidTests := true, laidLooks := .later }
def StateBackUptoCardSaid : Prop := Claim7.holds Tryz.pinned (.plain (OpenSpec.upto stateBackSpec)) stateBackUptoCard

/-- THE SECOND FORM's CARD OF 'lingualaw46.StateFields'. -/
def stateFieldsUptoCard : Claim7 := { stood := { row := stateFieldsUptoRow, standIns := [], harness := (true, "9a0399f464b875f4095ea4f7a750892e4642d40b0ae1c8dc56748ac74bfe51d9"), looks := true }, kinds := [], alts := [], laidByText := true, laidKinds := [.data, .data, .data, .sentinel, .sentinel], laidTests := true, laidLooks := .later }
def StateFieldsUptoCardSaid : Prop := Claim7.holds Tryz.pinned (.plain (OpenSpec.upto stateFieldsSpec)) stateFieldsUptoCard

/-- THE SECOND FORM's CARD OF 'lingualaw46.StateCopies'. -/
def stateCopiesUptoCard : Claim7 := { stood := { row := stateCopiesUptoRow, standIns := [], harness := (true, "9a0399f464b875f4095ea4f7a750892e4642d40b0ae1c8dc56748ac74bfe51d9"), looks := true }, kinds := [], alts := [], laidByText := true, laidKinds := [.data, .data, .data, .sentinel, .sentinel], laidTests := true, laidLooks := .later }
def StateCopiesUptoCardSaid : Prop := Claim7.holds Tryz.pinned (.plain (OpenSpec.upto stateCopiesSpec)) stateCopiesUptoCard

/-- THE SECOND FORM's CARD OF 'lingualaw46.StateErased'. -/
def stateErasedUptoCard : Claim7 := { stood := { row := stateErasedUptoRow, standIns := [], harness := (true, "9a0399f464b875f4095ea4f7a750892e4642d40b0ae1c8dc56748ac74bfe51d9"), looks := true }, kinds := [], alts := [], laidByText := true, laidKinds := [.data, .data, .data, .sentinel, .sentinel], laidTests := true, laidLooks := .later }
def StateErasedUptoCardSaid : Prop := Claim7.holds Tryz.pinned (.plain (OpenSpec.upto stateErasedSpec)) stateErasedUptoCard
end Rows
end Go.Proofs.YthlpehhlhebhbaaGreatDoor
