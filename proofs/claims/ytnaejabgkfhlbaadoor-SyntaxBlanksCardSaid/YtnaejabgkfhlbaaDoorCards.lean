/-
  DERIVED. GIVEN WITH THE SEED: THE CARDS: each row of YtnaejabgkfhlbaaDoorRows.lean that lists a variable, with what it lists TIED to the program's text (the seventh form; the later family's looks); each row that meets fmt, with fmt's text TOLD by the authors' own Lean function (tested against real Go, not proved from fmt's source: count such statements apart). THE CARD IS WHAT COUNTS. Prove the row's statement (the work); the ties are given (YtnaejabgkfhlbaaDoorTie.lean); close each card by the builder's one call (the guide's Derived/Test/ToyasCard.lean, 'card_holds'). Laid BY PROGRAM, IN A SANDBOX (cutbox-door.mjs). By AI agents, Wed Nov 11 2026. No macro, syntax, notation, axiom, sorry.
-/
import Derived.Test.YtnaejabgkfhlbaaDoorRows
import GoSem.ClaimSeven
namespace Go.Proofs.YtnaejabgkfhlbaaDoor
namespace Rows

/-- THE TIED CARD OF 'lingualaw12.SyntaxTells'. -/
def syntaxTellsCard : Claim7 := { stood := { row := syntaxTellsRow, standIns := [], harness := (true, "b7e8aa6e56950bbca6d0e63e1a337c5828aca7719ba81a0d34954fd4755aa8c3"), looks := false }, kinds := [], alts := [], laidByText := true, laidKinds := [.data, .data, .data], laidTests := true, laidLooks := .later }
def SyntaxTellsCardSaid : Prop := Claim7.holds Tryd.pinned (.plain (OpenSpec.ofChange syntaxTellsSpec)) syntaxTellsCard

/-- THE TIED CARD OF 'lingualaw12.SyntaxBack'. -/
def syntaxBackCard : Claim7 := { stood := { row := syntaxBackRow, standIns := [], harness := (true, "b7e8aa6e56950bbca6d0e63e1a337c5828aca7719ba81a0d34954fd4755aa8c3"), looks := false }, kinds := [], alts := [], laidByText := true, laidKinds := [.data, .data, .data], laidTests := true, laidLooks := .later }
def SyntaxBackCardSaid : Prop := Claim7.holds Tryd.pinned (.plain (OpenSpec.ofChange syntaxBackSpec)) syntaxBackCard

/-- THE TIED CARD OF 'lingualaw12.SyntaxBlanks'. -/
def syntaxBlanksCard : Claim7 := { stood := { row := syntaxBlanksRow, standIns := [], harness := (true, "b7e8aa6e56950bbca6d0e63e1a337c5828aca7719ba81a0d34954fd4755aa8c3"), looks := false }, kinds := [], alts := [], laidByText := true, laidKinds := [.data, .data, .data], laidTests := true, laidLooks := .later }
def SyntaxBlanksCardSaid : Prop := Claim7.holds Tryd.pinned (.plain (OpenSpec.ofChange syntaxBlanksSpec)) syntaxBlanksCard

/-- THE TIED CARD OF 'lingualaw12.SyntaxFirst'. -/
def syntaxFirstCard : Claim7 := { stood := { row := syntaxFirstRow, standIns := [], harness := (true, "b7e8aa6e56950bbca6d0e63e1a337c5828aca7719ba81a0d34954fd4755aa8c3"), looks := false }, kinds := [], alts := [], laidByText := true, laidKinds := [.data, .data, .data], laidTests := true, laidLooks := .later }
def SyntaxFirstCardSaid : Prop := Claim7.holds Tryd.pinned (.plain (OpenSpec.ofChange syntaxFirstSpec)) syntaxFirstCard

/-- THE TIED CARD OF 'lingualaw12.SyntaxParts'. -/
def syntaxPartsCard : Claim7 := { stood := { row := syntaxPartsRow, standIns := [], harness := (true, "b7e8aa6e56950bbca6d0e63e1a337c5828aca7719ba81a0d34954fd4755aa8c3"), looks := false }, kinds := [], alts := [], laidByText := true, laidKinds := [.data, .data, .data], laidTests := true, laidLooks := .later }
def SyntaxPartsCardSaid : Prop := Claim7.holds Tryd.pinned (.plain (OpenSpec.ofChange syntaxPartsSpec)) syntaxPartsCard

/-- THE TIED CARD OF 'lingualaw19.WaysRules'. -/
def waysRulesCard : Claim7 := { stood := { row := waysRulesRow, standIns := [], harness := (true, "b7e8aa6e56950bbca6d0e63e1a337c5828aca7719ba81a0d34954fd4755aa8c3"), looks := false }, kinds := [], alts := [], laidByText := true, laidKinds := [.data, .data, .data], laidTests := true, laidLooks := .later }
def WaysRulesCardSaid : Prop := Claim7.holds Tryd.pinned (.plain (OpenSpec.ofChange waysRulesSpec)) waysRulesCard

/-- THE SECOND FORM's CARD OF 'lingualaw12.SyntaxTells'. -/
def syntaxTellsUptoCard : Claim7 := { stood := { row := syntaxTellsUptoRow, standIns := [], harness := (true, "b7e8aa6e56950bbca6d0e63e1a337c5828aca7719ba81a0d34954fd4755aa8c3"), looks := false }, kinds := [], alts := [], laidByText := true, laidKinds := [.data, .data, .data], laidTests := true, laidLooks := .later }
def SyntaxTellsUptoCardSaid : Prop := Claim7.holds Tryd.pinned (.plain (OpenSpec.upto syntaxTellsSpec)) syntaxTellsUptoCard

/-- THE SECOND FORM's CARD OF 'lingualaw12.SyntaxBack'. -/
def syntaxBackUptoCard : Claim7 := { stood := { row := syntaxBackUptoRow, standIns := [], harness := (true, "b7e8aa6e56950bbca6d0e63e1a337c5828aca7719ba81a0d34954fd4755aa8c3"), looks := false }, kinds := [], alts := [], laidByText := true, laidKinds := [.data, .data, .data], laidTests := true, laidLooks := .later }
def SyntaxBackUptoCardSaid : Prop := Claim7.holds Tryd.pinned (.plain (OpenSpec.upto syntaxBackSpec)) syntaxBackUptoCard

/-- THE SECOND FORM's CARD OF 'lingualaw12.SyntaxBlanks'. -/
def syntaxBlanksUptoCard : Claim7 := { stood := { row := syntaxBlanksUptoRow, standIns := [], harness := (true, "b7e8aa6e56950bbca6d0e63e1a337c5828aca7719ba81a0d34954fd4755aa8c3"), looks := false }, kinds := [], alts := [], laidByText := true, laidKinds := [.data, .data, .data], laidTests := true, laidLooks := .later }
def SyntaxBlanksUptoCardSaid : Prop := Claim7.holds Tryd.pinned (.plain (OpenSpec.upto syntaxBlanksSpec)) syntaxBlanksUptoCard

/-- THE SECOND FORM's CARD OF 'lingualaw12.SyntaxFirst'. -/
def syntaxFirstUptoCard : Claim7 := { stood := { row := syntaxFirstUptoRow, standIns := [], harness := (true, "b7e8aa6e56950bbca6d0e63e1a337c5828aca7719ba81a0d34954fd4755aa8c3"), looks := false }, kinds := [], alts := [], laidByText := true, laidKinds := [.data, .data, .data], laidTests := true, laidLooks := .later }
def SyntaxFirstUptoCardSaid : Prop := Claim7.holds Tryd.pinned (.plain (OpenSpec.upto syntaxFirstSpec)) syntaxFirstUptoCard

/-- THE SECOND FORM's CARD OF 'lingualaw12.SyntaxParts'. -/
def syntaxPartsUptoCard : Claim7 := { stood := { row := syntaxPartsUptoRow, standIns := [], harness := (true, "b7e8aa6e56950bbca6d0e63e1a337c5828aca7719ba81a0d34954fd4755aa8c3"), looks := false }, kinds := [], alts := [], laidByText := true, laidKinds := [.data, .data, .data], laidTests := true, laidLooks := .later }
def SyntaxPartsUptoCardSaid : Prop := Claim7.holds Tryd.pinned (.plain (OpenSpec.upto syntaxPartsSpec)) syntaxPartsUptoCard

/-- THE SECOND FORM's CARD OF 'lingualaw19.WaysRules'. -/
def waysRulesUptoCard : Claim7 := { stood := { row := waysRulesUptoRow, standIns := [], harness := (true, "b7e8aa6e56950bbca6d0e63e1a337c5828aca7719ba81a0d34954fd4755aa8c3"), looks := false }, kinds := [], alts := [], laidByText := true, laidKinds := [.data, .data, .data], laidTests := true, laidLooks := .later }
def WaysRulesUptoCardSaid : Prop := Claim7.holds Tryd.pinned (.plain (OpenSpec.upto waysRulesSpec)) waysRulesUptoCard
end Rows
end Go.Proofs.YtnaejabgkfhlbaaDoor
