/- Contracts and plain laws, joined: JnL, JnM. -/
import Derived.Test.YtjmkodkechahdaaGreatDoorQbb
import Derived.Test.YtjmkodkechahdaaGreatDoorQak
import Derived.Test.YtjmkodkechahdaaGreatDoorQae
import Derived.Deep.RegionHeld3
import Derived.StillTailTactics
/- Contracts of journal: Len, Get, All, Sync, Append. -/
set_option linter.unusedSimpArgs false
set_option linter.unusedVariables false
namespace Go.Proofs.YtjmkodkechahdaaGreatDoor
open Go.RowKit
set_option maxRecDepth 100000

section
variable {w : World} {q p : Nat} {J : JS} {L : JL}
def JS.get (J : JS) (i : Int) : List UInt8 := if i < 0 then [] else (J.recs[i.toNat]?).getD []
end
end Go.Proofs.YtjmkodkechahdaaGreatDoor
/- Contracts of journal: Sync, Append. -/
set_option linter.unusedSimpArgs false
set_option linter.unusedVariables false
namespace Go.Proofs.YtjmkodkechahdaaGreatDoor
open Go.RowKit
set_option maxRecDepth 100000

section
variable {w w1 w' : World} {q p : Nat} {J J2 : JS} {L : JL} {S S2 : DS} {D : DL}
end
/-- What append does to the records. -/
theorem appS_rec {S : DS} {J : JS} {s : List UInt8} (h : J.pre s = 0) : appC S J s = S.writeC J.file J.at_ (bs (formF s)) ∧ appS S J s = S.write J.file J.at_ (bs (formF s)) ∧
    (S.writeC J.file J.at_ (bs (formF s)) ≠ 0 → appJ S J s = { J with bad := true }) ∧ (S.writeC J.file J.at_ (bs (formF s)) = 0 → appJ S J s = { J with recs := J.recs ++ [s] }) := by
  unfold appC appS appJ
  rw [h]
  refine ⟨rfl, rfl, fun hc => ?_, fun hc => ?_⟩
  · rw [if_neg (by simp), if_pos hc]
  · rw [if_neg (by simp), if_neg (by simpa using hc)]
theorem appS_pre {S : DS} {J : JS} {s : List UInt8} {c : Int} (h : J.pre s = c) (hc : c ≠ 0) : appC S J s = c ∧ appS S J s = S ∧ appJ S J s = J := by
  unfold appC appS appJ
  rw [h, if_pos hc, if_pos hc, if_pos hc]
  exact ⟨rfl, rfl, rfl⟩
end Go.Proofs.YtjmkodkechahdaaGreatDoor
