/- Contracts and plain laws, joined: BfJf. -/
import Derived.Test.YtlnnjdibkbabiaaGreatDoorTie
import Derived.Test.YtlnnjdibkbabiaaGreatDoorCards
import Derived.OpenShut
import Derived.LaidMore
import Derived.Stop.Joined
import Derived.SevenTiedAt
/- BackForth: what the row asks of the whole program. -/
set_option linter.unusedSimpArgs false
set_option linter.unusedVariables false
namespace Go.Proofs.YtlnnjdibkbabiaaGreatDoor
open Go.RowKit
theorem backForth_closed:joinedFacts Tryz.pinned.checked.prog 3 Tryz.f3 Rows.backForthSpec Rows.backForthRow=true:=by kernel_rfl
end Go.Proofs.YtlnnjdibkbabiaaGreatDoor
