/- Contracts and plain laws, joined: TlNamesJf. -/
import Derived.Test.YtlnnjdibkbabiaaGreatDoorTie
import Derived.Test.YtlnnjdibkbabiaaGreatDoorCards
import Derived.OpenShut
import Derived.LaidMore
import Derived.Stop.Joined
import Derived.SevenTiedAt
/- TripNames: what the row asks of the whole program. -/
set_option linter.unusedSimpArgs false
set_option linter.unusedVariables false
namespace Go.Proofs.YtlnnjdibkbabiaaGreatDoor
open Go.RowKit
theorem tripNames_closed:joinedFacts Tryz.pinned.checked.prog 5 Tryz.f5 Rows.tripNamesSpec Rows.tripNamesRow=true:=by kernel_rfl
end Go.Proofs.YtlnnjdibkbabiaaGreatDoor
