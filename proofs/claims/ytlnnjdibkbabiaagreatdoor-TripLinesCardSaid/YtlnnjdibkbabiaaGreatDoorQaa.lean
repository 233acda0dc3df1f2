/- Contracts and plain laws, joined: TlLinesJf. -/
import Derived.Test.YtlnnjdibkbabiaaGreatDoorTie
import Derived.Test.YtlnnjdibkbabiaaGreatDoorCards
import Derived.OpenShut
import Derived.LaidMore
import Derived.Stop.Joined
import Derived.SevenTiedAt
/- TripLines: what the row asks of the whole program. -/
set_option linter.unusedSimpArgs false
set_option linter.unusedVariables false
namespace Go.Proofs.YtlnnjdibkbabiaaGreatDoor
open Go.RowKit
theorem tripLines_closed:joinedFacts Tryz.pinned.checked.prog 6 Tryz.f6 Rows.tripLinesSpec Rows.tripLinesRow=true:=by kernel_rfl
end Go.Proofs.YtlnnjdibkbabiaaGreatDoor
