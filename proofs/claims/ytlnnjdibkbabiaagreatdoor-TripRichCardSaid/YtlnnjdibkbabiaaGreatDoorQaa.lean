/- Contracts and plain laws, joined: TlRichJf. -/
import Derived.Test.YtlnnjdibkbabiaaGreatDoorTie
import Derived.Test.YtlnnjdibkbabiaaGreatDoorCards
import Derived.OpenShut
import Derived.LaidMore
import Derived.Stop.Joined
import Derived.SevenTiedAt
/- TripRich: what the row asks of the whole program. -/
set_option linter.unusedSimpArgs false
set_option linter.unusedVariables false
namespace Go.Proofs.YtlnnjdibkbabiaaGreatDoor
open Go.RowKit
theorem tripRich_closed:joinedFacts Tryz.pinned.checked.prog 7 Tryz.f7 Rows.tripRichSpec Rows.tripRichRow=true:=by kernel_rfl
end Go.Proofs.YtlnnjdibkbabiaaGreatDoor
