/- Contracts and plain laws, joined: StBackJf. -/
import Derived.Test.YthlpehhlhebhbaaGreatDoorTie
import Derived.Test.YthlpehhlhebhbaaGreatDoorCards
import Derived.OpenShut
import Derived.LaidMore
import Derived.Stop.Joined
import Derived.SevenTiedAt
/- StateBack: what the row asks of the whole program. -/
set_option linter.unusedSimpArgs false
set_option linter.unusedVariables false
namespace Go.Proofs.YthlpehhlhebhbaaGreatDoor
open Go.RowKit
theorem stateBack_closed : joinedFacts Tryz.pinned.checked.prog 4 Tryz.f4 Rows.stateBackSpec Rows.stateBackRow = true := by kernel_rfl
end Go.Proofs.YthlpehhlhebhbaaGreatDoor
