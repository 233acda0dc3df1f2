/- Contracts and plain laws, joined: StFiJf. -/
import Derived.Test.YthlpehhlhebhbaaGreatDoorTie
import Derived.Test.YthlpehhlhebhbaaGreatDoorCards
import Derived.OpenShut
import Derived.LaidMore
import Derived.Stop.Joined
import Derived.SevenTiedAt
/- StateFields: what the row asks of the whole program. -/
set_option linter.unusedSimpArgs false
set_option linter.unusedVariables false
namespace Go.Proofs.YthlpehhlhebhbaaGreatDoor
open Go.RowKit
theorem stateFields_closed:joinedFacts Tryz.pinned.checked.prog 5 Tryz.f5 Rows.stateFieldsSpec Rows.stateFieldsRow=true:=by kernel_rfl
end Go.Proofs.YthlpehhlhebhbaaGreatDoor
