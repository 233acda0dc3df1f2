/- Contracts and plain laws, joined: StErJf. -/
import Derived.Test.YthlpehhlhebhbaaGreatDoorTie
import Derived.Test.YthlpehhlhebhbaaGreatDoorCards
import Derived.OpenShut
import Derived.LaidMore
import Derived.Stop.Joined
import Derived.SevenTiedAt
/- StateErased: what the row asks of the whole program. -/
set_option linter.unusedSimpArgs false
set_option linter.unusedVariables false
namespace Go.Proofs.YthlpehhlhebhbaaGreatDoor
open Go.RowKit
theorem stateErased_closed:joinedFacts Tryz.pinned.checked.prog 7 Tryz.f7 Rows.stateErasedSpec Rows.stateErasedRow=true:=by kernel_rfl
end Go.Proofs.YthlpehhlhebhbaaGreatDoor
