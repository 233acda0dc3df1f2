/- Contracts and plain laws, joined: StCsJf. -/
import Derived.Test.YthlpehhlhebhbaaGreatDoorTie
import Derived.Test.YthlpehhlhebhbaaGreatDoorCards
import Derived.OpenShut
import Derived.LaidMore
import Derived.Stop.Joined
import Derived.SevenTiedAt
/- StateCopies: what the row asks of the whole program. -/
set_option linter.unusedSimpArgs false
set_option linter.unusedVariables false
namespace Go.Proofs.YthlpehhlhebhbaaGreatDoor
open Go.RowKit
theorem stateCopies_closed:joinedFacts Tryz.pinned.checked.prog 6 Tryz.f6 Rows.stateCopiesSpec Rows.stateCopiesRow=true:=by kernel_rfl
end Go.Proofs.YthlpehhlhebhbaaGreatDoor
