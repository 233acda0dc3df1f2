/- Contracts and plain laws, joined: TjF. -/
import Derived.Test.YtlnnjdibkbabiaaGreatDoorQbv
/- Contract of show of package trip (layer 24). -/
set_option linter.unusedSimpArgs false
set_option linter.unusedVariables false
namespace Go.Proofs.YtlnnjdibkbabiaaGreatDoor
open Go.RowKit
set_option maxRecDepth 100000
end Go.Proofs.YtlnnjdibkbabiaaGreatDoor
