/- Contracts and plain laws, joined: TlB. -/
import Derived.Test.YtlnnjdibkbabiaaGreatDoorQbq
import Derived.Test.YtlnnjdibkbabiaaGreatDoorQbi
/- Contract of linguaref16.Ints. -/
set_option linter.unusedSimpArgs false
set_option linter.unusedVariables false
namespace Go.Proofs.YtlnnjdibkbabiaaGreatDoor
open Go.ChangeShapes Go.WideShapes Go.RowKit Go.Deep
end Go.Proofs.YtlnnjdibkbabiaaGreatDoor
