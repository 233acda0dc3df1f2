/- Contracts and plain laws, joined: WyOpen. -/
import Derived.Test.YtlnnjdibkbabiaaGreatDoorQam
import Derived.Test.YtlnnjdibkbabiaaGreatDoorQax
/- A profile among the arguments of a law. -/
set_option linter.unusedSimpArgs false
set_option linter.unusedVariables false
namespace Go.Proofs.YtlnnjdibkbabiaaGreatDoor
open Go.ChangeShapes Go.WideShapes Go.RowKit Go.Deep
section
variable {H:Type} {enc0:TypeId × Value→H} {w:World} {base:Nat} {spare:Nat→Bool} {held:Bool}
end
end Go.Proofs.YtlnnjdibkbabiaaGreatDoor
