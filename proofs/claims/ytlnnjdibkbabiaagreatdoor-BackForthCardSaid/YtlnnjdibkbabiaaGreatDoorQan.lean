/- Contracts and plain laws, joined: TgF. -/
import Derived.Test.YtlnnjdibkbabiaaGreatDoorQac
import Derived.Test.YtlnnjdibkbabiaaGreatDoorQah
import Derived.Deep.RegionLaw
/- Contracts of layer 22: dropping and adding by the reference. -/
set_option linter.unusedSimpArgs false
set_option linter.unusedVariables false
namespace Go.Proofs.YtlnnjdibkbabiaaGreatDoor
open Go.RowKit
def addF (xs:List Pair) (p:Pair):List Pair × Int :=
 if rightB xs && validP p then (if xs.any (fun q=>excl q p) then ([],5) else (xs++[p],0)) else ([],1)
end Go.Proofs.YtlnnjdibkbabiaaGreatDoor
