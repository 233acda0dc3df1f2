/- Contracts and plain laws, joined: ErS. -/
import Derived.Test.YtlnnjdibkbabiaaGreatDoorChecked
import Derived.Test.YtlnnjdibkbabiaaGreatDoorQag
/- Contract of erase.steps: calls one after the other,up to the first error. -/
set_option linter.unusedSimpArgs false
set_option linter.unusedVariables false
namespace Go.Proofs.YtlnnjdibkbabiaaGreatDoor
open Go.RowKit
structure FV where
 n:Nat
 bnd:Array Value
 cap:Array Value
def FV.v (f:FV):Value:=.func (.func f.n) f.bnd f.cap
end Go.Proofs.YtlnnjdibkbabiaaGreatDoor
