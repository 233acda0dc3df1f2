/- Contracts and plain laws, joined: BytL. -/
import Derived.Test.YtlnnjdibkbabiaaGreatDoorQag
import Derived.Test.YtlnnjdibkbabiaaGreatDoorQad
import Derived.Laws.IdiomStrings
/- Byte slices that a call makes by append,nil at first: as lists;their strings;over any program. -/
set_option linter.unusedSimpArgs false
set_option linter.unusedVariables false
namespace Go.Proofs.YtlnnjdibkbabiaaGreatDoor
open Go.RowKit
def byteE (c:UInt8):List Value:=[.int .u8 c.toNat]
end Go.Proofs.YtlnnjdibkbabiaaGreatDoor
