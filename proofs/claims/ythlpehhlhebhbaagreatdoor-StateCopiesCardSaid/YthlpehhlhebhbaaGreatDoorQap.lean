/- Contracts and plain laws, joined: WyC, WyD, WyE. -/
import Derived.Test.YthlpehhlhebhbaaGreatDoorQaj
import Derived.Deep.DeepCutAuto
/- Profiles,and what makes them right (layers 12 and 13),by the reference. -/
set_option linter.unusedSimpArgs false
set_option linter.unusedVariables false
namespace Go.Proofs.YthlpehhlhebhbaaGreatDoor
open Go.RowKit
structure Prof where
 name:ByteArray
 edit:Int
 within_:Int
 delete:Int
 react:Bool
 thread:Int
 quote:Bool
 mention:Bool
 size:Int
 parts:Int
 files:Int
 bytes:Int
 types:List ByteArray
 join:Int
 history:Int
 remove:Int
 level:Int
 batch:Bool
 rate:Int
 down:Int
 window:Int
 keep:Int
abbrev Prof.cs (p:Prof) (A:Option Addr) (c:Nat):Array Value:=#[.string p.name,.int .i64 p.edit,.int .i64 p.within_,.int .i64 p.delete,.bool p.react,.int .i64 p.thread,.bool p.quote,.bool p.mention,.int .i64 p.size,.int .i64 p.parts,.int .i64 p.files,.int .i64 p.bytes,
 .slice A p.types.length c,.int .i64 p.join,.int .i64 p.history,.int .i64 p.remove,.int .i64 p.level,.bool p.batch,.int .i64 p.rate,.int .i64 p.down,.int .i64 p.window,.int .i64 p.keep]
abbrev Prof.v (p:Prof) (A:Option Addr) (c:Nat):Value:=.agg (p.cs A c)
def strCells (s:ByteArray):List Value:=[.string s]
abbrev RdS:=RdL 1 strCells
structure ProfOk (w:World) (B:Nat) (A:Option Addr) (p:Prof):Prop where
 rd:RdS w B A p.types
 nm:p.name.size≤9223372036854775807
 len:p.types.length≤9223372036854775807
 ts:∀ s∈p.types,s.size≤9223372036854775807
theorem ProfOk.now {w w':World} {A:Option Addr} {p:Prof} (h:ProfOk w w.heap.size A p) (hb:Below w.heap.size w w'):ProfOk w' w'.heap.size A p:=⟨h.rd.now hb,h.nm,h.len,h.ts⟩
/- Contracts of the library's searches in lists of strings. -/
/- Contract of syntax.Right. -/
end Go.Proofs.YthlpehhlhebhbaaGreatDoor
