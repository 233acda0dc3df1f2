/- Contracts and plain laws, joined: Str. -/
import Derived.Test.YthlpehhlhebhbaaGreatDoorQac
import Derived.Lib.ItoaNum
import Derived.Lib.Bytealg
/- Strings as lists of bytes,over any program. -/
set_option linter.unusedSimpArgs false
set_option linter.unusedVariables false
namespace Go.Proofs.YthlpehhlhebhbaaGreatDoor
open Go.RowKit
def bs (l:List UInt8):ByteArray:=⟨l.toArray⟩
theorem bs_data (l:List UInt8):(bs l).data.toList=l:=rfl
theorem bs_size (l:List UInt8):(bs l).size=l.length:=rfl
theorem bs_inj {l m:List UInt8} (h:bs l=bs m):l=m:=by
 have:=congrArg (fun s:ByteArray=>s.data.toList) h
 exact this
theorem bs_app (l m:List UInt8):bs l++bs m=bs (l++m):=by
 apply ByteArray.ext
 simp [bs]
theorem ret_str {a b:List UInt8} (h:a=b):Ending.returned (.string (bs a))=.returned (.string (bs b)):=by rw [h]
theorem bs_extract (l:List UInt8) (a b:Nat):(bs l).extract a b=bs ((l.take b).drop a):=by
 apply ByteArray.ext
 simp [bs,List.extract_eq_take_drop,List.drop_take]
theorem bs_drop (l:List UInt8) (a:Nat):(bs l).extract a l.length=bs (l.drop a):=by rw [bs_extract,List.take_length]
theorem bs_take (l:List UInt8) (a:Nat):(bs l).extract 0 a=bs (l.take a):=by rw [bs_extract,List.drop_zero]
theorem bs_toList (l:List UInt8):(bs l).toList=l:=ByteArray.toList_mk l
theorem bs_beq (l m:List UInt8):((bs l).toList==(bs m).toList)=(l==m):=by rw [bs_toList,bs_toList]
theorem indexByte_lt (l:List UInt8) (c:UInt8):Lib.indexByte l c<l.length∨l=[]:=by
 induction l with
 | nil=>exact .inr rfl
 | cons b r ih =>
  left
  unfold Lib.indexByte
  split
  ·simp
  ·have h1:Lib.indexByte r c<r.length∨Lib.indexByte r c=-1:=by
    rcases ih with h | h
    ·exact .inl h
    ·subst h;exact .inr rfl
   split
   ·simp;omega
   ·simp only [List.length_cons]
    rcases h1 with h1 | h1
    ·omega
    ·simp_all
theorem indexByte_in (l:List UInt8) (c:UInt8) (h:0≤Lib.indexByte l c):Lib.indexByte l c<l.length:=by
 rcases indexByte_lt l c with h1 | h1
 ·exact h1
 ·subst h1;simp [Lib.indexByte] at h
theorem wp_cat {P:Program} {w:World} {ops:Array Oper} {rest:List Oper} {o:Oper} {a:Act} {Q:Exit→Act→World→Prop} {t t':TypeId} {x y:Operand} {l m:List UInt8} (hgd:o.guard=none)
  (ho:o.op=.binOp .add t x y t') (ht:P.underlying t=some .string) (hx:a.eval x=.string (bs l)) (hy:a.eval y=.string (bs m)) (hb:l.length+m.length≤9223372036854775807)
  (h:wpList P ops Q rest (a.put o.dst (.string (bs (l++m)))) w):wpList P ops Q (o::rest) a w:=by
 refine wpList_plain hgd fun K hK=>?_
 have hc:¬ 9223372036854775807<(bs l).size+(bs m).size:=by rw [bs_size,bs_size];omega
 have hrun:(binOp .add t (.string (bs l)) (.string (bs m))).run P w=.ok (.string (bs (l++m))) w:=by
  rw [← bs_app]
  have hc':(bs l).size+(bs m).size≤9223372036854775807:=by omega
  simp [binOp,Op.stringOp]
  omega
 unfold Oper.wp
 simp [execOp,ho,hx,hy,hrun,eqGuard,Result.andThen]
 exact hK _ _ h
end Go.Proofs.YthlpehhlhebhbaaGreatDoor
