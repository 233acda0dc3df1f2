/- Contracts and plain laws, joined: Str. -/
import Derived.Test.YtlnnjdibkbabiaaGreatDoorQab
import Derived.Lib.ItoaNum
import Derived.Lib.Bytealg
/- Strings as lists of bytes,over any program. -/
set_option linter.unusedSimpArgs false
set_option linter.unusedVariables false
namespace Go.Proofs.YtlnnjdibkbabiaaGreatDoor
open Go.RowKit
def bs (l:List UInt8):ByteArray:=⟨l.toArray⟩
theorem bs_data (l:List UInt8):(bs l).data.toList=l:=rfl
theorem bs_size (l:List UInt8):(bs l).size=l.length:=rfl
theorem bs_app (l m:List UInt8):bs l++bs m=bs (l++m):=by
 apply ByteArray.ext
 simp [bs]
theorem bs_extract (l:List UInt8) (a b:Nat):(bs l).extract a b=bs ((l.take b).drop a):=by
 apply ByteArray.ext
 simp [bs,List.extract_eq_take_drop,List.drop_take]
theorem bs_drop (l:List UInt8) (a:Nat):(bs l).extract a l.length=bs (l.drop a):=by rw [bs_extract,List.take_length]
theorem bs_take (l:List UInt8) (a:Nat):(bs l).extract 0 a=bs (l.take a):=by rw [bs_extract,List.drop_zero]
theorem wp_cat {P:Program} {w:World} {ops:Array Oper} {rest:List Oper} {o:Oper} {a:Act} {Q:Exit→Act→World→Prop} {t t':TypeId} {x y:Operand} {l m:List UInt8} (hgd:o.guard=none)
  (ho:o.op=.binOp .add t x y t') (ht:P.underlying t=some .string) (hx:a.eval x=.string (bs l)) (hy:a.eval y=.string (bs m)) (hb:l.length+m.length≤9223372036854775807)
  (h:wpList P ops Q rest (a.put o.dst (.string (bs (l++m)))) w):wpList P ops Q (o::rest) a w:=by
 refine wpList_plain hgd fun K hK=>?_
 have hc:¬ 9223372036854775807<(bs l).size+(bs m).size:=by rw [bs_size,bs_size];omega
 have hrun:(binOp .add t (.string (bs l)) (.string (bs m))).run P w=.ok (.string (bs (l++m))) w:=by
  rw [← bs_app]
  have hc':(bs l).size+(bs m).size≤9223372036854775807:=by omega
  simp [binOp,Op.stringOp]
  omega
 unfold Oper.wp
 simp [execOp,ho,hx,hy,hrun,eqGuard,Result.andThen]
 exact hK _ _ h
end Go.Proofs.YtlnnjdibkbabiaaGreatDoor
