/- Contracts and plain laws, joined: Cpy. -/
import Derived.Test.YtlnnjdibkbabiaaGreatDoorQag
import Derived.Test.YtlnnjdibkbabiaaGreatDoorQad
import Derived.Laws.MakeOwn
import Derived.Laws.CopyOwn
/- make([]string,n) and a copy of a whole slice into a row of the call's own;over any program. -/
set_option linter.unusedSimpArgs false
set_option linter.unusedVariables false
namespace Go.Proofs.YtlnnjdibkbabiaaGreatDoor
open Go.RowKit
section
variable {P:Program} {w:World} {T:Type} {sz:Nat} {enc:T→List Value} {e t:TypeId}
theorem OwnL.of_block {base g:Nat} {xs:List T} (L:Lay sz enc) (hg:w.heap[g]?=some (.cells (xs.flatMap enc).toArray e (0,0))) (hb:base≤g) (hm:xs.length≤maxLen):OwnL w base e sz enc (some ⟨g,0,none⟩) xs.length xs :=
 ⟨flat_len L xs,.inr ⟨g,xs.length,_,rfl,hb,hg,Nat.le_refl _,hm,by simp [flat_len L],List.take_of_length_le (by simp [flat_len L])⟩⟩
theorem wp_make_1 {ops:Array Oper} {rest:List Oper} {o:Oper} {a:Act} {Q:Exit→Act→World→Prop} (hgd:o.guard=none) (x y:Operand)
  (ho:o.op=.makeSlice t x y) {inf:TypeInfo} {z:Value} (ht:P.underlying t=some (.slice e)) (hi:P.info? e=some inf) (hz:inf.zero=some z) (hsz:inf.size=1) (hby:inf.bytes≤16) (hc:z.cells=#[z])
  {n:Nat} (hx:a.eval x=.int .i64 n) (hy:a.eval y=.int .i64 n) (hn:n≤1000000000000)
  (hK:wpList P ops Q rest (a.put o.dst (.slice (some ⟨w.heap.size,0,none⟩) n n)) (w.alloc (.cells (Array.replicate n z) e))):wpList P ops Q (o::rest) a w:=by
 refine wpList_plain hgd fun K hK'=>?_
 have hb:(inf.bytes:Int) * n≤16 * 1000000000000:=Int.mul_le_mul (by omega) (by omega) (by omega) (by omega)
 have hrun:=run_make (P:=P) w t e inf z ht hi hz .i64 .i64 n n (by omega) (Int.le_refl _) (by omega) (by omega)
 have hm:madeCells z.cells (n * 1)=Array.replicate n z:=by
  unfold madeCells
  apply Array.ext
  ·simp
  ·intro i h1 h2
   simp [hc,Nat.mod_one]
 rw [hsz,Int.toNat_natCast,hm] at hrun
 unfold Oper.wp
 simp [execOp,ho,hx,hy,hrun,Result.andThen]
 try simp at hK
 exact hK' _ _ hK
end
end Go.Proofs.YtlnnjdibkbabiaaGreatDoor
