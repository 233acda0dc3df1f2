/- Contracts and plain laws, joined: Box. -/
import Derived.Test.YtlnnjdibkbabiaaGreatDoorQag
import Derived.Deep.MidRow
/- Whole structs in boxes: storing,reading and returning them without opening them cell by cell,over any program. -/
set_option linter.unusedSimpArgs false
set_option linter.unusedVariables false
namespace Go.Proofs.YtlnnjdibkbabiaaGreatDoor
open Go.RowKit
theorem below_setCells {B b:Nat} (hb:B≤b):∀ (vs:List Value) (o:Nat) {a w:World},Below B a w→Below B a (w.setCells b o vs)
 | [],_,_,_,h=>h
 | v::r,o,_,_,h=>below_setCells hb r (o+1) (h.setCell (p:=⟨b,o,none⟩) hb v)
theorem heap_setCells_other {b k:Nat} (hk:k≠b):∀ (vs:List Value) (o:Nat) (w:World),(w.setCells b o vs).heap[k]?=w.heap[k]?
 | [],_,_=>rfl
 | v::r,o,w=>by rw [World.setCells,heap_setCells_other hk r];exact Below.heap_setCell _ _ _ _ (fun e=>hk e)
theorem grown_setCells (w:World) (b o:Nat) (vs:List Value):w.grownBy (w.setCells b o vs) (some b):=by
 have h:=below_setCells (Nat.zero_le b) vs o (Below.refl 0 w)
 exact ⟨h.os,h.tape,h.output,h.size,fun k _ hk=>heap_setCells_other (fun e=>hk (by rw [e])) vs o w⟩
theorem boxThere (w:World) (cs:Array Value) (t:TypeId) {w':World} (hb:Below (w.alloc (.cells cs t)).heap.size (w.alloc (.cells cs t)) w') (b:Nat) (he:b=w.heap.size) (n:Nat) (hn:n=cs.size):w'.there b 0 n:=by
 subst he hn
 intro j hj
 refine ⟨?_,?_⟩
 ·rw [hb.cell (p:=⟨w.heap.size,0+j,none⟩) (by simp)]
  unfold World.cell?
  rw [heap_alloc_new]
  simp [hj]
 ·rw [hb.frozen (p:=⟨w.heap.size,0+j,none⟩) (by simp)]
  simp
theorem there_below {B:Nat} {w w':World} {b n:Nat} (h:w.there b 0 n) (hb:Below B w w') (hlt:b<B):w'.there b 0 n:=fun j hj=>by
 rw [hb.cell (p:=⟨b,0+j,none⟩) hlt,hb.frozen (p:=⟨b,0+j,none⟩) hlt]
 exact h j hj
theorem range_below {B:Nat} {w w':World} {b:Nat} {cs:List Value} (h:w.rangeAt b 0 cs) (hb:Below B w w') (hlt:b<B):w'.rangeAt b 0 cs:=fun j v hj=>(hb.cell (p:=⟨b,0+j,none⟩) hlt).trans (h j v hj)
theorem range_cell {w:World} {b:Nat} {cs:List Value} (h:w.rangeAt b 0 cs) (j:Nat) (v:Value) (hj:cs[j]?=some v):w.cell? ⟨b,j,none⟩=some v:=by
 have:=h j v hj
 rwa [Nat.zero_add] at this
theorem range_set {w:World} {b:Nat} {cs:List Value} (h:w.rangeAt b 0 cs) (k:Nat) (v u:Value) (hk:cs[k]?=some u):(w.setCell ⟨b,k,none⟩ v).rangeAt b 0 (cs.set k v):=by
 intro j x hj
 rw [Nat.zero_add]
 rw [List.getElem?_set] at hj
 by_cases e:k=j
 ·subst e
  have hl:k<cs.length:=(List.getElem?_eq_some_iff.1 hk).1
  simp [hl] at hj
  subst hj
  have hc:w.cell? ⟨b,k,none⟩=some u:=range_cell h k u hk
  exact World.cell?_setCell_same _ _ _ hc
 ·simp only [e,if_false] at hj
  rw [World.cell?_setCell_other]
  ·exact range_cell h j x hj
  ·intro he
   injection he with _ h2
   exact e h2
theorem wpList_store_box {P:Program} {ops:Array Oper} {rest:List Oper} {op:Oper} {a:Act} {w:World} {Q:Exit→Act→World→Prop} (hgd:op.guard=none) (ty:TypeId) (x y:Operand) (ho:op.op=.store ty x y)
  (b:Nat) (cells:Array Value) (hx:a.eval x=.pointer (some ⟨b,0,none⟩)) (hy:a.eval y=.agg cells)
  (ht:w.there b 0 cells.size) (hi:(P.info? ty).map (·.size)=some cells.size) (h1:cells.all (·.oneCell')=true)
  (h:∀ w2,w2.rangeAt b 0 cells.toList→w2.there b 0 cells.size→w.grownBy w2 (some b)→wpList P ops Q rest (a.put op.dst undef) w2):wpList P ops Q (op::rest) a w:=by
 refine wpList_store_mid hgd ty x y ho b 0 cells hx hy ht hi h1 (h _ ?_ ?_ (grown_setCells _ _ _ _))
 ·exact World.rangeAt_setCells_same _ _ _ _ (by simpa using ht)
 ·exact World.there_setCells ht _ _ _
theorem ret_box {P:Program} {fn:Func} {R:Ending→World→Prop} {a:Act} {w:World} (s:Nat) (ty:TypeId) (hf:fn.results=#[.cell s ty]) (b:Nat) (cs:List Value) (d:TypeDesc)
  (hs:a.tmps.getD s undef=.pointer (some ⟨b,0,none⟩)) (hc:w.rangeAt b 0 cs) (hu:P.underlying ty=some d) (hd:d.isRow=true) (hi:(P.info? ty).map (·.size)=some cs.length)
  (hdf:a.defers=[]) (hR:R (.returned (.agg cs.toArray)) w):bodyPost P fn R .ret a w:=by
 refine bodyPost_ret (v:=.agg cs.toArray) ?_ hdf hR
 unfold results
 rw [hf]
 simp only [List.mapM_toArray,List.mapM_cons,List.mapM_nil,hs,asAddr,Sem.run_bind,Sem.run_pure,Result.andThen_ok,Sem.run_map,run_loadVar_mid w b 0 ty cs d hc hu hd hi]
 simp
end Go.Proofs.YtlnnjdibkbabiaaGreatDoor
