/- Contracts and plain laws, joined: Mem, EvA, Turn, CvA, Own, Ob. -/
import Derived.Test.YtlnnjdibkbabiaaGreatDoorQab
import Derived.Maps.AppendAt
import Derived.Maps.OwnSet
import Derived.DeepKeys4
/- Small laws on memory that a call makes: typed slices that it owns,and maps,over any program. -/
set_option linter.unusedSimpArgs false
set_option linter.unusedVariables false
namespace Go.Proofs.YtlnnjdibkbabiaaGreatDoor
open Go.RowKit
structure SlTy (P:Program) (t e:TypeId) (sz by_:Nat):Prop where
 ht:P.underlying t=some (.slice e)
 hi:∃ i z,P.info? e=some i∧i.zero=some z∧i.size=sz∧i.bytes=by_∧z.cells.size=sz
 hsz:0<sz
 hby:0<by_
structure Lay {T:Type} (sz:Nat) (enc:T→List Value):Prop where
 len:∀ x,(enc x).length=sz
 one:∀ x,∀ u∈enc x,u.oneCell'=true
section
variable {T:Type} {sz:Nat} {enc:T→List Value}
theorem flat_len (L:Lay sz enc) (xs:List T):(xs.flatMap enc).length=xs.length * sz:=by
 induction xs with
 | nil=>simp
 | cons x r ih=>rw [List.flatMap_cons,List.length_append,ih,L.len,List.length_cons,Nat.add_mul];omega
theorem flat_get (L:Lay sz enc):∀ (xs:List T) (k j:Nat) (x:T) (v:Value),xs[k]?=some x→(enc x)[j]?=some v→(xs.flatMap enc)[k * sz+j]?=some v
 | [],k,j,x,v,h,_=>by simp at h
 | y::r,0,j,x,v,h,hv=>by
  simp only [List.getElem?_cons_zero,Option.some.injEq] at h
  subst h
  have hj:j<(enc y).length:=(List.getElem?_eq_some_iff.1 hv).1
  rw [List.flatMap_cons,List.getElem?_append_left (by omega)]
  simpa using hv
 | y::r,k+1,j,x,v,h,hv=>by
  rw [List.getElem?_cons_succ] at h
  have ih:=flat_get L r k j x v h hv
  rw [List.flatMap_cons,List.getElem?_append_right (by rw [L.len,Nat.add_mul];omega),L.len]
  rw [← ih]
  congr 1
  rw [Nat.add_mul]
  omega
theorem flat_at (L:Lay sz enc):∀ (xs:List T) (m:Nat) (u:Value),(xs.flatMap enc)[m]?=some u→∃ k j x,m=k * sz+j∧xs[k]?=some x∧(enc x)[j]?=some u
 | [],m,u,h=>by simp at h
 | y::r,m,u,h=>by
  rw [List.flatMap_cons] at h
  by_cases hm:m<sz
  ·rw [List.getElem?_append_left (by rw [L.len];exact hm)] at h
   exact ⟨0,m,y,by omega,rfl,h⟩
  ·rw [List.getElem?_append_right (by rw [L.len];omega),L.len] at h
   obtain ⟨k,j,x,e,hx,hj⟩:=flat_at L r _ u h
   exact ⟨k+1,j,x,by rw [Nat.add_mul];omega,by simpa using hx,hj⟩
def OwnL (w:World) (base:Nat) (e:TypeId) (sz:Nat) (enc:T→List Value) (A:Option Addr) (c:Nat) (xs:List T):Prop :=
 w.ownsRow base e sz (.slice A xs.length c) xs.length (xs.flatMap enc)
variable {w w':World} {base:Nat} {e:TypeId} {A:Option Addr} {c:Nat} {xs:List T}
theorem OwnL.nil_:OwnL w base e sz enc none 0 ([]:List T):=World.ownsRow_nil w base e sz
theorem OwnL.rd (h:OwnL w base e sz enc A c xs) (L:Lay sz enc):RdL sz enc w w.heap.size A xs:=by
 intro k x hx
 rcases h.2 with ⟨hv,hn⟩ | ⟨g,cap,cur,hv,hb,hg,_⟩
 ·have:xs=[]:=List.eq_nil_of_length_eq_zero hn
  subst this
  simp at hx
 ·injection hv with hA
  subst hA
  refine ⟨g,0,rfl,(Array.getElem?_eq_some_iff.1 hg).1,fun j v hj=>?_⟩
  have:=h.cells (g:=g) rfl (k * sz+j) v (flat_get L xs k j x v hx hj)
  rw [← this]
  congr 1
  unfold Addr.add
  split
  ·rename_i h0;rw [Nat.zero_add,h0]
  ·simp
theorem OwnL.blk (h:OwnL w base e sz enc A c xs):∀ k,(Value.slice A xs.length c).ownBlock=some k→base≤k∧k<w.heap.size:=h.lt
theorem OwnL.kept {row:Option Nat} (h:OwnL w base e sz enc A c xs) (hg:w.grownBy w' row) (hne:(Value.slice A xs.length c).ownBlock=none∨(Value.slice A xs.length c).ownBlock≠row):OwnL w' base e sz enc A c xs:=World.ownsRow.kept h hg hne
theorem grown_of_below (h:Below w.heap.size w w') (row:Option Nat):w.grownBy w' row:=⟨h.os,h.tape,h.output,h.size,fun i hi _=>h.block i hi⟩
theorem OwnL.below (h:OwnL w base e sz enc A c xs) (hb:Below w.heap.size w w'):OwnL w' base e sz enc A c xs:=h.kept (grown_of_below hb none) (by
 rcases ho:(Value.slice A xs.length c).ownBlock with _ | k
 ·exact .inl rfl
 ·exact .inr (by simp))
theorem OwnL.drew (h:OwnL w base e sz enc A c xs):OwnL w.drew base e sz enc A c xs:=h
theorem OwnL.alloc (h:OwnL w base e sz enc A c xs) (o:Obj):OwnL (w.alloc o) base e sz enc A c xs:=h.below ((Below.refl _ _).alloc (Nat.le_refl _) _)
theorem OwnL.mono {base':Nat} (h:OwnL w base e sz enc A c xs) (hb:base'≤base):OwnL w base' e sz enc A c xs:=by
 refine ⟨h.1,?_⟩
 rcases h.2 with h2 | ⟨g,cap,cur,hv,hg,r⟩
 ·exact .inl h2
 ·exact .inr ⟨g,cap,cur,hv,by omega,r⟩
end
section
variable {P:Program} {T:Type} {sz by_:Nat} {enc:T→List Value} {t e:TypeId}
theorem run_append_of_none {w:World} (S:SlTy P t e sz by_) (base:Nat) {A:Option Addr} {c:Nat} {xs:List T} (h:OwnL w base e sz enc A c xs) (ty:TypeId) (d:Nat) :
  (Builtin.append_ #[t,t] ty #[.slice A xs.length c,.slice none 0 d]).run P w=.ok (.slice A xs.length c) w:=by
 obtain ⟨i,z,hi,hz,hs,hb,hc⟩:=S.hi
 have ht:=S.ht
 rcases h.2 with ⟨hv,hn⟩ | ⟨g,cap,cur,hv,_,_,hnc,_⟩
 ·rw [hv]
  simp [Builtin.append_,run_underlying ht,sizeOf,typeInfo,hi,Builtin.lenOf,Builtin.firstCells]
 ·rw [hv]
  have hle:¬ cap<xs.length:=by omega
  simp [Builtin.append_,run_underlying ht,sizeOf,typeInfo,hi,Builtin.lenOf,Builtin.firstCells,hnc,storeCells]
theorem run_append_l {w:World} (S:SlTy P t e sz by_) (L:Lay sz enc) (base:Nat) {A:Option Addr} {c:Nat} {xs:List T} (h:OwnL w base e sz enc A c xs)
  {B:Nat} {A':Option Addr} (m d:Nat) {ys:List T} (hm:m=ys.length) (hr:RdL sz enc w B A' ys) (hbytes:(xs.length+ys.length) * by_≤140737488355328) (hbase:base≤w.heap.size) (ty:TypeId) :
  ∃ A2 c2 w2,(Builtin.append_ #[t,t] ty #[.slice A xs.length c,.slice A' m d]).run P w=.ok (.slice A2 (xs++ys).length c2) w2∧OwnL w2 base e sz enc A2 c2 (xs++ys) ∧
   w.grownBy w2 (Value.slice A xs.length c).ownBlock∧Below base w w2 ∧
   ((Value.slice A2 (xs++ys).length c2).ownBlock=(Value.slice A xs.length c).ownBlock∨(Value.slice A2 (xs++ys).length c2).ownBlock=some w.heap.size):=by
 subst hm
 obtain ⟨i,z,hi,hz,hs,hb,hc⟩:=S.hi
 have hby:=S.hby
 have hbl:∀ w2:World,w.grownBy w2 (Value.slice A xs.length c).ownBlock→Below base w w2:=fun w2 hg =>
  (Below.refl base w).grown hg hbase (fun k hk=>(h.lt k hk).1)
 rcases A' with _ | ad
 ·have hy:ys=[]:=by
   rcases ys with _ | ⟨y,r⟩
   ·rfl
   ·obtain ⟨b,off,h0,_⟩:=hr 0 y rfl
    cases h0
  subst hy
  have hrun:=run_append_of_none S base h ty d
  have hz:=World.grownBy.refl w (Value.slice A xs.length c).ownBlock
  exact ⟨A,c,w,by simpa using hrun,by simpa using h,hz,hbl _ hz,by simp⟩
 ·have hcells:∀ j u,(ys.flatMap enc)[j]?=some u→w.cell? (ad.add j)=some u:=by
   intro m u hu
   obtain ⟨k,j,x,rfl,hx,hj⟩:=flat_at L ys m u hu
   obtain ⟨b,off,h0,_,hcell⟩:=hr k x hx
   injection h0 with h0
   subst h0
   have hh:=hcell j u hj
   rw [← hh]
   congr 1
   unfold Addr.add
   split
   ·rename_i h1;rw [show off+k * sz+j=off by omega]
   ·simp [Nat.add_assoc]
  have h63:xs.length+ys.length≤maxLen:=by
   have:xs.length+ys.length≤(xs.length+ys.length) * by_:=Nat.le_mul_of_pos_right _ hby
   simp only [maxLen]
   omega
  obtain ⟨v',w2,hrun,hown,hg,_,hat⟩:=run_append_own_at (P:=P) w base t ty e i z sz by_ S.ht hi hz hs hb hc S.hsz _ _ _ h ad ys.length d (ys.flatMap enc) (flat_len L ys) hcells
   (fun u hu=>by obtain ⟨x,_,hx⟩:=List.mem_flatMap.1 hu;exact L.one x u hx) h63 hbytes hbase
  have hform:∃ A2 c2,v'=.slice A2 (xs++ys).length c2:=by
   rcases hown.2 with ⟨hv,hn⟩ | ⟨g,cap,cur,hv,_⟩
   ·exact ⟨none,0,by rw [hv,List.length_append,hn]⟩
   ·exact ⟨_,_,by rw [hv,List.length_append]⟩
  obtain ⟨A2,c2,rfl⟩:=hform
  refine ⟨A2,c2,w2,hrun,?_,hg,hbl _ hg,hat⟩
  unfold OwnL
  rw [List.flatMap_append,List.length_append]
  rw [List.length_append] at hown
  exact hown
theorem wp_append_l {w:World} {ops:Array Oper} {rest:List Oper} {o:Oper} {a:Act} {Q:Exit→Act→World→Prop} (hgd:o.guard=none) (s x:Operand)
  (ho:o.op=.call {callee:=.builtin .append,args:=#[s,x],argTypes:=#[t,t]}) (S:SlTy P t e sz by_) (L:Lay sz enc) (base:Nat) {A:Option Addr} {n c:Nat} {xs:List T}
  (hn:n=xs.length) (hs:a.eval s=.slice A n c) (h:OwnL w base e sz enc A c xs)
  {B:Nat} {A':Option Addr} {m d:Nat} {ys:List T} (hm:m=ys.length) (hx:a.eval x=.slice A' m d) (hr:RdL sz enc w B A' ys)
  (hbytes:(xs.length+ys.length) * by_≤140737488355328) (hbase:base≤w.heap.size)
  (hK:∀ A2 c2 w2,OwnL w2 base e sz enc A2 c2 (xs++ys)→w.grownBy w2 (Value.slice A n c).ownBlock→Below base w w2 →
   ((Value.slice A2 (xs++ys).length c2).ownBlock=(Value.slice A n c).ownBlock∨(Value.slice A2 (xs++ys).length c2).ownBlock=some w.heap.size) →
   wpList P ops Q rest (a.put o.dst (.slice A2 (xs++ys).length c2)) w2):wpList P ops Q (o::rest) a w:=by
 subst hn
 refine wpList_plain hgd fun K hK'=>?_
 obtain ⟨A2,c2,w2,hrun,h1,h2,h3,h4⟩:=run_append_l S L base h m d hm hr hbytes hbase o.type
 unfold Oper.wp execOp
 simp only [ho,resolve,invoke,builtin,Sem.run_bind,Sem.run_pure,Result.andThen_ok,List.map_toArray,List.map_cons,List.map_nil,hs,hx,hrun]
 exact hK' _ _ (hK A2 c2 w2 h1 h2 h3 h4)
end
theorem grown_cell {w w':World} {g b:Nat} (hg:w.grownBy w' (some g)) (h:b<w.heap.size) (hne:b≠g) (o:Nat):w'.cell? ⟨b,o,none⟩=w.cell? ⟨b,o,none⟩ :=
 World.cell?_of_block (hg.block b h (fun e=>hne (by injection e)))
theorem step_append_l {P:Program} {T:Type} {sz by_:Nat} {enc:T→List Value} {t e:TypeId} {w:World} {ops:Array Oper} {o:Oper} {a:Act} {K:Act→World→Prop} {Q:Exit→Act→World→Prop} {E:Prop} (hgd:o.guard=none) (s x:Operand)
  (ho:o.op=.call {callee:=.builtin .append,args:=#[s,x],argTypes:=#[t,t]}) (S:SlTy P t e sz by_) (L:Lay sz enc) (base:Nat) (xs ys:List T) {A:Option Addr} {n c:Nat}
  (hs:a.eval s=.slice A n c) (hn:n=xs.length) (h:OwnL w base e sz enc A c xs)
  {A':Option Addr} {m d:Nat} (hx:a.eval x=.slice A' m d) (hm:m=ys.length) (hr:∃ B,RdL sz enc w B A' ys)
  (hbytes:(xs.length+ys.length) * by_≤140737488355328) (hbase:base≤w.heap.size)
  (hK:∀ A2 c2 w2,OwnL w2 base e sz enc A2 c2 (xs++ys)→w.grownBy w2 (Value.slice A n c).ownBlock→Below base w w2 →
   ((Value.slice A2 (xs++ys).length c2).ownBlock=(Value.slice A n c).ownBlock∨(Value.slice A2 (xs++ys).length c2).ownBlock=some w.heap.size) →
   K (a.put o.dst (.slice A2 (xs++ys).length c2)) w2) :
  if Region.wanted o (yielded ops a.tmps)=true then Oper.wp P o a w K Q else E:=by
 have hw:Region.wanted o (yielded ops a.tmps)=true:=by simp [Region.wanted,hgd]
 rw [if_pos hw]
 subst hn
 obtain ⟨B,hr⟩:=hr
 obtain ⟨A2,c2,w2,hrun,h1,h2,h3,h4⟩:=run_append_l S L base h m d hm hr hbytes hbase o.type
 unfold Oper.wp execOp
 simp only [ho,resolve,invoke,builtin,Sem.run_bind,Sem.run_pure,Result.andThen_ok,List.map_toArray,List.map_cons,List.map_nil,hs,hx,hrun]
 exact hK A2 c2 w2 h1 h2 h3 h4
theorem RdL.drew {T:Type} {sz:Nat} {enc:T→List Value} {w:World} {B:Nat} {A:Option Addr} {xs:List T} (h:RdL sz enc w B A xs):RdL sz enc w.drew B A xs:=h
theorem RdL.one {T:Type} {sz:Nat} {enc:T→List Value} (w:World) (x:T) (cs:Array Value) (t:TypeId) (h:cs.toList=enc x) (b:Nat) (hb:b=w.heap.size) :
  RdL sz enc (w.alloc (.cells cs t)) (w.heap.size+1) (some ⟨b,0,none⟩) [x]:=by
 subst hb
 intro k y hy
 have hk:k=0:=by have:=(List.getElem?_eq_some_iff.1 hy).1;simp at this;omega
 subst hk
 obtain rfl:x=y:=by simpa using hy
 refine ⟨_,_,rfl,by omega,fun j v hj=>?_⟩
 rw [← h] at hj
 have:(w.alloc (.cells cs t)).cell? ⟨w.heap.size,j,none⟩=some v:=by
  unfold World.cell?
  simp only [heap_alloc_new]
  simpa using hj
 simpa using this
theorem OwnL.empty {T:Type} {sz:Nat} {enc:T→List Value} (w:World) (e:TypeId) (base:Nat) (hb:base≤w.heap.size) (g:Nat) (hg:g=w.heap.size) :
  OwnL (w.alloc (.cells #[] e)) base e sz enc (some ⟨g,0,none⟩) 0 ([]:List T):=by
 subst hg
 exact World.ownsRow_lit w #[] 0 hb (by simp [maxLen]) (by simp)
/-! Writing into a slice that the call owns. -/
section
variable {P:Program} {T:Type} {sz by_:Nat} {enc:T→List Value} {t e:TypeId} {w:World} {base g c:Nat} {xs:List T}
theorem flat_set (L:Lay sz enc):∀ (xs:List T) (i:Nat) (x:T),i<xs.length→(xs.set i x).flatMap enc=(xs.flatMap enc).take (i * sz)++enc x++(xs.flatMap enc).drop (i * sz+sz)
 | [],i,x,h=>by simp at h
 | y::r,0,x,_=>by
  have hl:=L.len y
  simp [hl]
 | y::r,i+1,x,h=>by
  have ih:=flat_set L r i x (by simpa using h)
  have hl:=L.len y
  rw [List.set_cons_succ,List.flatMap_cons,List.flatMap_cons,ih,Nat.add_mul,Nat.one_mul]
  rw [List.take_append,List.drop_append,hl,List.take_of_length_le (l:=enc y) (by omega),List.drop_of_length_le (l:=enc y) (by omega),show i * sz+sz - sz=i * sz by omega,show i * sz+sz+sz - sz=i * sz+sz by omega]
  simp
theorem flat_take (L:Lay sz enc):∀ (xs:List T) (i:Nat),(xs.take i).flatMap enc=(xs.flatMap enc).take (i * sz)
 | [],i=>by simp
 | y::r,0=>by simp
 | y::r,i+1=>by
  rw [List.take_succ_cons,List.flatMap_cons,List.flatMap_cons,flat_take L r i,Nat.add_mul,Nat.one_mul,List.take_append,L.len,List.take_of_length_le (l:=enc y) (by rw [L.len];omega),show i * sz+sz - sz=i * sz by omega]
theorem run_storeAt_l (S:SlTy P t e sz by_) (L:Lay sz enc) (h:OwnL w base e sz enc (some ⟨g,0,none⟩) c xs) (i:Nat) (hi:i<xs.length) (o:Nat) (ho:o=i * sz) (x:T) (v:Value) (hv:v.cells.toList=enc x) :
  ∃ w2,(Instr.storeAt e (.pointer (some ⟨g,o,none⟩)) v).run P w=.ok () w2∧OwnL w2 base e sz enc (some ⟨g,0,none⟩) c (xs.set i x)∧w.grownBy w2 (some g):=by
 subst ho
 obtain ⟨inf,z,hinf,hz,hs,hb,hc⟩:=S.hi
 rcases h.2 with ⟨hv',_⟩ | ⟨g',cap,cur,hv',hb',hg,hn,hcm,hcs,htake⟩
 ·cases hv'
 ·injection hv' with e1 e2 e3
  injection e1 with e1
  injection e1 with e1
  subst e1 e3
  have hsz:v.cells.size=sz:=by rw [← Array.length_toList,hv,L.len]
  have hlen:(v.cells.toList).length=sz:=by rw [Array.length_toList,hsz]
  have hle:i * sz+sz≤xs.length * sz:=by rw [← Nat.succ_mul];exact Nat.mul_le_mul_right _ hi
  have hle2:xs.length * sz≤c * sz:=Nat.mul_le_mul_right _ hn
  have hst:=run_storeCells_at P g (i * sz) e v.cells.toList 0 cur w hg (by rw [hlen];omega) (fun u hu=>L.one x u (by rw [← hv];exact hu))
  simp only [Nat.add_zero,hlen] at hst
  refine ⟨w.setRow g (cur.toList.take (i * sz)++v.cells.toList++cur.toList.drop (i * sz+sz)).toArray,?_,⟨by rw [flat_len L,List.length_set],.inr ⟨g,c,_,by rw [List.length_set],hb',setRow_heap w g cur _ e _ hg,by rw [List.length_set];exact hn,hcm,?_,?_⟩⟩,⟨rfl,rfl,rfl,by simp,fun k _ hk=>setRow_other w g k _ (fun e=>hk (by rw [e]))⟩⟩
  ·simp [Instr.storeAt,Instr.sureAddr,storeVar,sizeOf,typeInfo,hinf,hs,hsz,hst]
  ·simp only [List.size_toArray,List.length_append,List.length_take,List.length_drop,Array.length_toList,hsz]
   omega
  ·rw [List.length_set,flat_set L xs i x hi,← htake,hv,List.take_append,List.take_append,List.take_of_length_le (l:=cur.toList.take (i * sz)) (by simp;omega),List.take_of_length_le (l:=enc x) (by rw [L.len];simp;omega)]
   have hlt:(cur.toList.take (i * sz)).length=i * sz:=by simp;omega
   rw [List.take_take,Nat.min_eq_left (by omega),List.drop_take,List.length_append,hlt,L.len]
theorem wp_store_l {ops:Array Oper} {rest:List Oper} {op:Oper} {a:Act} {Q:Exit→Act→World→Prop} (hgd:op.guard=none) (x y:Operand) (ho:op.op=.store e x y)
  (S:SlTy P t e sz by_) (L:Lay sz enc) (h:OwnL w base e sz enc (some ⟨g,0,none⟩) c xs) (i:Nat) (hi:i<xs.length) (o:Nat) (hx:a.eval x=.pointer (some ⟨g,o,none⟩)) (hio:o=i * sz) (p:T) (v:Value) (hy:a.eval y=v) (hv:v.cells.toList=enc p)
  (hK:∀ w2,OwnL w2 base e sz enc (some ⟨g,0,none⟩) c (xs.set i p)→w.grownBy w2 (some g)→wpList P ops Q rest (a.put op.dst undef) w2):wpList P ops Q (op::rest) a w:=by
 refine wpList_plain hgd fun K hK'=>?_
 obtain ⟨w2,hrun,h1,h2⟩:=run_storeAt_l S L h i hi o hio p v hv
 unfold Oper.wp execOp
 simp only [ho,hx,hy,Sem.run_bind,Sem.run_pure,Result.andThen_ok,hrun]
 exact hK' _ _ (hK w2 h1 h2)
theorem OwnL.take (L:Lay sz enc) (h:OwnL w base e sz enc (some ⟨g,0,none⟩) c xs) (i:Nat):OwnL w base e sz enc (some ⟨g,0,none⟩) c (xs.take i):=by
 rcases h.2 with ⟨hv',_⟩ | ⟨g',cap,cur,hv',hb',hg,hn,hcm,hcs,htake⟩
 ·cases hv'
 ·injection hv' with e1 e2 e3
  injection e1 with e1
  injection e1 with e1
  subst e1 e3
  refine ⟨flat_len L _,.inr ⟨g,c,cur,rfl,hb',hg,by simp;omega,hcm,hcs,?_⟩⟩
  rw [flat_take L,← htake,List.take_take,List.length_take]
  congr 1
  by_cases hi:i≤xs.length
  ·rw [Nat.min_eq_left hi,Nat.min_eq_left (Nat.mul_le_mul_right _ hi)]
  ·rw [Nat.min_eq_right (by omega),Nat.min_eq_right (Nat.mul_le_mul_right _ (by omega))]
end
/-! Maps -/
structure KeyTy {α:Type} (P:Program) (k:TypeId) (ok:α→Prop) (kv:α→Value):Prop where
 K:Maps.Keyed P k
 lit:∀ a,ok a→∃ l,keyOf P k (kv a)=some l
 inj:∀ a b,kv a=kv b→a=b
def MapAt {α β:Type} (w:World) (b:Nat) (ok:α→Prop) (kv:α→Value) (vv:β→Value) (m:List (α × β)):Prop :=
 ∃ es clock,w.heap[b]?=some (.map es clock)∧es.toList.map (fun e=>(e.key,e.val))=m.map (fun p=>(kv p.1,vv p.2))∧(∀ p∈m,ok p.1)∧(m.map (·.1)).Nodup
theorem nodup_inj {α:Type} {l:List α} (h:l.Nodup) {i j:Nat} (hi:i<l.length) (hj:j<l.length) (e:l[i]=l[j]):i=j:=by
 rcases Nat.lt_trichotomy i j with hl | hl | hl
 ·exact absurd e (List.pairwise_iff_getElem.1 h i j hi hj hl)
 ·exact hl
 ·exact absurd e.symm (List.pairwise_iff_getElem.1 h j i hj hi hl)
def mget {α β:Type} [DecidableEq α] (m:List (α × β)) (a:α):Option β:=(m.find? (fun p=>p.1==a)).map (·.2)
def mput {α β:Type} [DecidableEq α] (m:List (α × β)) (a:α) (v:β):List (α × β) :=
 if m.any (fun p=>p.1==a) then m.map (fun p=>if p.1==a then (a,v) else p) else m++[(a,v)]
section
variable {α β:Type} {P:Program} {w w':World} {b:Nat} {ok:α→Prop} {kv:α→Value} {vv:β→Value} {m:List (α × β)} {t k e:TypeId}
theorem MapAt.new (w:World):MapAt (w.alloc (.map #[] 0)) w.heap.size ok kv vv ([]:List (α × β)):=⟨#[],0,(MapKept.heap_alloc w _).1,rfl,by simp,by simp⟩
theorem MapAt.lt (h:MapAt w b ok kv vv m):b<w.heap.size:=by
 obtain ⟨es,clock,hb,_⟩:=h
 exact (Array.getElem?_eq_some_iff.1 hb).1
theorem MapAt.of_block (h:MapAt w b ok kv vv m) (hb:w'.heap[b]?=w.heap[b]?):MapAt w' b ok kv vv m:=by
 obtain ⟨es,clock,h1,h2⟩:=h
 exact ⟨es,clock,hb.trans h1,h2⟩
theorem MapAt.below {B:Nat} (h:MapAt w b ok kv vv m) (hb:Below B w w') (hB:b<B):MapAt w' b ok kv vv m:=h.of_block (hb.block b hB)
theorem MapAt.now (h:MapAt w b ok kv vv m) (hb:Below w.heap.size w w'):MapAt w' b ok kv vv m:=h.below hb h.lt
theorem MapAt.alloc (h:MapAt w b ok kv vv m) (o:Obj):MapAt (w.alloc o) b ok kv vv m:=h.of_block (Below.heap_alloc w o b h.lt)
theorem entries_get {es:Array MapEntry} (he:es.toList.map (fun e=>(e.key,e.val))=m.map (fun p=>(kv p.1,vv p.2))) {j:Nat} {x:MapEntry} (hx:es.toList[j]?=some x) :
  ∃ p,m[j]?=some p∧x.key=kv p.1∧x.val=vv p.2:=by
 have h1:(es.toList.map (fun e=>(e.key,e.val)))[j]?=some (x.key,x.val):=by rw [List.getElem?_map,hx];rfl
 rw [he,List.getElem?_map] at h1
 obtain ⟨p,hp,hq⟩:=Option.map_eq_some_iff.1 h1
 simp only [Prod.mk.injEq] at hq
 exact ⟨p,hp,hq.1.symm,hq.2.symm⟩
theorem keys_ok {es:Array MapEntry} (KT:KeyTy P k ok kv) (he:es.toList.map (fun e=>(e.key,e.val))=m.map (fun p=>(kv p.1,vv p.2))) (hok:∀ p∈m,ok p.1):∀ x∈es.toList,∃ l,keyOf P k x.key=some l:=by
 intro x hx
 obtain ⟨j,hj⟩:=List.getElem?_of_mem hx
 obtain ⟨p,hp,hk,_⟩:=entries_get he hj
 rw [hk]
 exact KT.lit _ (hok p (List.mem_of_getElem? hp))
theorem find_map_key [DecidableEq α] (a b:α) (v:β):∀ m:List (α × β),m.any (fun p=>p.1==a)=true→((m.map (fun p=>if p.1==a then (a,v) else p)).find? (fun p=>p.1==b)).map (·.2)=if b=a then some v else (m.find? (fun p=>p.1==b)).map (·.2)
 | [],h=>by simp at h
 | q::r,h=>by
  by_cases hq:q.1=a
  ·by_cases hb:b=a
   ·subst hb
    simp [hq]
   ·have hne:¬ a=b:=fun e=>hb e.symm
    have hqb:¬ q.1=b:=fun e=>hb (by rw [← e,hq])
    rw [List.map_cons,if_pos (by simp [hq]),List.find?_cons_of_neg (by simp [hne]),List.find?_cons_of_neg (by simp [hqb])]
    by_cases hr:r.any (fun p=>p.1==a)=true
    ·exact find_map_key a b v r hr
    ·have hr':∀ x∈r,¬ x.1=a:=by
      intro x hx e
      exact hr (List.any_eq_true.2 ⟨x,hx,by simp [e]⟩)
     rw [if_neg hb]
     congr 2
     have:r.map (fun p=>if p.1==a then (a,v) else p)=r.map id:=List.map_congr_left (fun x hx=>by simp [hr' x hx])
     rw [this,List.map_id]
  ·have hr:r.any (fun p=>p.1==a)=true:=by simpa [hq] using h
   have ih:=find_map_key a b v r hr
   by_cases hqb:q.1=b
   ·have hb:¬ b=a:=fun e=>hq (by rw [hqb,e])
    rw [if_neg hb,List.map_cons,if_neg (by simp [hq]),List.find?_cons_of_pos (by simp [hqb]),List.find?_cons_of_pos (by simp [hqb])]
   ·rw [List.map_cons,if_neg (by simp [hq]),List.find?_cons_of_neg (by simp [hqb]),List.find?_cons_of_neg (by simp [hqb])]
    exact ih
theorem mget_mput [DecidableEq α] (a b:α) (v:β) (m:List (α × β)):mget (mput m a v) b=if b=a then some v else mget m b:=by
 unfold mget mput
 by_cases h:m.any (fun p=>p.1==a)=true
 ·rw [if_pos h]
  exact find_map_key a b v m h
 ·rw [if_neg h]
  have hno:∀ x∈m,¬ x.1=a:=fun x hx e=>h (List.any_eq_true.2 ⟨x,hx,by simp [e]⟩)
  rw [List.find?_append]
  by_cases hb:b=a
  ·subst hb
   rw [List.find?_eq_none.2 (fun x hx=>by simpa using hno x hx)]
   simp
  ·have hne:¬ a=b:=fun e=>hb e.symm
   simp [hb,hne]
theorem find_of_at [DecidableEq α] {a:α} (hnd:(m.map (·.1)).Nodup) {j:Nat} {p:α × β} (hp:m[j]?=some p) (ha:p.1=a):mget m a=some p.2:=by
 unfold mget
 have hmem:=List.mem_of_getElem? hp
 rcases hf:m.find? (fun p=>p.1==a) with _ | q
 ·have:=List.find?_eq_none.1 hf p hmem
  simp [ha] at this
 ·have hq:=List.find?_some hf
  have hqm:=List.mem_of_find?_eq_some hf
  rw [hf,Option.map_some]
  have:q=p:=by
   have hq':q.1=a:=by simpa using hq
   obtain ⟨i,hi⟩:=List.getElem?_of_mem hqm
   have h1:(m.map (·.1))[i]?=some a:=by rw [List.getElem?_map,hi];simp [hq']
   have h2:(m.map (·.1))[j]?=some a:=by rw [List.getElem?_map,hp];simp [ha]
   obtain ⟨hi',e1⟩:=List.getElem?_eq_some_iff.1 h1
   obtain ⟨hj',e2⟩:=List.getElem?_eq_some_iff.1 h2
   have:i=j:=nodup_inj hnd hi' hj' (e1.trans e2.symm)
   subst this
   rw [hi] at hp
   injection hp
  rw [this]
theorem find_of_none [DecidableEq α] {a:α} (h:∀ p∈m,p.1≠a):mget m a=none:=by
 unfold mget
 rw [List.find?_eq_none.2 (fun p hp=>by simpa using h p hp)]
 rfl
theorem MapAt.look [DecidableEq α] (h:MapAt w b ok kv vv m) (KT:KeyTy P k ok kv) (ht:P.underlying t=some (.map k e)) {z:Value} (hz:(zeroValue e).run P w=.ok z w) (a:α) (ha:ok a) (c:Bool) :
  (Instr.lookup t (.map (some b)) (kv a) c).run P w =
   .ok (match mget m a with
    | some v=>if c then .tuple #[vv v,.bool true] else vv v
    | none=>if c then .tuple #[z,.bool false] else z) w:=by
 obtain ⟨es,clock,hb,he,hok,hnd⟩:=h
 obtain ⟨l,hl⟩:=KT.lit a ha
 rcases KT.K.find w hl es.toList (keys_ok KT he hok) with ⟨h1,h2⟩ | ⟨j,e0,h1,h2,h3⟩
 ·have hn:mget m a=none:=find_of_none (fun p hp hpa=>by
   obtain ⟨i,hi⟩:=List.getElem?_of_mem hp
   have hlen:(es.toList.map (fun e=>(e.key,e.val))).length=(m.map (fun p=>(kv p.1,vv p.2))).length:=by rw [he]
   have hi':i<es.toList.length:=by
    have:=(List.getElem?_eq_some_iff.1 hi).1
    simp only [List.length_map] at hlen
    omega
   obtain ⟨q,hq,hk,_⟩:=entries_get he (List.getElem?_eq_getElem hi')
   rw [hi] at hq
   injection hq with hq
   subst hq
   exact h2 _ (List.getElem_mem hi') (by rw [hk,hpa]))
  rw [hn]
  simp [Instr.lookup,run_underlying ht,MapKept.run_getObj_map hb,KT.K.check w _ hl,h1,hz,Result.andThen]
 ·obtain ⟨p,hp,hk,hv⟩:=entries_get he h2
  have hs:mget m a=some p.2:=find_of_at hnd hp (KT.inj _ _ (by rw [← hk,h3]))
  rw [hs]
  simp [Instr.lookup,run_underlying ht,MapKept.run_getObj_map hb,KT.K.check w _ hl,h1,hv,Result.andThen]
theorem MapAt.store [DecidableEq α] (h:MapAt w b ok kv vv m) (KT:KeyTy P k ok kv) (ht:P.underlying t=some (.map k e)) (a:α) (ha:ok a) (v:β) :
  ∃ w',(Instr.mapUpdate t (.map (some b)) (kv a) (vv v)).run P w=.ok () w'∧MapAt w' b ok kv vv (mput m a v)∧w.grownBy w' (some b):=by
 obtain ⟨es,clock,hb,he,hok,hnd⟩:=h
 obtain ⟨l,hl⟩:=KT.lit a ha
 have hlen:es.toList.length=m.length:=by
  have:(es.toList.map (fun e=>(e.key,e.val))).length=(m.map (fun p=>(kv p.1,vv p.2))).length:=by rw [he]
  simpa using this
 rcases KT.K.find w hl es.toList (keys_ok KT he hok) with ⟨h1,h2⟩ | ⟨j,e0,h1,h2,h3⟩
 ·have hno:∀ p∈m,p.1≠a:=fun p hp hpa=>by
   obtain ⟨i,hi⟩:=List.getElem?_of_mem hp
   have hi':i<es.toList.length:=by have:=(List.getElem?_eq_some_iff.1 hi).1;omega
   obtain ⟨q,hq,hk,_⟩:=entries_get he (List.getElem?_eq_getElem hi')
   rw [hi] at hq
   injection hq with hq
   subst hq
   exact h2 _ (List.getElem_mem hi') (by rw [hk,hpa])
  have hany:m.any (fun p=>p.1==a)=false:=by
   rw [List.any_eq_false]
   intro p hp
   simpa using hno p hp
  refine ⟨ChangeMaps.setBlock w b (.map (es.push ⟨kv a,vv v,clock⟩) (clock+1)),?_,?_,?_⟩
  ·simp [Instr.mapUpdate,run_underlying ht,MapKept.run_getObj_map hb,KT.K.check w false hl,h1,MapKept.run_setObj_map _ hb,Result.andThen,ChangeMaps.setBlock]
  ·refine ⟨_,_,ChangeMaps.heap_setBlock_same hb _,?_,?_,?_⟩
   ·simp [mput,hany,he]
   ·intro p hp
    simp only [mput,hany,Bool.false_eq_true,if_false,List.mem_append,List.mem_singleton] at hp
    rcases hp with hp | rfl
    ·exact hok p hp
    ·exact ha
   ·simp only [mput,hany,Bool.false_eq_true,if_false,List.map_append,List.map_cons,List.map_nil]
    rw [List.nodup_append]
    refine ⟨hnd,by simp,fun x hx y hy=>?_⟩
    obtain ⟨p,hp,rfl⟩:=List.mem_map.1 hx
    simp only [List.mem_singleton] at hy
    subst hy
    exact hno p hp
  ·exact ⟨rfl,rfl,rfl,by simp [ChangeMaps.setBlock],fun i _ hi=>ChangeMaps.heap_setBlock_other hb _ (fun e=>hi (by rw [e]))⟩
 ·obtain ⟨p,hp,hk,hv⟩:=entries_get he h2
  have hpa:p.1=a:=KT.inj _ _ (by rw [← hk,h3])
  have hany:m.any (fun p=>p.1==a)=true:=by
   rw [List.any_eq_true]
   exact ⟨p,List.mem_of_getElem? hp,by simp [hpa]⟩
  have hst:=KT.K.stays w hl
  have he0:es[j]?=some e0:=by simpa using h2
  refine ⟨ChangeMaps.setBlock w b (.map (es.modify j fun x=>{x with key:=kv a,val:=vv v}) clock),?_,?_,?_⟩
  ·simp [Instr.mapUpdate,run_underlying ht,MapKept.run_getObj_map hb,KT.K.check w false hl,h1,he0,h3,hst,MapKept.run_setObj_map _ hb,Result.andThen,ChangeMaps.setBlock]
  ·have hkeys:(mput m a v).map (·.1)=m.map (·.1):=by
    simp only [mput,hany,if_true,List.map_map]
    refine List.map_congr_left (fun q _=>?_)
    simp only [Function.comp]
    by_cases hq:q.1=a <;> simp [hq]
   refine ⟨_,_,ChangeMaps.heap_setBlock_same hb _,?_,?_,by rw [hkeys];exact hnd⟩
   ·apply List.ext_getElem?
    intro i
    have hi0:(es.toList.map (fun e=>(e.key,e.val)))[i]?=(m.map (fun p=>(kv p.1,vv p.2)))[i]?:=by rw [he]
    simp only [List.getElem?_map,mput,hany,if_true,Array.toList_modify,List.getElem?_modify] at hi0 ⊢
    by_cases hij:j=i
    ·subst hij
     rw [hp]
     rw [h2]
     simp [hpa]
    ·rw [Option.map_map]
     simp only [hij,if_false]
     rcases hq:m[i]? with _ | q
     ·rw [hq] at hi0
      simpa using hi0
     ·have hne:q.1≠a:=fun hqa=>hij (by
       have h1:(m.map (·.1))[i]?=some a:=by rw [List.getElem?_map,hq];simp [hqa]
       have h2:(m.map (·.1))[j]?=some a:=by rw [List.getElem?_map,hp];simp [hpa]
       obtain ⟨hi',e1⟩:=List.getElem?_eq_some_iff.1 h1
       obtain ⟨hj',e2⟩:=List.getElem?_eq_some_iff.1 h2
       exact (nodup_inj hnd hi' hj' (e1.trans e2.symm)).symm)
      rw [hq] at hi0
      simp [hne] at hi0 ⊢
      exact hi0
   ·intro q hq
    have:q.1∈(mput m a v).map (·.1):=List.mem_map_of_mem hq
    rw [hkeys] at this
    obtain ⟨q',hq',e⟩:=List.mem_map.1 this
    rw [← e]
    exact hok q' hq'
  ·exact ⟨rfl,rfl,rfl,by simp [ChangeMaps.setBlock],fun i _ hi=>ChangeMaps.heap_setBlock_other hb _ (fun e=>hi (by rw [e]))⟩
end
/- Events of a conversation (layer 14) in plain Lean. -/
structure EvM where
 author:Int
 seq:Int
 causes:List Int
 kind:Int
 group:Int
 target:Int
 quote:Int
 who:Int
 n:Int
 text:ByteArray
 files:List Int
 step:Int
def belowB (n e:Int):Bool:=decide (0≤n) && decide (n<e)
def maybeB (n e:Int):Bool:=(n==-1) || belowB n e
def netI (a:Int):Int:=if belowB a 2000=true then a % 12 else -1
def hasT (k:Int):Bool:=decide (0≤k) && decide (k≤4)
def hasQ (k:Int):Bool:=k==0
def hasW (k:Int):Bool:=(k==0) || ((k==5) || ((k==7) || (k==9)))
def hasN (k:Int):Bool:=(k==3) || ((k==4) || (k==9))
def hasX (k:Int):Bool:=(k==0) || (k==1)
def sTarget:ByteArray:=⟨#[84,97,114,103,101,116]⟩
def sQuote:ByteArray:=⟨#[81,117,111,116,101]⟩
def sWho:ByteArray:=⟨#[87,104,111]⟩
def sN:ByteArray:=⟨#[78]⟩
def sText:ByteArray:=⟨#[84,101,120,116]⟩
def sFiles:ByteArray:=⟨#[70,105,108,101,115]⟩
def usesL (k:Int):List ByteArray :=
 if k=0 then [sTarget,sQuote,sWho,sText,sFiles] else if k=1 then [sTarget,sText,sFiles] else if k=2 then [sTarget] else if k=3 then [sTarget,sN] else if k=4 then [sTarget,sN]
 else if k=5 then [sWho] else if k=7 then [sWho] else if k=9 then [sWho,sN] else []
def spareE (e:EvM):EvM :=
 {e with target:=if hasT e.kind=true then e.target else -1,quote:=if hasQ e.kind=true then e.quote else -1,who:=if hasW e.kind=true then e.who else -1,n:=if hasN e.kind=true then e.n else 0,text:=if hasX e.kind=true then e.text else ByteArray.empty,files:=if hasX e.kind=true then e.files else []}
def fieldsB (e:EvM):Bool :=
 if e.kind=0 then maybeB e.target 100000 && (maybeB e.quote 100000 && maybeB e.who 2000)
 else if e.kind=1∨e.kind=2 then belowB e.target 100000
 else if e.kind=3∨e.kind=4 then belowB e.target 100000 && (decide (1≤e.n) && decide (e.n≤100))
 else if e.kind=5∨e.kind=7 then belowB e.who 2000
 else if e.kind=9 then belowB e.who 2000 && belowB e.n 16
 else (e.kind==6) || (e.kind==8)
def filesGo (pre:List Int):List Int→Bool
 | []=>true
 | n::r=>belowB n 1073741825 && (!decide (n∈pre) && filesGo (pre++[n]) r)
def filesB (l:List Int):Bool:=filesGo [] l && decide (l.length≤4)
def causesGo:Option Int→List Int→Bool
 | _,[]=>true
 | none,c::r=>belowB c 100000 && causesGo (some c) r
 | some p,c::r=>belowB c 100000 && (decide (p<c) && causesGo (some c) r)
def causesB (l:List Int):Bool:=causesGo none l
def sameE (a b:EvM):Bool :=
 (a.author==b.author) && ((a.seq==b.seq) && ((a.kind==b.kind) && ((a.group==b.group) && ((a.target==b.target) && ((a.quote==b.quote) && ((a.who==b.who) && ((a.n==b.n) && ((a.step==b.step) && (decide (a.text=b.text) && (decide (a.causes=b.causes) && decide (a.files=b.files)))))))))))
theorem sameE_iff (a b:EvM):sameE a b=true ↔ a=b:=by
 constructor
 ·intro h
  simp only [sameE,Bool.and_eq_true,beq_iff_eq,decide_eq_true_eq] at h
  obtain ⟨h1,h2,h3,h4,h5,h6,h7,h8,h9,h10,h11,h12⟩:=h
  cases a
  cases b
  simp only at h1 h2 h3 h4 h5 h6 h7 h8 h9 h10 h11 h12
  subst h1 h2 h3 h4 h5 h6 h7 h8 h9 h10 h11 h12
  rfl
 ·rintro rfl
  simp [sameE]
def headE (e:EvM):Bool:=belowB e.author 2000 && (belowB e.seq 100000 && (belowB e.group 500 && belowB e.step 1073741825))
def rightE (e:EvM):Bool:=causesB e.causes && (headE e && (decide (e.causes.length≤8) && (fieldsB e && (decide (e.text.size≤4000) && (filesB e.files && sameE e (spareE e))))))
/- What a call that changes memory leaves as it was,and single blocks of cells,over any program. -/
structure Turn (F:Nat→Prop) (w w':World):Prop where
 os:w'.os=w.os
 tape:w'.tape=w.tape
 output:w'.output=w.output
 size:w.heap.size≤w'.heap.size
 block:∀ k,k<w.heap.size→¬ F k→w'.heap[k]?=w.heap[k]?
section
variable {F G:Nat→Prop} {a b c w w':World}
theorem Turn.refl (F:Nat→Prop) (w:World):Turn F w w:=⟨rfl,rfl,rfl,Nat.le_refl _,fun _ _ _=>rfl⟩
theorem Turn.trans (h:Turn F a b) (k:Turn G b c) (hG:∀ i,G i→F i∨a.heap.size≤i):Turn F a c :=
 ⟨k.os.trans h.os,k.tape.trans h.tape,k.output.trans h.output,Nat.le_trans h.size k.size,fun i hi hn=>(k.block i (Nat.lt_of_lt_of_le hi h.size) (fun hg=>by
  rcases hG i hg with h1 | h1
  ·exact hn h1
  ·omega)).trans (h.block i hi hn)⟩
theorem Turn.grown {row:Option Nat} (h:w.grownBy w' row) (hr:∀ k,row=some k→F k):Turn F w w' :=
 ⟨h.os,h.tape,h.output,h.size,fun k hk hn=>h.block k hk (fun e=>hn (hr k e.symm))⟩
theorem Turn.below (h:Below w.heap.size w w'):Turn F w w':=⟨h.os,h.tape,h.output,h.size,fun k hk _=>h.block k hk⟩
theorem Turn.to_below {B:Nat} (h:Turn F w w') (hB:B≤w.heap.size) (hF:∀ i,F i→B≤i):Below B w w' :=
 ⟨h.os,h.tape,h.output,h.size,fun k hk=>h.block k (by omega) (fun hf=>by have:=hF k hf;omega)⟩
theorem Turn.mono (h:Turn F w w') (hF:∀ i,F i→G i∨w.heap.size≤i):Turn G w w' :=
 ⟨h.os,h.tape,h.output,h.size,fun k hk hn=>h.block k hk (fun hf=>by
  rcases hF k hf with h1 | h1
  ·exact hn h1
  ·omega)⟩
theorem Turn.drew (h:Turn F w w'):Turn F w w'.drew:=⟨h.os,h.tape,h.output,h.size,h.block⟩
theorem Turn.drewN (h:Turn F w w') (n:Nat):Turn F w (w'.drewN n):=⟨h.os,h.tape,h.output,h.size,h.block⟩
theorem Turn.alloc (h:Turn F w w') (o:Obj):Turn F w (w'.alloc o) :=
 h.trans (Turn.below (F:=fun _=>False) ((Below.refl _ _).alloc (Nat.le_refl _) _)) (fun _ hf=>hf.elim)
theorem Turn.set (h:Turn F w w') (p j:Nat) (v:Value) (hp:F p∨w.heap.size≤p):Turn F w (w'.setCell ⟨p,j,none⟩ v) :=
 h.trans (G:=fun i=>i=p) ⟨rfl,rfl,rfl,by simp [World.setCell],fun k _ hk=>heap_setCell_other w' ⟨p,j,none⟩ k v hk⟩ (fun i hi=>by subst hi;exact hp)
theorem grown_set (w:World) (p j:Nat) (v:Value):w.grownBy (w.setCell ⟨p,j,none⟩ v) (some p) :=
 ⟨rfl,rfl,rfl,by simp [World.setCell],fun k _ hk=>heap_setCell_other w ⟨p,j,none⟩ k v (fun e=>hk (by rw [e]))⟩
theorem box_cell {b:Nat} {cs:Array Value} {t:TypeId} (h:w.heap[b]?=some (.cells cs t (0,0))) (j:Nat) (v:Value) (hj:cs[j]?=some v):w.cell? ⟨b,j,none⟩=some v:=by
 unfold World.cell?
 simp [h,hj]
theorem box_free {b:Nat} {cs:Array Value} {t:TypeId} (h:w.heap[b]?=some (.cells cs t (0,0))) (j:Nat):w.frozen? ⟨b,j,none⟩=false:=by
 unfold World.frozen?
 simp [h]
theorem box_lt {b:Nat} {o:Obj} (h:w.heap[b]?=some o):b<w.heap.size:=(Array.getElem?_eq_some_iff.1 h).1
def slBlk (A:Option Addr):Option Nat:=A.map (·.block)
theorem own_blk (A:Option Addr) (n c:Nat):(Value.slice A n c).ownBlock=slBlk A:=by
 rcases A with _ | a <;> rfl
theorem RdL.turn {T:Type} {sz:Nat} {enc:T→List Value} {A:Option Addr} {xs:List T} (h:RdL sz enc w w.heap.size A xs) (hb:∀ i,slBlk A=some i→i<w.heap.size→w'.heap[i]?=w.heap[i]?) (hs:w.heap.size≤w'.heap.size):RdL sz enc w' w'.heap.size A xs:=by
 intro k x hx
 obtain ⟨b,off,e,hlt,hc⟩:=h k x hx
 refine ⟨b,off,e,by omega,fun j v hj=>?_⟩
 rw [← hc j v hj]
 exact World.cell?_of_block (hb b (by rw [e];rfl) hlt)
theorem OwnL.turn {T:Type} {sz:Nat} {enc:T→List Value} {base:Nat} {e:TypeId} {A:Option Addr} {c:Nat} {xs:List T} (h:OwnL w base e sz enc A c xs) (hb:∀ i,slBlk A=some i→i<w.heap.size→w'.heap[i]?=w.heap[i]?):OwnL w' base e sz enc A c xs:=by
 refine ⟨h.1,?_⟩
 rcases h.2 with h1 | ⟨g,cap,cur,hv,hg,hh,rest⟩
 ·exact .inl h1
 ·refine .inr ⟨g,cap,cur,hv,hg,?_,rest⟩
  have hA:A=some ⟨g,0,none⟩:=by injection hv
  rw [hb g (by rw [hA];rfl) (box_lt hh),hh]
theorem OwnL.blk_lt {T:Type} {sz:Nat} {enc:T→List Value} {base:Nat} {e:TypeId} {A:Option Addr} {c:Nat} {xs:List T} (h:OwnL w base e sz enc A c xs) {i:Nat} (hi:slBlk A=some i):base≤i∧i<w.heap.size :=
 h.blk i (by rw [own_blk];exact hi)
end
/- The one conversation (layer 15) in plain Lean. -/
def bareE (e:EvM):EvM:=if e.kind=0∨e.kind=1 then {e with text:=ByteArray.empty,files:=[]} else e
def alikeE (a b:EvM):Bool:=sameE (bareE a) (bareE b)
def ofGo (a:Int):Nat→List EvM→List Int
 | _,[]=>[]
 | i,e::r=>if e.author=a then (i:Int)::ofGo a (i+1) r else ofGo a (i+1) r
def ofL (L:List EvM) (a:Int):List Int:=ofGo a 0 L
theorem ofGo_snoc (a:Int) (e:EvM):∀ (L:List EvM) (i:Nat),ofGo a i (L++[e])=ofGo a i L++(if e.author=a then [((i+L.length:Nat):Int)] else [])
 | [],i=>by simp [ofGo]
 | x::r,i=>by
  simp only [List.cons_append,ofGo]
  rw [ofGo_snoc a e r (i+1)]
  have h:i+1+r.length=i+(x::r).length:=by simp;omega
  rw [h]
  split <;> simp
theorem ofL_snoc (a:Int) (e:EvM) (L:List EvM):ofL (L++[e]) a=ofL L a++(if e.author=a then [(L.length:Int)] else []):=by
 unfold ofL
 rw [ofGo_snoc,Nat.zero_add]
theorem ofGo_mem (a x:Int):∀ (L:List EvM) (i:Nat),x∈ofGo a i L→(i:Int)≤x∧x<((i+L.length:Nat):Int)
 | [],_,h=>by simp [ofGo] at h
 | e::r,i,h=>by
  simp only [ofGo] at h
  split at h
  ·rcases List.mem_cons.1 h with rfl | h
   ·simp
    omega
   ·have:=ofGo_mem a x r (i+1) h
    simp at this ⊢
    omega
  ·have:=ofGo_mem a x r (i+1) h
   simp at this ⊢
   omega
theorem ofL_mem {a x:Int} {L:List EvM} (h:x∈ofL L a):0≤x∧x<L.length:=by
 have:=ofGo_mem a x L 0 h
 simp at this
 omega
theorem ofGo_len (a:Int):∀ (L:List EvM) (i:Nat),(ofGo a i L).length≤L.length
 | [],_=>by simp [ofGo]
 | e::r,i=>by
  have:=ofGo_len a r (i+1)
  simp only [ofGo]
  split <;> simp <;> omega
theorem ofL_len (a:Int) (L:List EvM):(ofL L a).length≤L.length:=ofGo_len a L 0
def delB (L:List EvM) (id:Int):Bool:=L.any (fun e=>e.kind==2 && e.target==id)
theorem delB_snoc (L:List EvM) (e:EvM) (id:Int):delB (L++[e]) id=(delB L id || (e.kind==2 && e.target==id)):=by
 unfold delB
 simp [List.any_append]
def missB (n:Nat) (e:EvM):Bool:=decide ((n:Int)≤e.target) || (decide ((n:Int)≤e.quote) || e.causes.any (fun c=>decide ((n:Int)≤c)))
def refOk (L:List EvM) (g id:Int):Bool:=(id==-1) || (match L[id.toNat]? with
 | some m=>m.kind==0 && m.group==g
 | none=>false)
def stepC (L:List EvM) (e:EvM):Int :=
 if rightE e=false then 2 else if e.seq<(ofL L e.author).length then 5 else if ((ofL L e.author).length:Int)<e.seq∨missB L.length e=true then 14
 else if refOk L e.group e.target=false∨refOk L e.group e.quote=false then 4 else if delB L e.target=true∨delB L e.quote=true then 7 else if 100000≤L.length then 6 else 0
def openGo:List EvM→List EvM→Int
 | _,[]=>0
 | L,e::r=>if stepC L e≠0 then stepC L e else openGo (L++[e]) r
def openC (l:List EvM):Int:=openGo [] l
/- Cells of a list that a call owns. -/
section
variable {T:Type} {sz:Nat} {enc:T→List Value} {w:World} {base:Nat} {e:TypeId} {g c:Nat} {xs:List T}
theorem flat_set1 (L:Lay sz enc) (xs:List T) (i j:Nat) (hi:i<xs.length) (hj:j<sz) (v:Value) (x:T) (hx:enc x=(enc xs[i]).set j v):(xs.set i x).flatMap enc=(xs.flatMap enc).set (i * sz+j) v:=by
 have h1:=flat_set L xs i x hi
 have h2:=flat_set L xs i xs[i] hi
 rw [List.set_getElem_self] at h2
 have hle:(i+1) * sz≤xs.length * sz:=Nat.mul_le_mul_right _ hi
 have hlen:((xs.flatMap enc).take (i * sz)).length=i * sz:=by
  rw [List.length_take,flat_len L]
  rw [Nat.add_mul] at hle
  omega
 rw [h1]
 conv=>rhs;rw [h2]
 rw [List.append_assoc,List.append_assoc,List.set_append_right _ _ (by rw [hlen];omega),hlen,Nat.add_sub_cancel_left,List.set_append_left _ _ (by rw [L.len];exact hj),hx]
theorem OwnL.cellc (L:Lay sz enc) (h:OwnL w base e sz enc (some ⟨g,0,none⟩) c xs) (i j:Nat) (hi:i<xs.length) (v:Value) (hv:(enc xs[i])[j]?=some v):w.cell? ⟨g,i * sz+j,none⟩=some v:=by
 obtain ⟨b,off,he,_,hc⟩:=(h.rd L).at_ hi
 injection he with he
 injection he with h1 h2
 subst h1 h2
 simpa using hc j v hv
theorem OwnL.freec (h:OwnL w base e sz enc (some ⟨g,0,none⟩) c xs) (o:Nat):w.frozen? ⟨g,o,none⟩=false:=by
 rcases h.2 with ⟨hv,_⟩ | ⟨g',cap,cur,hv,hb,hg,_⟩
 ·cases hv
 ·injection hv with e1
  injection e1 with e1
  injection e1 with e1
  subst e1
  exact box_free hg o
theorem OwnL.setc (L:Lay sz enc) (h:OwnL w base e sz enc (some ⟨g,0,none⟩) c xs) (i j:Nat) (hi:i<xs.length) (hj:j<sz) (v:Value) (x:T) (hx:enc x=(enc xs[i]).set j v):OwnL (w.setCell ⟨g,i * sz+j,none⟩ v) base e sz enc (some ⟨g,0,none⟩) c (xs.set i x):=by
 rcases h.2 with ⟨hv,_⟩ | ⟨g',cap,cur,hv,hb,hg,hn,hcm,hcs,htake⟩
 ·cases hv
 ·injection hv with e1 e2 e3
  injection e1 with e1
  injection e1 with e1
  subst e1 e3
  refine ⟨by rw [flat_len L,List.length_set],.inr ⟨g,c,_,by rw [List.length_set],hb,heap_setCell_same w g (i * sz+j) _ _ v hg,by rw [List.length_set];exact hn,hcm,by simpa using hcs,?_⟩⟩
  rw [flat_set1 L xs i j hi hj v x hx,List.length_set,← htake]
  simp [List.take_set]
theorem OwnL.some_ {A0:Option Addr} (h:OwnL w base e sz enc A0 c xs) (hx:xs≠[]):∃ g,A0=some ⟨g,0,none⟩∧base≤g∧g<w.heap.size:=by
 rcases h.2 with ⟨hv,hn⟩ | ⟨g,cap,cur,hv,hb,hg,_⟩
 ·exact absurd (List.eq_nil_of_length_eq_zero hn) hx
 ·injection hv with e1
  exact ⟨g,e1,hb,box_lt hg⟩
end
/- Objects in memory that a call may change,side by side: what an object owns,what it reads,how it is kept when others turn;over any program. -/
structure Ob where
 own:Nat→Prop
 see:Nat→Prop
 ok:World→Prop
 lt:∀ w,ok w→∀ i,own i∨see i→i<w.heap.size
 frame:∀ w w',ok w→(∀ i,own i∨see i→w'.heap[i]?=w.heap[i]?)→w.heap.size≤w'.heap.size→ok w'
def Ob.nil:Ob:=⟨fun _=>False,fun _=>False,fun _=>True,fun _ _ i hi=>by rcases hi with h | h <;> exact h.elim,fun _ _ _ _ _=>trivial⟩
def Ob.sep (a b:Ob):Ob where
 own i:=a.own i∨b.own i
 see i:=a.see i∨b.see i
 ok w:=(a.ok w∧b.ok w)∧(∀ i,a.own i→¬ b.own i)∧(∀ i,a.see i→¬ b.own i)∧∀ i,b.see i→¬ a.own i
 lt w h i hi:=by
  rcases hi with (hi | hi) | (hi | hi)
  ·exact a.lt w h.1.1 i (.inl hi)
  ·exact b.lt w h.1.2 i (.inl hi)
  ·exact a.lt w h.1.1 i (.inr hi)
  ·exact b.lt w h.1.2 i (.inr hi)
 frame w w' h hb hs:=⟨⟨a.frame w w' h.1.1 (fun i hi=>hb i (hi.elim (fun h=>.inl (.inl h)) (fun h=>.inr (.inl h)))) hs,
  b.frame w w' h.1.2 (fun i hi=>hb i (hi.elim (fun h=>.inl (.inr h)) (fun h=>.inr (.inr h)))) hs⟩,h.2⟩
structure OUpd (a a2:Ob) (w w':World):Prop where
 ok:a2.ok w'
 turn:Turn a.own w w'
 own:∀ i,a2.own i→a.own i∨w.heap.size≤i
 see:∀ i,a2.see i→a.see i∨w.heap.size≤i
section
variable {a a2 a3 b b2 c:Ob} {w w1 w2 w':World} {B:Nat}
theorem Ob.turn (h:a.ok w) (t:Turn b.own w w') (h1:∀ i,a.own i→¬ b.own i) (h2:∀ i,a.see i→¬ b.own i):a.ok w' :=
 a.frame w w' h (fun i hi=>t.block i (a.lt w h i hi) (hi.elim (h1 i) (h2 i))) t.size
theorem Ob.below (h:a.ok w) (hb:Below w.heap.size w w'):a.ok w':=a.frame w w' h (fun i hi=>hb.block i (a.lt w h i hi)) hb.size
theorem OUpd.refl (h:a.ok w):OUpd a a w w:=⟨h,Turn.refl _ _,fun _ h=>.inl h,fun _ h=>.inl h⟩
theorem OUpd.of_below (h:a.ok w) (hb:Below w.heap.size w w'):OUpd a a w w':=⟨Ob.below h hb,Turn.below hb,fun _ h=>.inl h,fun _ h=>.inl h⟩
theorem OUpd.trans (h:OUpd a a2 w w1) (k:OUpd a2 a3 w1 w2):OUpd a a3 w w2 :=
 ⟨k.ok,h.turn.trans k.turn h.own,fun i hi=>(k.own i hi).elim (fun h1=>h.own i h1) (fun h1=>.inr (Nat.le_trans h.turn.size h1)),
  fun i hi=>(k.see i hi).elim (fun h1=>h.see i h1) (fun h1=>.inr (Nat.le_trans h.turn.size h1))⟩
theorem OUpd.below (h:OUpd a a2 w w1) (hb:Below w1.heap.size w1 w2):OUpd a a2 w w2:=h.trans (OUpd.of_below h.ok hb)
theorem OUpd.to_below (h:OUpd a a2 w w') (hB:B≤w.heap.size) (ho:∀ i,a.own i→B≤i):Below B w w':=h.turn.to_below hB ho
theorem OUpd.base (h:OUpd a a2 w w') (hB:B≤w.heap.size) (ho:∀ i,a.own i→B≤i):∀ i,a2.own i→B≤i :=
 fun i hi=>(h.own i hi).elim (ho i) (Nat.le_trans hB)
theorem OUpd.left (h:(a.sep b).ok w) (u:OUpd a a2 w w'):OUpd (a.sep b) (a2.sep b) w w':=by
 obtain ⟨⟨ha,hb⟩,h1,h2,h3⟩:=h
 refine ⟨⟨⟨u.ok,Ob.turn hb u.turn (fun i hi ho=>h1 i ho hi) (fun i hi ho=>h3 i hi ho)⟩,fun i hi ho=>?_,fun i hi ho=>?_,fun i hi ho=>?_⟩,u.turn.mono (fun i hi=>.inl (.inl hi)),fun i hi=>?_,fun i hi=>?_⟩
 ·rcases u.own i hi with h | h
  ·exact h1 i h ho
  ·have:=b.lt w hb i (.inl ho);omega
 ·rcases u.see i hi with h | h
  ·exact h2 i h ho
  ·have:=b.lt w hb i (.inl ho);omega
 ·rcases u.own i ho with h | h
  ·exact h3 i hi h
  ·have:=b.lt w hb i (.inr hi);omega
 ·rcases hi with hi | hi
  ·exact (u.own i hi).imp .inl id
  ·exact .inl (.inr hi)
 ·rcases hi with hi | hi
  ·exact (u.see i hi).imp .inl id
  ·exact .inl (.inr hi)
theorem Ob.swap (h:(a.sep b).ok w):(b.sep a).ok w:=⟨⟨h.1.2,h.1.1⟩,fun i h1 h2=>h.2.1 i h2 h1,h.2.2.2,h.2.2.1⟩
theorem OUpd.swap (u:OUpd (a.sep b) (a2.sep b2) w w'):OUpd (b.sep a) (b2.sep a2) w w' :=
 ⟨Ob.swap u.ok,u.turn.mono (fun i hi=>.inl hi.symm),fun i hi=>(u.own i hi.symm).imp Or.symm id,fun i hi=>(u.see i hi.symm).imp Or.symm id⟩
theorem OUpd.right (h:(a.sep b).ok w) (u:OUpd b b2 w w'):OUpd (a.sep b) (a.sep b2) w w':=(OUpd.left (Ob.swap h) u).swap
theorem OUpd.more (h:a.ok w) (hb:Below w.heap.size w w') (hc:c.ok w') (ho:∀ i,c.own i→w.heap.size≤i) (hs:∀ i,c.see i→w.heap.size≤i):OUpd a (a.sep c) w w':=by
 refine ⟨⟨⟨Ob.below h hb,hc⟩,fun i h1 h2=>?_,fun i h1 h2=>?_,fun i h1 h2=>?_⟩,Turn.below hb,fun i hi=>hi.imp id (ho i),fun i hi=>hi.imp id (hs i)⟩
 ·have:=a.lt w h i (.inl h1);have:=ho i h2;omega
 ·have:=a.lt w h i (.inr h1);have:=ho i h2;omega
 ·have:=a.lt w h i (.inl h2);have:=hs i h1;omega
end
end Go.Proofs.YtlnnjdibkbabiaaGreatDoor
