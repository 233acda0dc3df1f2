/- Contracts and plain laws, joined: Map. -/
import Derived.Test.YtlnnjdibkbabiaaGreatDoorQag
import Derived.Maps.RangeWalk
/- A map as a function of its keys,over any program: making,looking up,storing,striking,copying,and walking through it while entries are replaced or struck. -/
set_option linter.unusedSimpArgs false
set_option linter.unusedVariables false
namespace Go.Proofs.YtlnnjdibkbabiaaGreatDoor
open Go.RowKit
open Go.ChangeMaps (setBlock)
structure EntF {α β:Type} (ok:α→Prop) (kv:α→Value) (vv:β→Value) (f:α→Option β) (es:List MapEntry) (clock:Nat):Prop where
 all:∀ e∈es,∃ a v,ok a∧e.key=kv a∧e.val=vv v∧f a=some v
 has:∀ a v,f a=some v→∃ e∈es,e.key=kv a
 one:∀ (i j:Nat) (e e':MapEntry),es[i]?=some e→es[j]?=some e'→e.key=e'.key→i=j
 old:∀ e∈es,e.born<clock
 bor:(es.map (·.born)).Nodup
def MapF {α β:Type} (w:World) (b:Nat) (ok:α→Prop) (kv:α→Value) (vv:β→Value) (f:α→Option β):Prop :=
 ∃ es clock,w.heap[b]?=some (.map es clock)∧EntF ok kv vv f es.toList clock
def MapR {α β:Type} (w:World) (b r:Nat) (ok:α→Prop) (kv:α→Value) (vv:β→Value) (f:α→Option β) (left:α→Bool):Prop :=
 ∃ es clock since seen c0,w.heap[b]?=some (.map es clock)∧EntF ok kv vv f es.toList clock∧w.heap[r]?=some (.mapIter (some b) since seen c0)∧(∀ x∈es.toList,x.born<since)∧since≤c0∧since≤clock ∧
  ∀ a,left a=true ↔ ∃ x∈es.toList,x.key=kv a∧seen.contains x.born=false
section
variable {α β:Type} {P:Program} {w w':World} {b r:Nat} {ok:α→Prop} {kv:α→Value} {vv:β→Value} {f:α→Option β} {t k e:TypeId} {es:List MapEntry} {clock:Nat} {left:α→Bool}
theorem EntF.keys (h:EntF ok kv vv f es clock) (KT:KeyTy P k ok kv):∀ x∈es,∃ l,keyOf P k x.key=some l:=by
 intro x hx
 obtain ⟨a,v,hok,hk,_⟩:=h.all x hx
 rw [hk]
 exact KT.lit a hok
theorem EntF.find (h:EntF ok kv vv f es clock) (KT:KeyTy P k ok kv) (w:World) (a:α) (ha:ok a) :
  ((Instr.findKey k (kv a) es).run P w=.ok none w∧f a=none∧∀ x∈es,x.key≠kv a) ∨
  ∃ j x v,(Instr.findKey k (kv a) es).run P w=.ok (some (j,x.val)) w∧es[j]?=some x∧x.key=kv a∧x.val=vv v∧f a=some v:=by
 obtain ⟨l,hl⟩:=KT.lit a ha
 rcases KT.K.find w hl es (h.keys KT) with ⟨h1,h2⟩ | ⟨j,x,h1,h2,h3⟩
 ·refine .inl ⟨h1,?_,h2⟩
  rcases hf:f a with _ | v
  ·rfl
  ·obtain ⟨x,hx,hk⟩:=h.has a v hf
   exact absurd hk (h2 x hx)
 ·obtain ⟨a',v,_,hk,hv,hf⟩:=h.all x (List.mem_of_getElem? h2)
  have:a'=a:=KT.inj _ _ (by rw [← hk,h3])
  subst this
  exact .inr ⟨j,x,v,h1,h2,h3,hv,hf⟩
theorem MapF.new (w:World):MapF (w.alloc (.map #[] 0)) w.heap.size ok kv vv (fun _=>none):=by
 refine ⟨#[],0,(MapKept.heap_alloc w _).1,?_⟩
 constructor
 ·intro x hx
  simp at hx
 ·intro a v h
  cases h
 ·intro i j e e' h
  simp at h
 ·intro x hx
  simp at hx
 ·simp
theorem MapF.lt (h:MapF w b ok kv vv f):b<w.heap.size:=by
 obtain ⟨es,clock,hb,_⟩:=h
 exact (Array.getElem?_eq_some_iff.1 hb).1
theorem MapF.of_block (h:MapF w b ok kv vv f) (hb:w'.heap[b]?=w.heap[b]?):MapF w' b ok kv vv f:=by
 obtain ⟨es,clock,h1,h2⟩:=h
 exact ⟨es,clock,hb.trans h1,h2⟩
theorem MapF.look (h:MapF w b ok kv vv f) (KT:KeyTy P k ok kv) (ht:P.underlying t=some (.map k e)) {z:Value} (hz:(zeroValue e).run P w=.ok z w) (a:α) (ha:ok a) (c:Bool) :
  (Instr.lookup t (.map (some b)) (kv a) c).run P w =
   .ok (match f a with
    | some v=>if c then .tuple #[vv v,.bool true] else vv v
    | none=>if c then .tuple #[z,.bool false] else z) w:=by
 obtain ⟨es,clock,hb,E⟩:=h
 obtain ⟨l,hl⟩:=KT.lit a ha
 rcases E.find KT w a ha with ⟨h1,h2,_⟩ | ⟨j,x,v,h1,h2,h3,h4,h5⟩
 ·rw [h2]
  simp [Instr.lookup,run_underlying ht,MapKept.run_getObj_map hb,KT.K.check w _ hl,h1,hz,Result.andThen]
 ·rw [h5]
  simp [Instr.lookup,run_underlying ht,MapKept.run_getObj_map hb,KT.K.check w _ hl,h1,h4,Result.andThen]
theorem EntF.push [DecidableEq α] (h:EntF ok kv vv f es clock) (a:α) (ha:ok a) (v:β) (hno:∀ x∈es,x.key≠kv a) :
  EntF ok kv vv (fun x=>if x=a then some v else f x) (es++[⟨kv a,vv v,clock⟩]) (clock+1) where
 all:=fun x hx=>by
  rw [List.mem_append,List.mem_singleton] at hx
  rcases hx with hx | rfl
  ·obtain ⟨a',v',h1,h2,h3,h4⟩:=h.all x hx
   refine ⟨a',v',h1,h2,h3,?_⟩
   rw [if_neg (fun e=>hno x hx (by rw [h2,e]))]
   exact h4
  ·exact ⟨a,v,ha,rfl,rfl,by simp⟩
 has:=fun a' v' h'=>by
  by_cases hx:a'=a
  ·subst hx
   exact ⟨_,List.mem_append_right _ (List.mem_singleton.2 rfl),rfl⟩
  ·rw [if_neg hx] at h'
   obtain ⟨x,hx,hk⟩:=h.has a' v' h'
   exact ⟨x,List.mem_append_left _ hx,hk⟩
 one:=fun i j x y hi hj hk=>by
  rw [List.getElem?_append] at hi hj
  split at hi <;> split at hj
  ·exact h.one i j x y hi hj hk
  ·have hy:=List.mem_of_getElem? hj
   rw [List.mem_singleton] at hy
   subst hy
   exact absurd hk (hno x (List.mem_of_getElem? hi))
  ·have hy:=List.mem_of_getElem? hi
   rw [List.mem_singleton] at hy
   subst hy
   exact absurd hk.symm (hno y (List.mem_of_getElem? hj))
  ·have:=(List.getElem?_eq_some_iff.1 hi).1
   have:=(List.getElem?_eq_some_iff.1 hj).1
   simp only [List.length_singleton] at *
   omega
 old:=fun x hx=>by
  rw [List.mem_append,List.mem_singleton] at hx
  rcases hx with hx | rfl
  ·have:=h.old x hx
   omega
  ·simp
 bor:=by
  rw [List.map_append,List.nodup_append]
  refine ⟨h.bor,by simp,fun x hx y hy=>?_⟩
  obtain ⟨z,hz,rfl⟩:=List.mem_map.1 hx
  have:=h.old z hz
  simp at hy
  omega
theorem map_modify_born (es:List MapEntry) (j:Nat) (kx vx:Value):(es.modify j fun x=>{x with key:=kx,val:=vx}).map (·.born)=es.map (·.born):=by
 apply List.ext_getElem?
 intro i
 rw [List.getElem?_map,List.getElem?_map,List.getElem?_modify]
 by_cases h:j=i
 ·simp [h,Option.map_map,Function.comp_def]
 ·simp [h]
theorem EntF.modify [DecidableEq α] (h:EntF ok kv vv f es clock) (KT:KeyTy P k ok kv) (a:α) (ha:ok a) (v:β) (j:Nat) (x0:MapEntry) (hj:es[j]?=some x0) (hk0:x0.key=kv a) :
  EntF ok kv vv (fun x=>if x=a then some v else f x) (es.modify j fun x=>{x with key:=kv a,val:=vv v}) clock:=by
 have at_:∀ i y,(es.modify j fun x=>{x with key:=kv a,val:=vv v})[i]?=some y→(i=j∧y={x0 with key:=kv a,val:=vv v})∨(i≠j∧es[i]?=some y∧y.key≠kv a):=by
  intro i y hy
  rw [List.getElem?_modify] at hy
  by_cases hij:j=i
  ·subst hij
   rw [hj] at hy
   simp at hy
   exact .inl ⟨rfl,hy.symm⟩
  ·simp only [hij,if_false,Option.map_eq_map,Option.map_id_fun',id_eq] at hy
   exact .inr ⟨fun e=>hij e.symm,hy,fun e=>hij (h.one j i x0 y hj hy (by rw [hk0,e]))⟩
 constructor
 ·intro y hy
  obtain ⟨i,hi⟩:=List.getElem?_of_mem hy
  rcases at_ i y hi with ⟨_,rfl⟩ | ⟨_,h1,h2⟩
  ·exact ⟨a,v,ha,rfl,rfl,by simp⟩
  ·obtain ⟨a',v',q1,q2,q3,q4⟩:=h.all y (List.mem_of_getElem? h1)
   refine ⟨a',v',q1,q2,q3,?_⟩
   rw [if_neg (fun e=>h2 (by rw [q2,e]))]
   exact q4
 ·intro a' v' h'
  by_cases hx:a'=a
  ·subst hx
   refine ⟨{x0 with key:=kv a',val:=vv v},List.mem_of_getElem? (i:=j) ?_,rfl⟩
   rw [List.getElem?_modify,hj]
   simp
  ·rw [if_neg hx] at h'
   obtain ⟨x,hx1,hk⟩:=h.has a' v' h'
   obtain ⟨i,hi⟩:=List.getElem?_of_mem hx1
   refine ⟨x,List.mem_of_getElem? (i:=i) ?_,hk⟩
   rw [List.getElem?_modify,hi]
   have hne:¬ j=i:=fun e=>by
    subst e
    rw [hj] at hi
    injection hi with hi
    exact hx (KT.inj _ _ (by rw [← hk,← hi,hk0]))
   simp [hne]
 ·intro i i' x y hi hj' hk
  rcases at_ i x hi with ⟨e1,q1⟩ | ⟨e1,q1,q2⟩ <;> rcases at_ i' y hj' with ⟨e2,q3⟩ | ⟨e2,q3,q4⟩
  ·rw [e1,e2]
  ·exact absurd (by rw [← hk,q1]) q4
  ·exact absurd (by rw [hk,q3]) q2
  ·exact h.one i i' x y q1 q3 hk
 ·intro y hy
  obtain ⟨i,hi⟩:=List.getElem?_of_mem hy
  rcases at_ i y hi with ⟨_,rfl⟩ | ⟨_,h1,_⟩
  ·exact h.old x0 (List.mem_of_getElem? hj)
  ·exact h.old y (List.mem_of_getElem? h1)
 ·rw [map_modify_born]
  exact h.bor
theorem EntF.erase [DecidableEq α] (h:EntF ok kv vv f es clock) (KT:KeyTy P k ok kv) (a:α) (j:Nat) (x0:MapEntry) (hj:es[j]?=some x0) (hk0:x0.key=kv a) :
  EntF ok kv vv (fun x=>if x=a then none else f x) (es.eraseIdx j) clock:=by
 have hsub:∀ y∈es.eraseIdx j,y∈es∧y.key≠kv a:=fun y hy=>by
  obtain ⟨i,hne,hi⟩:=List.mem_eraseIdx_iff_getElem?.1 hy
  exact ⟨List.mem_of_getElem? hi,fun e=>hne (h.one i j y x0 hi hj (by rw [e,hk0]))⟩
 have hat:∀ i y,(es.eraseIdx j)[i]?=some y→es[if i<j then i else i+1]?=some y:=fun i y hy=>by
  rw [List.getElem?_eraseIdx] at hy
  split at hy <;> rename_i hc <;> simp [hc,hy]
 constructor
 ·intro y hy
  obtain ⟨hy1,hy2⟩:=hsub y hy
  obtain ⟨a',v',q1,q2,q3,q4⟩:=h.all y hy1
  refine ⟨a',v',q1,q2,q3,?_⟩
  rw [if_neg (fun e=>hy2 (by rw [q2,e]))]
  exact q4
 ·intro a' v' h'
  by_cases hx:a'=a
  ·simp [hx] at h'
  ·rw [if_neg hx] at h'
   obtain ⟨x,hx1,hk⟩:=h.has a' v' h'
   refine ⟨x,List.mem_eraseIdx_iff_getElem?.2 ?_,hk⟩
   obtain ⟨i,hi⟩:=List.getElem?_of_mem hx1
   refine ⟨i,fun e=>hx ?_,hi⟩
   subst e
   rw [hj] at hi
   injection hi with hi
   exact KT.inj _ _ (by rw [← hk,← hi,hk0])
 ·intro i i' x y hi hi' hk
  have:=h.one _ _ x y (hat i x hi) (hat i' y hi') hk
  split at this <;> split at this <;> omega
 ·intro y hy
  exact h.old y (hsub y hy).1
 ·exact List.Nodup.sublist ((List.eraseIdx_sublist _ _).map _) h.bor
theorem MapF.store [DecidableEq α] (h:MapF w b ok kv vv f) (KT:KeyTy P k ok kv) (ht:P.underlying t=some (.map k e)) (a:α) (ha:ok a) (v:β) :
  ∃ w',(Instr.mapUpdate t (.map (some b)) (kv a) (vv v)).run P w=.ok () w'∧MapF w' b ok kv vv (fun x=>if x=a then some v else f x)∧w.grownBy w' (some b)∧w'.heap.size=w.heap.size:=by
 obtain ⟨es,clock,hb,E⟩:=h
 obtain ⟨l,hl⟩:=KT.lit a ha
 rcases E.find KT w a ha with ⟨h1,h2,h3⟩ | ⟨j,x,v0,h1,h2,h3,h4,h5⟩
 ·refine ⟨setBlock w b (.map (es.push ⟨kv a,vv v,clock⟩) (clock+1)),?_,⟨_,_,ChangeMaps.heap_setBlock_same hb _,?_⟩,⟨rfl,rfl,rfl,by simp [setBlock],fun i _ hi=>ChangeMaps.heap_setBlock_other hb _ (fun e=>hi (by rw [e]))⟩,by simp [setBlock]⟩
  ·simp [Instr.mapUpdate,run_underlying ht,MapKept.run_getObj_map hb,KT.K.check w false hl,h1,MapKept.run_setObj_map _ hb,Result.andThen,setBlock]
  ·rw [Array.toList_push]
   exact E.push a ha v h3
 ·have hst:=KT.K.stays w hl
  have he0:es[j]?=some x:=by simpa using h2
  refine ⟨setBlock w b (.map (es.modify j fun x=>{x with key:=kv a,val:=vv v}) clock),?_,⟨_,_,ChangeMaps.heap_setBlock_same hb _,?_⟩,⟨rfl,rfl,rfl,by simp [setBlock],fun i _ hi=>ChangeMaps.heap_setBlock_other hb _ (fun e=>hi (by rw [e]))⟩,by simp [setBlock]⟩
  ·simp [Instr.mapUpdate,run_underlying ht,MapKept.run_getObj_map hb,KT.K.check w false hl,h1,he0,h3,hst,MapKept.run_setObj_map _ hb,Result.andThen,setBlock]
  ·rw [Array.toList_modify]
   exact E.modify KT a ha v j x h2 h3
/-! A walk through the map. -/
theorem MapR.map (h:MapR w b r ok kv vv f left):MapF w b ok kv vv f:=by
 obtain ⟨es,clock,_,_,_,hb,E,_⟩:=h
 exact ⟨es,clock,hb,E⟩
theorem MapR.lt (h:MapR w b r ok kv vv f left):b<w.heap.size∧r<w.heap.size:=by
 obtain ⟨es,clock,_,_,_,hb,E,hr,_⟩:=h
 exact ⟨(Array.getElem?_eq_some_iff.1 hb).1,(Array.getElem?_eq_some_iff.1 hr).1⟩
theorem MapR.ne (h:MapR w b r ok kv vv f left):r≠b:=by
 obtain ⟨es,clock,_,_,_,hb,E,hr,_⟩:=h
 intro e
 rw [e,hb] at hr
 cases hr
theorem MapR.of_block (h:MapR w b r ok kv vv f left) (hb:w'.heap[b]?=w.heap[b]?) (hr:w'.heap[r]?=w.heap[r]?):MapR w' b r ok kv vv f left∧w'.rangeLeft b r=w.rangeLeft b r:=by
 obtain ⟨es,clock,since,seen,c0,h1,E,h2,rest⟩:=h
 exact ⟨⟨es,clock,since,seen,c0,hb.trans h1,E,hr.trans h2,rest⟩,by simp [World.rangeLeft,hb,hr]⟩
theorem left_size (es:Array MapEntry) (seen:Array Nat):(leftOf es seen).size=((es.toList.map (·.born)).filter (fun n=>!seen.contains n)).length:=by
 rw [List.filter_map,List.length_map,leftOf,← Array.length_toList,Array.toList_filter]
 rfl
theorem MapF.range (h:MapF w b ok kv vv f) (KT:KeyTy P k ok kv) (ht:P.underlying t=some (.map k e)) :
  ∃ w',(Instr.range t (.map (some b))).run P w=.ok (.pointer (some ⟨w.heap.size,0,none⟩)) w'∧MapR w' b w.heap.size ok kv vv f (fun a=>(f a).isSome)∧w.grownBy w' none∧w'.heap.size=w.heap.size+1:=by
 have hlt:=h.lt
 obtain ⟨es,clock,hb,E⟩:=h
 refine ⟨_,run_range_map w t k e b es clock ht hb,⟨es,clock,clock,#[],clock,((MapKept.heap_alloc w _).2 b hlt).trans hb,E,(MapKept.heap_alloc w _).1,E.old,Nat.le_refl _,Nat.le_refl _,fun a=>?_⟩,World.grownBy_alloc w _ none,by simp⟩
 constructor
 ·intro ha
  obtain ⟨v,hv⟩:=Option.isSome_iff_exists.1 ha
  obtain ⟨x,hx,hk⟩:=E.has a v hv
  exact ⟨x,hx,hk,by simp⟩
 ·rintro ⟨x,hx,hk,_⟩
  obtain ⟨a',v',_,q2,_,q4⟩:=E.all x hx
  have:a=a':=KT.inj a a' (by rw [← hk,q2])
  subst this
  show (f a).isSome=true
  rw [q4]
  rfl
theorem MapR.store [DecidableEq α] (h:MapR w b r ok kv vv f left) (KT:KeyTy P k ok kv) (ht:P.underlying t=some (.map k e)) (a:α) (ha:ok a) (v:β) (hs:(f a).isSome=true) :
  ∃ w',(Instr.mapUpdate t (.map (some b)) (kv a) (vv v)).run P w=.ok () w'∧MapR w' b r ok kv vv (fun x=>if x=a then some v else f x) left∧w'.rangeLeft b r=w.rangeLeft b r∧w.grownBy w' (some b)∧w'.heap.size=w.heap.size:=by
 have hne:=h.ne
 obtain ⟨es,clock,since,seen,c0,hb,E,hr,hold,hsc,hsk,hl⟩:=h
 obtain ⟨l,hl'⟩:=KT.lit a ha
 rcases E.find KT w a ha with ⟨h1,h2,h3⟩ | ⟨j,x,v0,h1,h2,h3,h4,h5⟩
 ·rw [h2] at hs
  cases hs
 ·have hst:=KT.K.stays w hl'
  have he0:es[j]?=some x:=by simpa using h2
  have hr':(setBlock w b (.map (es.modify j fun x=>{x with key:=kv a,val:=vv v}) clock)).heap[r]?=some (.mapIter (some b) since seen c0):=(ChangeMaps.heap_setBlock_other hb _ hne).trans hr
  have hmem:∀ P:MapEntry→Prop,(∀ y z:MapEntry,y.key=z.key→y.born=z.born→P y→P z)→((∃ y∈es.toList,P y) ↔ ∃ y∈(es.modify j fun x=>{x with key:=kv a,val:=vv v}).toList,P y):=by
   intro P hP
   rw [Array.toList_modify]
   constructor
   ·rintro ⟨y,hy,hp⟩
    obtain ⟨i,hi⟩:=List.getElem?_of_mem hy
    by_cases hij:j=i
    ·subst hij
     rw [h2] at hi
     injection hi with hi
     subst hi
     exact ⟨{x with key:=kv a,val:=vv v},List.mem_of_getElem? (i:=j) (by rw [List.getElem?_modify,h2];simp),hP x _ h3 rfl hp⟩
    ·exact ⟨y,List.mem_of_getElem? (i:=i) (by rw [List.getElem?_modify,hi];simp [hij]),hp⟩
   ·rintro ⟨y,hy,hp⟩
    obtain ⟨i,hi⟩:=List.getElem?_of_mem hy
    rw [List.getElem?_modify] at hi
    by_cases hij:j=i
    ·subst hij
     rw [h2] at hi
     simp at hi
     exact ⟨x,List.mem_of_getElem? h2,hP y x (by rw [← hi,h3]) (by rw [← hi]) hp⟩
    ·simp only [hij,if_false,Option.map_eq_map,Option.map_id_fun',id_eq] at hi
     exact ⟨y,List.mem_of_getElem? hi,hp⟩
  refine ⟨setBlock w b (.map (es.modify j fun x=>{x with key:=kv a,val:=vv v}) clock),?_,⟨_,_,since,seen,c0,ChangeMaps.heap_setBlock_same hb _,?_,hr',?_,hsc,hsk,fun a'=>?_⟩,?_,⟨rfl,rfl,rfl,by simp [setBlock],fun i _ hi=>ChangeMaps.heap_setBlock_other hb _ (fun e=>hi (by rw [e]))⟩,by simp [setBlock]⟩
  ·simp [Instr.mapUpdate,run_underlying ht,MapKept.run_getObj_map hb,KT.K.check w false hl',h1,he0,h3,hst,MapKept.run_setObj_map _ hb,Result.andThen,setBlock]
  ·rw [Array.toList_modify]
   exact E.modify KT a ha v j x h2 h3
  ·intro y hy
   obtain ⟨z,hz,hzb⟩:=(hmem (fun z=>z.born=y.born) (fun p q _ hpq hp=>by rw [← hpq];exact hp)).2 ⟨y,hy,rfl⟩
   rw [← hzb]
   exact hold z hz
  ·rw [hl a']
   exact hmem (fun y=>y.key=kv a'∧seen.contains y.born=false) (fun p q h1 h2 h3=>⟨by rw [← h1];exact h3.1,by rw [← h2];exact h3.2⟩)
  ·simp only [World.rangeLeft,hb,hr,hr',ChangeMaps.heap_setBlock_same hb _]
   rw [left_size,left_size,Array.toList_modify,map_modify_born]
theorem MapR.delete [DecidableEq α] (h:MapR w b r ok kv vv f left) (KT:KeyTy P k ok kv) (ht:P.underlying t=some (.map k e)) (a:α) (ha:ok a) (hs:(f a).isSome=true) (hna:left a=false) (ty:TypeId) :
  ∃ w',(Builtin.delete_ #[t,k] ty #[.map (some b),kv a]).run P w=.ok (.tuple #[]) w'∧MapR w' b r ok kv vv (fun x=>if x=a then none else f x) left∧w'.rangeLeft b r≤w.rangeLeft b r∧w.grownBy w' (some b)∧w'.heap.size=w.heap.size:=by
 have hne:=h.ne
 obtain ⟨es,clock,since,seen,c0,hb,E,hr,hold,hsc,hsk,hl⟩:=h
 obtain ⟨l,hl'⟩:=KT.lit a ha
 rcases E.find KT w a ha with ⟨h1,h2,h3⟩ | ⟨j,x,v0,h1,h2,h3,h4,h5⟩
 ·rw [h2] at hs
  cases hs
 ·have hjs:j<es.size:=by simpa using (List.getElem?_eq_some_iff.1 h2).1
  have hsub:(es.eraseIdxIfInBounds j).toList=es.toList.eraseIdx j:=by
   unfold Array.eraseIdxIfInBounds
   rw [dif_pos hjs]
   simp
  have hr':(setBlock w b (.map (es.eraseIdxIfInBounds j) clock)).heap[r]?=some (.mapIter (some b) since seen c0):=(ChangeMaps.heap_setBlock_other hb _ hne).trans hr
  refine ⟨setBlock w b (.map (es.eraseIdxIfInBounds j) clock),?_,⟨_,_,since,seen,c0,ChangeMaps.heap_setBlock_same hb _,?_,hr',?_,hsc,hsk,fun a'=>?_⟩,?_,⟨rfl,rfl,rfl,by simp [setBlock],fun i _ hi=>ChangeMaps.heap_setBlock_other hb _ (fun e=>hi (by rw [e]))⟩,by simp [setBlock]⟩
  ·simp [Builtin.delete_,run_underlying ht,MapKept.run_getObj_map hb,KT.K.check w _ hl',h1,MapKept.run_setObj_map _ hb,Result.andThen,setBlock]
  ·rw [hsub]
   exact E.erase KT a j x h2 h3
  ·intro y hy
   rw [hsub] at hy
   exact hold y ((List.eraseIdx_sublist _ _).subset hy)
  ·rw [hl a']
   constructor
   ·rintro ⟨y,hy,hyk,hyc⟩
    obtain ⟨i,hi⟩:=List.getElem?_of_mem hy
    refine ⟨y,?_,hyk,hyc⟩
    rw [hsub,List.mem_eraseIdx_iff_getElem?]
    refine ⟨i,fun e=>?_,hi⟩
    subst e
    rw [h2] at hi
    injection hi with hi
    subst hi
    have:left a=true:=(hl a).2 ⟨x,hy,h3,hyc⟩
    rw [hna] at this
    cases this
   ·rintro ⟨y,hy,hyk,hyc⟩
    rw [hsub] at hy
    exact ⟨y,(List.eraseIdx_sublist _ _).subset hy,hyk,hyc⟩
  ·simp only [World.rangeLeft,hb,hr,hr',ChangeMaps.heap_setBlock_same hb _]
   rw [left_size,left_size,hsub]
   exact (((List.eraseIdx_sublist _ _).map _).filter _).length_le
end
end Go.Proofs.YtlnnjdibkbabiaaGreatDoor
