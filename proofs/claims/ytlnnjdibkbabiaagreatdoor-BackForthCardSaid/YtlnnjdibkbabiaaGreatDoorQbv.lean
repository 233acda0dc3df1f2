/- Contracts and plain laws, joined: TjD, TjE. -/
import Derived.Test.YtlnnjdibkbabiaaGreatDoorQbu
import Derived.Test.YtlnnjdibkbabiaaGreatDoorQbh
import Derived.Test.YtlnnjdibkbabiaaGreatDoorQbn
/- Contract of note of package trip (layer 24). -/
set_option linter.unusedSimpArgs false
set_option linter.unusedVariables false
namespace Go.Proofs.YtlnnjdibkbabiaaGreatDoor
open Go.RowKit
set_option maxRecDepth 100000
theorem Turn.keeps {F:Nat→Prop} {w w':World} (t:Turn F w w') {b:Nat} {o:Obj} (h:w.heap[b]?=some o) (hf:¬ F b):w'.heap[b]?=some o:=(t.block b (box_lt h) hf).trans h
/- Lemmas for show of package trip (layer 24): a journey with one more pair,the number of items,what comes back. -/
section
variable {lo:Nat} {w w5 w':World} {N:NetL} {st:TrS} {J:JL} {lf:Int × Int→Option Int}
theorem JAt.push (h:JAt lo w N st J lf) (q:Pair) {A3:Option Addr} {c3 m:Nat} (hown:OwnL w5 lo 56 4 Pair.cells A3 c3 (st.pairs++[q])) (hg:w.grownBy w5 (slBlk J.qA)) (hat:slBlk A3=slBlk J.qA∨slBlk A3=some w.heap.size) (hm:m=st.pairs.length+1) :
  JAt lo (w5.setCell ⟨J.jb,24,none⟩ (.slice A3 m c3)) N ⟨st.pairs++[q],st.uses⟩ {J with qA:=A3,qc:=c3} lf∧Turn J.own w (w5.setCell ⟨J.jb,24,none⟩ (.slice A3 m c3))∧∀ i,({J with qA:=A3,qc:=c3}:JL).own i→J.own i∨w.heap.size≤i:=by
 subst hm
 have hjb:=box_lt h.box
 have hlb:=h.loc.lt
 have hub:=h.use.lt
 have hsz:(w5.setCell ⟨J.jb,24,none⟩ (.slice A3 (st.pairs.length+1) c3)).heap.size=w5.heap.size:=by simp [World.setCell]
 have hsl:=hg.size
 have nb:∀ i,i<w.heap.size→i≠J.jb→slBlk J.qA≠some i→(w5.setCell ⟨J.jb,24,none⟩ (.slice A3 (st.pairs.length+1) c3)).heap[i]?=w.heap[i]?:=fun i hi h1 h2 =>
  (heap_setCell_other w5 ⟨J.jb,24,none⟩ i _ h1).trans (hg.block i hi (fun e=>h2 e.symm))
 have hA2:∀ i,slBlk A3=some i→slBlk J.qA=some i∨i=w.heap.size:=fun i hi=>by
  rcases hat with e | e
  ·exact .inl (by rw [← e];exact hi)
  ·rw [hi] at e;exact .inr (Option.some.inj e)
 have hbox:w5.heap[J.jb]?=some (.cells (jcs N J.qA st.pairs.length J.qc J.lb J.ub) 108 (0,0)):=(hg.block _ hjb (fun e=>h.d2.1 e.symm)).trans h.box
 have ht:Turn J.own w (w5.setCell ⟨J.jb,24,none⟩ (.slice A3 (st.pairs.length+1) c3)):=⟨hg.os,hg.tape,hg.output,by omega,fun i hi hno=>nb i hi (fun e=>hno (.inl e)) (fun e=>hno (.inr (.inr (.inr e))))⟩
 have hnew:∀ i,({J with qA:=A3,qc:=c3}:JL).own i→J.own i∨w.heap.size≤i:=by
  rintro i (e | e | e | e)
  ·exact .inl (.inl e)
  ·exact .inl (.inr (.inl e))
  ·exact .inl (.inr (.inr (.inl e)))
  ·rcases hA2 i e with e | e
   ·exact .inl (.inr (.inr (.inr e)))
   ·exact .inr (by omega)
 refine ⟨⟨?_,?_,h.loc.of_block (nb _ hlb h.d1.1.symm h.d2.2.1),h.use.of_block (nb _ hub h.d1.2.1.symm h.d2.2.2),h.turnNet ht,fun i hi ho=>?_,h.d1,⟨fun e=>?_,fun e=>?_,fun e=>?_⟩,h.lo,fun i hi=>Nat.lt_of_lt_of_le (h.old i hi) ht.size⟩,ht,hnew⟩
 ·have:=heap_setCell_same w5 J.jb 24 _ _ (.slice A3 (st.pairs.length+1) c3) hbox
  rw [this,List.length_append]
  rfl
 ·refine hown.turn (fun i hi _=>heap_setCell_other w5 ⟨J.jb,24,none⟩ i _ (fun e=>?_))
  have e:i=J.jb:=e
  rcases hA2 i hi with h2 | h2
  ·exact h.d2.1 (by rw [h2,e])
  ·omega
 ·rcases hnew i ho with h1 | h1
  ·exact h.sep i hi h1
  ·have:=h.old i hi
   omega
 ·rcases hA2 _ e with h2 | h2
  ·exact h.d2.1 h2
  ·have h2:J.jb=w.heap.size:=h2
   omega
 ·rcases hA2 _ e with h2 | h2
  ·exact h.d2.2.1 h2
  ·have h2:J.lb=w.heap.size:=h2
   omega
 ·rcases hA2 _ e with h2 | h2
  ·exact h.d2.2.2 h2
  ·have h2:J.ub=w.heap.size:=h2
   omega
end
theorem all_count {p:Prof} (hp:profCheck p=0) {E:List EvM} {id:Nat}:(allP p (wayL p) E [] id).length≤20:=by
 have hz:=size_ge hp
 have h1:∀ (E:List EvM) (i:Nat),(firstP p (wayL p) E [] i).length≤20:=fun E i=>by
  have:=partsF_le (s:=sayP p (wayL p) E [] i (tx (evAt E i)) (evAt E i).files) (size:=p.size) hz.2.1
  unfold firstP
  rw [headM_len,itemsP_len]
  omega
 have h2:∀ (s:List UInt8) (on:Int),(postP p id s on).length≤20:=fun s on=>by
  have:=partsF_le (s:=s) (size:=p.size) hz.2.1
  unfold postP
  rw [headM_len,itemsP_len]
  omega
 unfold allP
 split
 ·exact h1 _ _
 split
 ·simp
 split
 ·unfold editP
  split
  ·rw [headM_len,aboutP_len]
   exact h1 _ _
  ·exact h2 _ _
 split
 ·unfold removeP
  split
  ·rw [aboutP_len]
   exact h1 _ _
  ·split
   ·rw [aboutP_len]
    exact h1 _ _
   ·exact h2 _ _
 split
 ·unfold reactP
  split
  ·simp
  ·exact h2 _ _
 ·simp
def EvL.real (x:EvL) (i:Nat):Prop:=(x.ev.causes≠[]∧slBlk x.cA=some i)∨(x.ev.files≠[]∧slBlk x.fA=some i)
theorem rdI_frame {w w':World} {A:Option Addr} {xs:List Int} (h:RdI w w.heap.size A xs) (hb:∀ i,xs≠[]→slBlk A=some i→w'.heap[i]?=w.heap[i]?) (hs:w.heap.size≤w'.heap.size):RdI w' w'.heap.size A xs:=by
 by_cases hx:xs=[]
 ·rw [hx]
  exact RdL.nil_
 ·exact h.turn (fun i hi _=>hb i hx hi) hs
theorem EvLOk.frame {w w':World} {x:EvL} (h:EvLOk w w.heap.size x) (hb:∀ i,x.real i→w'.heap[i]?=w.heap[i]?) (hs:w.heap.size≤w'.heap.size):EvLOk w' w'.heap.size x :=
 ⟨⟨rdI_frame h.ok.ca (fun i hx hi=>hb i (.inl ⟨hx,hi⟩)) hs,rdI_frame h.ok.fi (fun i hx hi=>hb i (.inr ⟨hx,hi⟩)) hs,h.ok.cl,h.ok.fl,h.ok.tx⟩,h.cap⟩
theorem rdI_lt {w:World} {B:Nat} {A:Option Addr} {xs:List Int} (h:RdI w B A xs) (hx:xs≠[]) {i:Nat} (hi:slBlk A=some i):i<B:=by
 obtain ⟨g9,o9,e9,h9,_⟩:=h.at_ (List.length_pos_iff.2 hx)
 rw [e9] at hi
 obtain rfl:g9=i:=Option.some.inj hi
 exact h9
theorem EvLOk.lt {w:World} {x:EvL} (h:EvLOk w w.heap.size x) {i:Nat} (hi:x.real i):i<w.heap.size:=by
 rcases hi with ⟨hx,hi⟩ | ⟨hx,hi⟩
 ·exact rdI_lt h.ok.ca hx hi
 ·exact rdI_lt h.ok.fi hx hi
theorem elE2:ElOk (fun w x=>EvLOk w w.heap.size x) EvL.real:=⟨fun _ _ _ h hb hs=>h.frame hb hs,fun _ _ _ h hi=>h.lt hi⟩
structure SB (w:World) (b:Nat) (e:EvL):Prop where
 r0:w.heap[b]?=some (.cells zeroE 40 (0,0))
 e1:w.heap[b+1]?=some (.cells (e.ev.cs e.cA e.cc e.fA e.fc) 40 (0,0))
theorem SB.turn {F:Nat→Prop} {w w':World} {b:Nat} {e:EvL} (h:SB w b e) (t:Turn F w w') (h0:¬ F b) (h1:¬ F (b+1)):SB w' b e:=⟨t.keeps h.r0 h0,t.keeps h.e1 h1⟩
theorem SB.now {w w':World} {b:Nat} {e:EvL} (h:SB w b e) (hb:Below w.heap.size w w'):SB w' b e:=⟨(hb.block _ (box_lt h.r0)).trans h.r0,(hb.block _ (box_lt h.e1)).trans h.e1⟩
theorem ItsAt.turn {F:Nat→Prop} {base:Nat} {w w':World} {A:Option Addr} {c:Nat} {xs:List ItL} {L:List ItM} (h:ItsAt base w A c xs L) (t:Turn F w w') (hF:∀ i,F i→i<base):ItsAt base w' A c xs L :=
 ⟨h.own.turn (fun i hi hl=>t.block i hl (fun hf=>by have:=hF i hf;have:=(h.own.blk_lt hi).1;omega)),h.eq,fun x hx=>⟨(h.ok x hx).fi.turn (fun i hi hl=>t.block i hl (fun hf=>by have:=hF i hf;have:=(h.far x hx i hi).1;omega)) t.size,(h.ok x hx).cap⟩,h.far⟩
end Go.Proofs.YtlnnjdibkbabiaaGreatDoor
