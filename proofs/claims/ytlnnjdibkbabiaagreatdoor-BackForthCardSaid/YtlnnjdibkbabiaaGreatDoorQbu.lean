/- Contracts and plain laws, joined: TjA, TjB, TjC. -/
import Derived.Test.YtlnnjdibkbabiaaGreatDoorQbt
import Derived.Test.YtlnnjdibkbabiaaGreatDoorQbg
import Derived.Test.YtlnnjdibkbabiaaGreatDoorQak
import Derived.Test.YtlnnjdibkbabiaaGreatDoorQay
import Derived.Test.YtlnnjdibkbabiaaGreatDoorQaf
/- A journey in memory (layer 24). -/
set_option linter.unusedSimpArgs false
set_option linter.unusedVariables false
namespace Go.Proofs.YtlnnjdibkbabiaaGreatDoor
open Go.RowKit
set_option maxRecDepth 100000
def okP (k:Int × Int):Prop:=InInt k.1∧InInt k.2
def kvP (k:Int × Int):Value:=.agg #[.int .i64 k.1,.int .i64 k.2]
def locF (ps:List Pair) (k:Int × Int):Option Int:=(ps.reverse.find? (fun q=>q.ev==k.1 && q.part==k.2)).map (·.loc)
def NetL.at_ (N:NetL) (i:Nat):Prop:=(slBlk N.pA=some i∧N.p.types≠[])∨slBlk N.wA=some i∨slBlk N.eA=some i∨(slBlk N.bA=some i∧N.B≠[])∨∃ x∈N.E,x.at_ i
theorem NetOk.turn {w w':World} {N:NetL} (h:NetOk w N) (hb:∀ i,N.at_ i→i<w.heap.size→w'.heap[i]?=w.heap[i]?) (hs:w.heap.size≤w'.heap.size):NetOk w' N:=by
 refine ⟨⟨?_,h.pf.nm,h.pf.len,h.pf.ts⟩,h.wy.turn (fun i hi hl=>hb i (.inr (.inl hi)) hl) hs,h.ev.turn (fun i hi hl=>hb i (.inr (.inr (.inl hi))) hl) hs,
  fun x hx=>(h.ok x hx).turn (fun i hi hl=>hb i (.inr (.inr (.inr (.inr ⟨x,hx,hi⟩)))) hl) hs,?_,h.wn,h.en,h.bn,h.rt,h.ck⟩
 ·by_cases hp:N.p.types=[]
  ·rw [hp]
   exact RdL.nil_
  ·exact h.pf.rd.turn (fun i hi hl=>hb i (.inl ⟨hi,hp⟩) hl) hs
 ·by_cases hp:N.B=[]
  ·rw [hp]
   exact RdL.nil_
  ·exact h.bd.turn (fun i hi hl=>hb i (.inr (.inr (.inr (.inl ⟨hi,hp⟩)))) hl) hs
abbrev jcs (N:NetL) (qA:Option Addr) (qn qc lb ub:Nat):Array Value:=#[.string N.p.name,.int .i64 N.p.edit,.int .i64 N.p.within_,.int .i64 N.p.delete,.bool N.p.react,.int .i64 N.p.thread,.bool N.p.quote,.bool N.p.mention,.int .i64 N.p.size,.int .i64 N.p.parts,.int .i64 N.p.files,.int .i64 N.p.bytes,
 .slice N.pA N.p.types.length N.pc,.int .i64 N.p.join,.int .i64 N.p.history,.int .i64 N.p.remove,.int .i64 N.p.level,.bool N.p.batch,.int .i64 N.p.rate,.int .i64 N.p.down,.int .i64 N.p.window,.int .i64 N.p.keep,
 .slice N.wA N.W.length N.wc,.slice N.eA N.E.length N.ec,.slice qA qn qc,.map (some lb),.map (some ub)]
structure JL where
 jb:Nat
 qA:Option Addr
 qc:Nat
 lb:Nat
 ub:Nat
def JL.own (J:JL) (i:Nat):Prop:=i=J.jb∨i=J.lb∨i=J.ub∨slBlk J.qA=some i
structure JAt (lo:Nat) (w:World) (N:NetL) (st:TrS) (J:JL) (lf:Int × Int→Option Int):Prop where
 box:w.heap[J.jb]?=some (.cells (jcs N J.qA st.pairs.length J.qc J.lb J.ub) 108 (0,0))
 prs:OwnL w lo 56 4 Pair.cells J.qA J.qc st.pairs
 loc:MapF w J.lb okP kvP (Value.int .i64) lf
 use:MapF w J.ub InInt (Value.int .i64) Value.bool (fun c=>if st.uses c=true then some true else none)
 net:NetOk w N
 sep:∀ i,N.at_ i→¬ J.own i
 d1:J.jb≠J.lb∧J.jb≠J.ub∧J.lb≠J.ub
 d2:slBlk J.qA≠some J.jb∧slBlk J.qA≠some J.lb∧slBlk J.qA≠some J.ub
 lo:lo≤J.jb∧lo≤J.lb∧lo≤J.ub
 old:∀ i,N.at_ i→i<w.heap.size
theorem Turn.keepsJ {F:Nat→Prop} {w w':World} (t:Turn F w w') {b:Nat} {o:Obj} (h:w.heap[b]?=some o) (hf:¬ F b):w'.heap[b]?=some o:=(t.block b (box_lt h) hf).trans h
section
variable {lo:Nat} {w w':World} {N:NetL} {st:TrS} {J:JL} {lf:Int × Int→Option Int}
theorem JAt.lt (h:JAt lo w N st J lf):∀ i,J.own i→i<w.heap.size:=by
 rintro i (rfl | rfl | rfl | hi)
 ·exact box_lt h.box
 ·exact h.loc.lt
 ·exact h.use.lt
 ·exact (h.prs.blk_lt hi).2
theorem JAt.now (h:JAt lo w N st J lf) (hb:Below w.heap.size w w'):JAt lo w' N st J lf :=
 ⟨(hb.block _ (box_lt h.box)).trans h.box,h.prs.below hb,h.loc.of_block (hb.block _ h.loc.lt),h.use.of_block (hb.block _ h.use.lt),h.net.now hb,h.sep,h.d1,h.d2,h.lo,fun i hi=>Nat.lt_of_lt_of_le (h.old i hi) hb.size⟩
theorem JAt.cell (h:JAt lo w N st J lf) (j:Nat) (v:Value) (hj:(jcs N J.qA st.pairs.length J.qc J.lb J.ub)[j]?=some v):w.cell? ⟨J.jb,j,none⟩=some v:=box_cell h.box j v hj
theorem JAt.prof (h:JAt lo w N st J lf):w.rangeAt J.jb 0 (N.p.cs N.pA N.pc).toList:=fun j v hj=>by
 rw [Nat.zero_add]
 refine h.cell j v ?_
 have hlt:=(List.getElem?_eq_some_iff.1 hj).1
 have:(jcs N J.qA st.pairs.length J.qc J.lb J.ub).toList.take 22=(N.p.cs N.pA N.pc).toList:=rfl
 rw [← this] at hj
 have h2:=List.getElem?_take_of_lt (l:=(jcs N J.qA st.pairs.length J.qc J.lb J.ub).toList) (i:=j) (j:=22) hlt
 rw [h2] at hj
 simpa using hj
theorem JAt.turnNet (h:JAt lo w N st J lf) (t:Turn J.own w w'):NetOk w' N:=h.net.turn (fun i hi hl=>t.block i hl (h.sep i hi)) t.size
theorem JAt.turn {F:Nat→Prop} (h:JAt lo w N st J lf) (t:Turn F w w') (hF:∀ i,F i→¬ J.own i∧¬ N.at_ i):JAt lo w' N st J lf :=
 ⟨t.keepsJ h.box (fun hf=>(hF _ hf).1 (.inl rfl)),h.prs.turn (fun i hi hl=>t.block i hl (fun hf=>(hF _ hf).1 (.inr (.inr (.inr hi))))),h.loc.of_block (t.block _ h.loc.lt (fun hf=>(hF _ hf).1 (.inr (.inl rfl)))),h.use.of_block (t.block _ h.use.lt (fun hf=>(hF _ hf).1 (.inr (.inr (.inl rfl))))),
  h.net.turn (fun i hi hl=>t.block i hl (fun hf=>(hF i hf).2 hi)) t.size,h.sep,h.d1,h.d2,h.lo,fun i hi=>Nat.lt_of_lt_of_le (h.old i hi) t.size⟩
end
/- Contracts of number and kindOf of package trip (layer 24). -/
/- Contract of back of package trip (layer 24). -/
structure KB (w0 w:World) (b:Nat) (e:EvL) (x:ItL):Prop where
 e0:w.heap[b]?=some (.cells (e.ev.cs e.cA e.cc e.fA e.fc) 40 (0,0))
 x1:w.heap[b+1]?=some (.cells (x.it.cs x.fA x.fc) 46 (0,0))
 o2:w.heap[b+2]?=some (.cells zeroE 40 (0,0))
 hb:Below w0.heap.size w0 w
 ie:EvLOk w w.heap.size e
 ix:ItOk w w.heap.size x
theorem KB.now {w0 w w':World} {b:Nat} {e:EvL} {x:ItL} (h:KB w0 w b e x) (hb:Below w.heap.size w w'):KB w0 w' b e x :=
 ⟨(hb.block _ (box_lt h.e0)).trans h.e0,(hb.block _ (box_lt h.x1)).trans h.x1,(hb.block _ (box_lt h.o2)).trans h.o2,h.hb.trans (hb.mono h.hb.size),h.ie.now hb,h.ix.now hb⟩
theorem KB.start {w:World} {e:EvL} {x:ItL} (he:EvLOk w w.heap.size e) (hx:ItOk w w.heap.size x) :
  KB w (((w.alloc (.cells (e.ev.cs e.cA e.cc e.fA e.fc) 40)).alloc (.cells (x.it.cs x.fA x.fc) 46)).alloc (.cells zeroE 40)) w.heap.size e x:=by
 obtain ⟨w1,h1⟩:∃ x,x=w.alloc (.cells (e.ev.cs e.cA e.cc e.fA e.fc) 40):=⟨_,rfl⟩
 have b1:Below w.heap.size w w1:=by rw [h1];exact (Below.refl _ _).alloc (Nat.le_refl _) _
 have s1:w1.heap.size=w.heap.size+1:=by rw [h1];simp
 have g1:w1.heap[w.heap.size]?=some (.cells (e.ev.cs e.cA e.cc e.fA e.fc) 40 (0,0)):=by rw [h1];exact (MapKept.heap_alloc w _).1
 rw [← h1]
 clear h1
 obtain ⟨w2,h2⟩:∃ y,y=w1.alloc (.cells (x.it.cs x.fA x.fc) 46):=⟨_,rfl⟩
 have b2:Below w1.heap.size w1 w2:=by rw [h2];exact (Below.refl _ _).alloc (Nat.le_refl _) _
 have s2:w2.heap.size=w1.heap.size+1:=by rw [h2];simp
 have g2:w2.heap[w1.heap.size]?=some (.cells (x.it.cs x.fA x.fc) 46 (0,0)):=by rw [h2];exact (MapKept.heap_alloc w1 _).1
 rw [← h2]
 clear h2
 obtain ⟨w3,h3⟩:∃ y,y=w2.alloc (.cells zeroE 40):=⟨_,rfl⟩
 have b3:Below w2.heap.size w2 w3:=by rw [h3];exact (Below.refl _ _).alloc (Nat.le_refl _) _
 have g3:w3.heap[w2.heap.size]?=some (.cells zeroE 40 (0,0)):=by rw [h3];exact (MapKept.heap_alloc w2 _).1
 rw [← h3]
 clear h3
 rw [s1] at g2 s2
 rw [s2] at g3
 have hb:=(b1.trans (b2.mono (by omega))).trans (b3.mono (by omega))
 refine ⟨(b3.block _ (by omega)).trans ((b2.block _ (by omega)).trans g1),(b3.block _ (by omega)).trans g2,g3,hb,he.now hb,hx.now hb⟩
theorem setCells_rowT {b:Nat} {t:TypeId}:∀ (vs:List Value) (o:Nat) (w:World) (cs:Array Value),w.heap[b]?=some (.cells cs t (0,0))→o+vs.length≤cs.size →
  (w.setCells b o vs).heap[b]?=some (.cells (cs.toList.take o++vs++cs.toList.drop (o+vs.length)).toArray t (0,0))
 | [],o,w,cs,h,_=>by
  rw [World.setCells,List.append_nil,List.length_nil,Nat.add_zero,List.take_append_drop]
  exact h
 | v::r,o,w,cs,h,hl=>by
  have h1:=heap_setCell_same w b o cs t v h
  have h2:=setCells_rowT r (o+1) _ _ h1 (by simp at hl ⊢;omega)
  rw [World.setCells]
  rw [h2]
  have e:((cs.setIfInBounds o v).toList.take (o+1)++r++(cs.setIfInBounds o v).toList.drop (o+1+r.length))=(cs.toList.take o++v::r++cs.toList.drop (o+(v::r).length)):=by
   simp only [Array.toList_setIfInBounds,List.length_cons]
   have hlt:o<cs.toList.length:=by simp at hl ⊢;omega
   rw [List.take_set,List.take_succ_eq_append_getElem hlt,List.drop_set_of_lt (by omega),show o+1+r.length=o+(r.length+1) by omega]
   rw [List.set_append_right _ _ (by simp;omega)]
   simp only [List.length_take,Nat.min_eq_left (Nat.le_of_lt hlt),Nat.sub_self,List.set_cons_zero,List.append_assoc,List.cons_append,List.nil_append]
  rw [e]
theorem setRow {w:World} {b:Nat} {cs vs:Array Value} {t:TypeId} (h:w.heap[b]?=some (.cells cs t (0,0))) (hs:vs.size=cs.size):(w.setCells b 0 vs.toList).heap[b]?=some (.cells vs t (0,0)):=by
 rw [setCells_rowT vs.toList 0 w cs h (by simp [hs])]
 have:cs.toList.drop cs.size=[]:=List.drop_of_length_le (by simp)
 simp [hs,this]
end Go.Proofs.YtlnnjdibkbabiaaGreatDoor
