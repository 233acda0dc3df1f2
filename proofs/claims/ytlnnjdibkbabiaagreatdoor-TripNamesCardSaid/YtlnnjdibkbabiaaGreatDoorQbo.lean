/- Contracts and plain laws, joined: TjA, TjB, TjC. -/
import Derived.Test.YtlnnjdibkbabiaaGreatDoorQbn
import Derived.Test.YtlnnjdibkbabiaaGreatDoorQbb
import Derived.Test.YtlnnjdibkbabiaaGreatDoorQak
import Derived.Test.YtlnnjdibkbabiaaGreatDoorQav
import Derived.Test.YtlnnjdibkbabiaaGreatDoorQaf
/- A journey in memory (layer 24). -/
set_option linter.unusedSimpArgs false
set_option linter.unusedVariables false
namespace Go.Proofs.YtlnnjdibkbabiaaGreatDoor
set_option maxHeartbeats 4000000
open _root_.Go.Lib (hid)
open Go.RowKit
set_option maxRecDepth 100000
def okP (k:Int × Int):Prop:=InInt k.1∧InInt k.2
def kvP (k:Int × Int):Value:=.agg #[.int .i64 k.1,.int .i64 k.2]
theorem laidOutT:laidOutB Tryz.prog=true:=by kernel_rfl
theorem cells2T:Tryz.prog.cellsOf 118=2:=by kernel_rfl
theorem cells1T:Tryz.prog.cellsOf 3=1:=by kernel_rfl
theorem keyP:KeyTy Tryz.prog 118 okP kvP where
 K:=Maps.Keyed.of_law (deep_law_laid laidOutT (m:=2) (by omega) (of_decide_eq_true (by kernel_rfl)) (by kernel_rfl) (by kernel_rfl))
 lit:=fun a h=>by
  obtain ⟨h1,h2⟩:=h
  have h1:=wfInt h1
  have h2:=wfInt h2
  have hk:Tryz.prog.keyType 118=true:=by kernel_rfl
  have hl:∀ d,Tryz.prog.keyLits (d+2) 118 [.int .i64 a.1,.int .i64 a.2]=some [.int .i64 a.1,.int .i64 a.2]:=by
   intro d
   simp [Program.keyLits,Tryz.underlying118,Tryz.underlying3,cells2T,cells1T,show List.range 2=[0,1] from rfl,h1,h2]
  refine ⟨.string (keyBytes [.int .i64 a.1,.int .i64 a.2]),?_⟩
  simp [keyOf,kvP,Tryz.underlying118,hk,Value.formed,cells2T,Value.cells,hl]
 inj:=fun a b h=>by
  simp only [kvP,Value.agg.injEq,Array.mk.injEq,List.cons.injEq,Value.int.injEq,and_true,true_and] at h
  exact Prod.ext h.1 h.2
theorem zeroIntT (w:World):(zeroValue 3).run Tryz.prog w=.ok (.int .i64 0) w:=by kernel_rfl
theorem zeroBoolT (w:World):(zeroValue 4).run Tryz.prog w=.ok (.bool false) w:=by kernel_rfl
def locF (ps:List Pair) (k:Int × Int):Option Int:=(ps.reverse.find? (fun q=>q.ev==k.1 && q.part==k.2)).map (·.loc)
theorem num_loc (ps:List Pair) (id part:Int):numP ps id part=(locF ps (id,part)).getD (-1):=by
 unfold numP locF
 cases ps.reverse.find? (fun q=>q.ev==id && q.part==part) <;> rfl
theorem loc_snoc (ps:List Pair) (n id part:Int):locF (ps++[⟨0,n,id,part⟩])=fun k=>if k=(id,part) then some n else locF ps k:=by
 funext k
 unfold locF
 rw [List.reverse_append,List.reverse_singleton,List.singleton_append,List.find?_cons]
 obtain ⟨a,b⟩:=k
 by_cases h:a=id∧b=part
 ·obtain ⟨rfl,rfl⟩:=h
  simp
 ·have h2:((id==a) && (part==b))=false:=by
   rw [Bool.and_eq_false_iff]
   by_cases ha:id=a
   ·right
    have:¬ part=b:=fun e=>h ⟨ha.symm,e.symm⟩
    simpa using this
   ·left
    simpa using ha
  simp only [h2]
  rw [if_neg (fun e=>h ⟨congrArg Prod.fst e,congrArg Prod.snd e⟩)]
def NetL.at_ (N:NetL) (i:Nat):Prop:=(slBlk N.pA=some i∧N.p.types≠[])∨slBlk N.wA=some i∨slBlk N.eA=some i∨(slBlk N.bA=some i∧N.B≠[])∨∃ x∈N.E,x.at_ i
theorem NetOk.turn {w w':World} {N:NetL} (h:NetOk w N) (hb:∀ i,N.at_ i→i<w.heap.size→w'.heap[i]?=w.heap[i]?) (hs:w.heap.size≤w'.heap.size):NetOk w' N:=by
 refine ⟨⟨?_,h.pf.nm,h.pf.len,h.pf.ts⟩,h.wy.turn (fun i hi hl=>hb i (.inr (.inl hi)) hl) hs,h.ev.turn (fun i hi hl=>hb i (.inr (.inr (.inl hi))) hl) hs,
  fun x hx=>(h.ok x hx).turn (fun i hi hl=>hb i (.inr (.inr (.inr (.inr ⟨x,hx,hi⟩)))) hl) hs,?_,h.wn,h.en,h.bn,h.rt,h.ck⟩
 ·by_cases hp:N.p.types=[]
  ·rw [hp]
   exact RdL.nil_
  ·exact h.pf.rd.turn (fun i hi hl=>hb i (.inl ⟨hi,hp⟩) hl) hs
 ·by_cases hp:N.B=[]
  ·rw [hp]
   exact RdL.nil_
  ·exact h.bd.turn (fun i hi hl=>hb i (.inr (.inr (.inr (.inl ⟨hi,hp⟩)))) hl) hs
abbrev jcs (N:NetL) (qA:Option Addr) (qn qc lb ub:Nat):Array Value:=#[.string N.p.name,.int .i64 N.p.edit,.int .i64 N.p.within_,.int .i64 N.p.delete,.bool N.p.react,.int .i64 N.p.thread,.bool N.p.quote,.bool N.p.mention,.int .i64 N.p.size,.int .i64 N.p.parts,.int .i64 N.p.files,.int .i64 N.p.bytes,
 .slice N.pA N.p.types.length N.pc,.int .i64 N.p.join,.int .i64 N.p.history,.int .i64 N.p.remove,.int .i64 N.p.level,.bool N.p.batch,.int .i64 N.p.rate,.int .i64 N.p.down,.int .i64 N.p.window,.int .i64 N.p.keep,
 .slice N.wA N.W.length N.wc,.slice N.eA N.E.length N.ec,.slice qA qn qc,.map (some lb),.map (some ub)]
structure JL where
 jb:Nat
 qA:Option Addr
 qc:Nat
 lb:Nat
 ub:Nat
def JL.own (J:JL) (i:Nat):Prop:=i=J.jb∨i=J.lb∨i=J.ub∨slBlk J.qA=some i
structure JAt (lo:Nat) (w:World) (N:NetL) (st:TrS) (J:JL) (lf:Int × Int→Option Int):Prop where
 box:w.heap[J.jb]?=some (.cells (jcs N J.qA st.pairs.length J.qc J.lb J.ub) 108 (0,0))
 prs:OwnL w lo 56 4 Pair.cells J.qA J.qc st.pairs
 loc:MapF w J.lb okP kvP (Value.int .i64) lf
 use:MapF w J.ub InInt (Value.int .i64) Value.bool (fun c=>if st.uses c=true then some true else none)
 net:NetOk w N
 sep:∀ i,N.at_ i→¬ J.own i
 d1:J.jb≠J.lb∧J.jb≠J.ub∧J.lb≠J.ub
 d2:slBlk J.qA≠some J.jb∧slBlk J.qA≠some J.lb∧slBlk J.qA≠some J.ub
 lo:lo≤J.jb∧lo≤J.lb∧lo≤J.ub
 old:∀ i,N.at_ i→i<w.heap.size
theorem Turn.keepsJ {F:Nat→Prop} {w w':World} (t:Turn F w w') {b:Nat} {o:Obj} (h:w.heap[b]?=some o) (hf:¬ F b):w'.heap[b]?=some o:=(t.block b (box_lt h) hf).trans h
section
variable {lo:Nat} {w w':World} {N:NetL} {st:TrS} {J:JL} {lf:Int × Int→Option Int}
theorem JAt.lt (h:JAt lo w N st J lf):∀ i,J.own i→i<w.heap.size:=by
 rintro i (rfl | rfl | rfl | hi)
 ·exact box_lt h.box
 ·exact h.loc.lt
 ·exact h.use.lt
 ·exact (h.prs.blk_lt hi).2
theorem JAt.now (h:JAt lo w N st J lf) (hb:Below w.heap.size w w'):JAt lo w' N st J lf :=
 ⟨(hb.block _ (box_lt h.box)).trans h.box,h.prs.below hb,h.loc.of_block (hb.block _ h.loc.lt),h.use.of_block (hb.block _ h.use.lt),h.net.now hb,h.sep,h.d1,h.d2,h.lo,fun i hi=>Nat.lt_of_lt_of_le (h.old i hi) hb.size⟩
theorem JAt.cell (h:JAt lo w N st J lf) (j:Nat) (v:Value) (hj:(jcs N J.qA st.pairs.length J.qc J.lb J.ub)[j]?=some v):w.cell? ⟨J.jb,j,none⟩=some v:=box_cell h.box j v hj
theorem JAt.prof (h:JAt lo w N st J lf):w.rangeAt J.jb 0 (N.p.cs N.pA N.pc).toList:=fun j v hj=>by
 rw [Nat.zero_add]
 refine h.cell j v ?_
 have hlt:=(List.getElem?_eq_some_iff.1 hj).1
 have:(jcs N J.qA st.pairs.length J.qc J.lb J.ub).toList.take 22=(N.p.cs N.pA N.pc).toList:=rfl
 rw [← this] at hj
 have h2:=List.getElem?_take_of_lt (l:=(jcs N J.qA st.pairs.length J.qc J.lb J.ub).toList) (i:=j) (j:=22) hlt
 rw [h2] at hj
 simpa using hj
theorem JAt.lookL (h:JAt lo w N st J lf) (k:Int × Int) (hk:okP k):(Instr.lookup 106 (.map (some J.lb)) (kvP k) true).run Tryz.prog w=.ok (match lf k with
  | some v=>.tuple #[.int .i64 v,.bool true]
  | none=>.tuple #[.int .i64 0,.bool false]) w:=by
 have:=h.loc.look keyP Tryz.underlying106 (zeroIntT w) k hk true
 rw [this]
 cases lf k <;> rfl
theorem JAt.lookU (h:JAt lo w N st J lf) (c:Int) (hc:InInt c):(Instr.lookup 99 (.map (some J.ub)) (.int .i64 c) false).run Tryz.prog w=.ok (.bool (st.uses c)) w:=by
 have:=h.use.look keyInt Tryz.underlying99 (zeroBoolT w) c hc false
 rw [this]
 cases st.uses c <;> rfl
theorem JAt.turnNet (h:JAt lo w N st J lf) (t:Turn J.own w w'):NetOk w' N:=h.net.turn (fun i hi hl=>t.block i hl (h.sep i hi)) t.size
theorem JAt.turn {F:Nat→Prop} (h:JAt lo w N st J lf) (t:Turn F w w') (hF:∀ i,F i→¬ J.own i∧¬ N.at_ i):JAt lo w' N st J lf :=
 ⟨t.keepsJ h.box (fun hf=>(hF _ hf).1 (.inl rfl)),h.prs.turn (fun i hi hl=>t.block i hl (fun hf=>(hF _ hf).1 (.inr (.inr (.inr hi))))),h.loc.of_block (t.block _ h.loc.lt (fun hf=>(hF _ hf).1 (.inr (.inl rfl)))),h.use.of_block (t.block _ h.use.lt (fun hf=>(hF _ hf).1 (.inr (.inr (.inl rfl))))),
  h.net.turn (fun i hi hl=>t.block i hl (fun hf=>(hF i hf).2 hi)) t.size,h.sep,h.d1,h.d2,h.lo,fun i hi=>Nat.lt_of_lt_of_le (h.old i hi) t.size⟩
theorem JAt.addUse (h:JAt lo w N st J lf) (c:Int) (hc:InInt c) :
  ∃ w6,(Instr.mapUpdate 99 (.map (some J.ub)) (.int .i64 c) (.bool true)).run Tryz.prog w=.ok () w6∧JAt lo w6 N ⟨st.pairs,fun x=>st.uses x || x==c⟩ J lf∧Turn J.own w w6∧w6.heap.size=w.heap.size:=by
 obtain ⟨w6,hrun,hm6,hg6,hs6⟩:=h.use.store keyInt Tryz.underlying99 c hc true
 have nb:∀ i,i<w.heap.size→i≠J.ub→w6.heap[i]?=w.heap[i]?:=fun i hi h1=>hg6.block i hi (fun e=>h1 (Option.some.inj e))
 have ht:Turn J.own w w6:=⟨hg6.os,hg6.tape,hg6.output,by omega,fun i hi hno=>nb i hi (fun e=>hno (.inr (.inr (.inl e))))⟩
 refine ⟨w6,hrun,⟨(nb _ (box_lt h.box) h.d1.2.1).trans h.box,h.prs.turn (fun i hi hl=>nb i hl (fun e=>h.d2.2.2 (e ▸ hi))),h.loc.of_block (nb _ h.loc.lt h.d1.2.2),?_,h.turnNet ht,h.sep,h.d1,h.d2,h.lo,fun i hi=>Nat.lt_of_lt_of_le (h.old i hi) ht.size⟩,ht,hs6⟩
 have hf:(fun x=>if x=c then some true else if st.uses x=true then some true else none)=(fun x=>if (st.uses x || x==c)=true then some true else none):=by
  funext x
  by_cases hx:x=c
  ·simp [hx]
  ·simp [hx]
 rw [hf] at hm6
 exact hm6
theorem JAt.addLoc (h:JAt lo w N st J lf) (k:Int × Int) (hk:okP k) (n:Int) :
  ∃ w6,(Instr.mapUpdate 106 (.map (some J.lb)) (kvP k) (.int .i64 n)).run Tryz.prog w=.ok () w6∧JAt lo w6 N st J (fun x=>if x=k then some n else lf x)∧Turn J.own w w6∧w6.heap.size=w.heap.size:=by
 obtain ⟨w6,hrun,hm6,hg6,hs6⟩:=h.loc.store keyP Tryz.underlying106 k hk n
 have nb:∀ i,i<w.heap.size→i≠J.lb→w6.heap[i]?=w.heap[i]?:=fun i hi h1=>hg6.block i hi (fun e=>h1 (Option.some.inj e))
 have ht:Turn J.own w w6:=⟨hg6.os,hg6.tape,hg6.output,by omega,fun i hi hno=>nb i hi (fun e=>hno (.inr (.inl e)))⟩
 exact ⟨w6,hrun,⟨(nb _ (box_lt h.box) h.d1.1).trans h.box,h.prs.turn (fun i hi hl=>nb i hl (fun e=>h.d2.2.1 (e ▸ hi))),hm6,h.use.of_block (nb _ h.use.lt (fun e=>h.d1.2.2 e.symm)),h.turnNet ht,h.sep,h.d1,h.d2,h.lo,fun i hi=>Nat.lt_of_lt_of_le (h.old i hi) ht.size⟩,ht,hs6⟩
end
/- Contracts of number and kindOf of package trip (layer 24). -/
theorem jNum_any {lo:Nat} {N:NetL} {st:TrS} {J:JL} (id part:Int) (w:World) (h:JAt lo w N st J (locF st.pairs)) (hi:InInt id) (hp:InInt part) :
  Calls Tryz.prog 145 #[.pointer (some ⟨J.jb,0,none⟩),.int .i64 id,.int .i64 part] w fun e w'=>e=.returned (.int .i64 (numP st.pairs id part))∧w=w':=by
 have hL:=h.lookL (id,part) ⟨hi,hp⟩
 have z25:=h.cell 25 (.map (some J.lb)) rfl
 have HQ:=hid (num_loc st.pairs id part)
 clear h
 unfold kvP at hL
 simp only at hL
 cases hq:locF st.pairs (id,part) with
 | none =>
  rw [hq] at HQ hL
  simp only at hL
  clear hq
  go_enter Tryz.func145,Tryz.ntmps145
  go_wp2_with fail
  go_ret
  exact ⟨by rw [HQ.out];rfl,rfl⟩
 | some n =>
  rw [hq] at HQ hL
  simp only at hL
  clear hq
  go_enter Tryz.func145,Tryz.ntmps145
  go_wp2_with fail
  go_ret
  exact ⟨by rw [HQ.out];rfl,rfl⟩
theorem jKind_any (n:Int) (w:World) (h0:0≤n) (h4:n≤4) :
  Calls Tryz.prog 144 #[.int .i64 n] w fun e w'=>e=.returned (.int .i64 n)∧Below w.heap.size w w':=by
 have hb:Below w.heap.size w (w.alloc (.cells #[.int .i64 0,.int .i64 1,.int .i64 2,.int .i64 3,.int .i64 4] 3)):=(Below.refl _ _).alloc (Nat.le_refl _) _
 have HB:=hid hb
 clear hb
 have hc:n=0∨n=1∨n=2∨n=3∨n=4:=by omega
 rcases hc with rfl | rfl | rfl | rfl | rfl
 all_goals
  go_enter Tryz.func144,Tryz.ntmps144
  go_wp2_with fail
  go_ret
  exact ⟨rfl,HB.out⟩
/- Contract of back of package trip (layer 24). -/
structure KB (w0 w:World) (b:Nat) (e:EvL) (x:ItL):Prop where
 e0:w.heap[b]?=some (.cells (e.ev.cs e.cA e.cc e.fA e.fc) 40 (0,0))
 x1:w.heap[b+1]?=some (.cells (x.it.cs x.fA x.fc) 46 (0,0))
 o2:w.heap[b+2]?=some (.cells zeroE 40 (0,0))
 hb:Below w0.heap.size w0 w
 ie:EvLOk w w.heap.size e
 ix:ItOk w w.heap.size x
theorem KB.now {w0 w w':World} {b:Nat} {e:EvL} {x:ItL} (h:KB w0 w b e x) (hb:Below w.heap.size w w'):KB w0 w' b e x :=
 ⟨(hb.block _ (box_lt h.e0)).trans h.e0,(hb.block _ (box_lt h.x1)).trans h.x1,(hb.block _ (box_lt h.o2)).trans h.o2,h.hb.trans (hb.mono h.hb.size),h.ie.now hb,h.ix.now hb⟩
theorem KB.start {w:World} {e:EvL} {x:ItL} (he:EvLOk w w.heap.size e) (hx:ItOk w w.heap.size x) :
  KB w (((w.alloc (.cells (e.ev.cs e.cA e.cc e.fA e.fc) 40)).alloc (.cells (x.it.cs x.fA x.fc) 46)).alloc (.cells zeroE 40)) w.heap.size e x:=by
 obtain ⟨w1,h1⟩:∃ x,x=w.alloc (.cells (e.ev.cs e.cA e.cc e.fA e.fc) 40):=⟨_,rfl⟩
 have b1:Below w.heap.size w w1:=by rw [h1];exact (Below.refl _ _).alloc (Nat.le_refl _) _
 have s1:w1.heap.size=w.heap.size+1:=by rw [h1];simp
 have g1:w1.heap[w.heap.size]?=some (.cells (e.ev.cs e.cA e.cc e.fA e.fc) 40 (0,0)):=by rw [h1];exact (MapKept.heap_alloc w _).1
 rw [← h1]
 clear h1
 obtain ⟨w2,h2⟩:∃ y,y=w1.alloc (.cells (x.it.cs x.fA x.fc) 46):=⟨_,rfl⟩
 have b2:Below w1.heap.size w1 w2:=by rw [h2];exact (Below.refl _ _).alloc (Nat.le_refl _) _
 have s2:w2.heap.size=w1.heap.size+1:=by rw [h2];simp
 have g2:w2.heap[w1.heap.size]?=some (.cells (x.it.cs x.fA x.fc) 46 (0,0)):=by rw [h2];exact (MapKept.heap_alloc w1 _).1
 rw [← h2]
 clear h2
 obtain ⟨w3,h3⟩:∃ y,y=w2.alloc (.cells zeroE 40):=⟨_,rfl⟩
 have b3:Below w2.heap.size w2 w3:=by rw [h3];exact (Below.refl _ _).alloc (Nat.le_refl _) _
 have g3:w3.heap[w2.heap.size]?=some (.cells zeroE 40 (0,0)):=by rw [h3];exact (MapKept.heap_alloc w2 _).1
 rw [← h3]
 clear h3
 rw [s1] at g2 s2
 rw [s2] at g3
 have hb:=(b1.trans (b2.mono (by omega))).trans (b3.mono (by omega))
 refine ⟨(b3.block _ (by omega)).trans ((b2.block _ (by omega)).trans g1),(b3.block _ (by omega)).trans g2,g3,hb,he.now hb,hx.now hb⟩
theorem there_row {w:World} {b:Nat} {cs:Array Value} {t:TypeId} (h:w.heap[b]?=some (.cells cs t (0,0))):w.there b 0 cs.size:=there_of_box h
theorem setCells_rowT {b:Nat} {t:TypeId}:∀ (vs:List Value) (o:Nat) (w:World) (cs:Array Value),w.heap[b]?=some (.cells cs t (0,0))→o+vs.length≤cs.size →
  (w.setCells b o vs).heap[b]?=some (.cells (cs.toList.take o++vs++cs.toList.drop (o+vs.length)).toArray t (0,0))
 | [],o,w,cs,h,_=>by
  rw [World.setCells,List.append_nil,List.length_nil,Nat.add_zero,List.take_append_drop]
  exact h
 | v::r,o,w,cs,h,hl=>by
  have h1:=heap_setCell_same w b o cs t v h
  have h2:=setCells_rowT r (o+1) _ _ h1 (by simp at hl ⊢;omega)
  rw [World.setCells]
  rw [h2]
  have e:((cs.setIfInBounds o v).toList.take (o+1)++r++(cs.setIfInBounds o v).toList.drop (o+1+r.length))=(cs.toList.take o++v::r++cs.toList.drop (o+(v::r).length)):=by
   simp only [Array.toList_setIfInBounds,List.length_cons]
   have hlt:o<cs.toList.length:=by simp at hl ⊢;omega
   rw [List.take_set,List.take_succ_eq_append_getElem hlt,List.drop_set_of_lt (by omega),show o+1+r.length=o+(r.length+1) by omega]
   rw [List.set_append_right _ _ (by simp;omega)]
   simp only [List.length_take,Nat.min_eq_left (Nat.le_of_lt hlt),Nat.sub_self,List.set_cons_zero,List.append_assoc,List.cons_append,List.nil_append]
  rw [e]
theorem setRow {w:World} {b:Nat} {cs vs:Array Value} {t:TypeId} (h:w.heap[b]?=some (.cells cs t (0,0))) (hs:vs.size=cs.size):(w.setCells b 0 vs.toList).heap[b]?=some (.cells vs t (0,0)):=by
 rw [setCells_rowT vs.toList 0 w cs h (by simp [hs])]
 have:cs.toList.drop cs.size=[]:=List.drop_of_length_le (by simp)
 simp [hs,this]
def zeroR:Array Value:=#[.int .i64 0,.int .i64 0,.int .i64 0,.int .i64 0,.int .i64 0,.int .i64 0,.int .i64 0,.int .i64 0,.string ByteArray.empty,.slice none 0 0]
theorem step_store_bx {P:Program} {w:World} {ops:Array Oper} {o:Oper} {a:Act} {K:Act→World→Prop} {Q:Exit→Act→World→Prop} {E:Prop} (hgd:o.guard=none) (ty:TypeId) (x y:Operand) (ho:o.op=.store ty x y)
  (b:Nat) (cells:Array Value) (hx:a.eval x=.pointer (some ⟨b,0,none⟩)) (hy:a.eval y=.agg cells)
  (ht:w.there b 0 cells.size) (hi:(P.info? ty).map (·.size)=some cells.size) (h1:cells.all (·.oneCell')=true)
  (h:K (a.put o.dst undef) (w.setCells b 0 cells.toList)):if Region.wanted o (yielded ops a.tmps)=true then Oper.wp P o a w K Q else E:=by
 have hw:Region.wanted o (yielded ops a.tmps)=true:=by simp [Region.wanted,hgd]
 rw [if_pos hw]
 exact wp_store_mid ty x y ho b 0 cells hx hy ht hi h1 h
theorem rawOne (r:RawM) (fA:Option Addr) (fc:Nat):(r.cs fA fc).all (·.oneCell')=true:=by simp [Value.oneCell']
theorem run_raw (ρ:Operand→Value) (o:Oper) (w:World) (a k g wh n:Int) (t:ByteArray) (fA:Option Addr) (fl fc:Nat)
  (ho:o.op=.build 48 #[(0,.tmp 17),(2,.tmp 20),(3,.tmp 22),(4,.const (.int .i64 (-1))),(5,.const (.int .i64 (-1))),(6,.tmp 24),(7,.tmp 26),(8,.tmp 28),(9,.tmp 30)])
  (hc:∀ v,ρ (.const v)=v) (h17:ρ (.tmp 17)=.int .i64 a) (h20:ρ (.tmp 20)=.int .i64 k) (h22:ρ (.tmp 22)=.int .i64 g) (h24:ρ (.tmp 24)=.int .i64 wh) (h26:ρ (.tmp 26)=.int .i64 n) (h28:ρ (.tmp 28)=.string t) (h30:ρ (.tmp 30)=.slice fA fl fc) :
  (execOp ρ o).run Tryz.prog w=.ok (.value (.agg #[.int .i64 a,.int .i64 0,.int .i64 k,.int .i64 g,.int .i64 (-1),.int .i64 (-1),.int .i64 wh,.int .i64 n,.string t,.slice fA fl fc])) w:=by
 unfold execOp
 simp only [ho]
 go_simp
def raw0 (e:EvM) (x:ItM):RawM:=⟨e.author,0,x.kind,e.group,-1,-1,x.who,x.n,bs x.text,x.files⟩
theorem jBack_any {lo:Nat} {N:NetL} {st:TrS} {J:JL} (e:EvL) (x:ItL) (w:World) (h:JAt lo w N st J (locF st.pairs)) (he:EvLOk w w.heap.size e) (hx:ItOk w w.heap.size x) (hk:0≤x.it.kind∧x.it.kind≤4)
  (hi:InInt x.it.on∧InInt x.it.onPart∧InInt x.it.quote) (hps:st.pairs.length≤100000) (hpc:N.p.types.length≤N.pc) (hxt:x.it.text.length≤10000) (hfl:x.it.files.length≤1000) :
  Calls Tryz.prog 88 #[.pointer (some ⟨J.jb,0,none⟩),e.v,x.v] w (BackOut N.p (st.pairs.map (onNet (netI e.ev.author))) (netI e.ev.author) (rawT st.pairs e.ev x.it) e.ev.step w):=by
 have HKb:=hid (KB.start he hx)
 have HJ:=hid (h.now HKb.out.hb)
 have HW:=hid (show Below w.heap.size w w from Below.refl _ _)
 clear h he hx
 go_enter Tryz.func88,Tryz.ntmps88
 go_upto_region 1 with fail
 change Code.wp _ _ _ _ (((w.alloc (.cells (e.ev.cs e.cA e.cc e.fA e.fc) 40)).alloc (.cells (x.it.cs x.fA x.fc) 46)).alloc (.cells zeroE 40))
 obtain ⟨b,hb⟩:∃ b,b=w.heap.size:=⟨_,rfl⟩
 rw [← hb] at HKb ⊢
 have HBq:=hid hb
 clear hb
 generalize ((w.alloc (.cells (e.ev.cs e.cA e.cc e.fA e.fc) 40)).alloc (.cells (x.it.cs x.fA x.fc) 46)).alloc (.cells zeroE 40)=wr at *
 have q0:=box_cell HKb.out.e0 0 (.int .i64 e.ev.author) rfl
 go_wp2_with (go_at_call 46;refine (evNet_any _ _).mono ?_;rintro e w' ⟨rfl,rfl⟩)
 obtain ⟨nt,hnt⟩:∃ n,netI e.ev.author=n:=⟨_,rfl⟩
 rw [hnt]
 have HNt:=hid hnt
 clear hnt q0
 go_upto_region 2 with fail
 go_cut [9] (fun v wx=>∃ br,v=.pointer (some ⟨br,0,none⟩)∧wr.heap.size≤br∧wx.heap[br]?=some (.cells ((raw0 e.ev x.it).cs x.fA x.fc) 48 (0,0))∧Below wr.heap.size wr wx)
 case first=>as_aux_lemma =>
  refine wp_region_J (S:=fun w'=>Below wr.heap.size wr w') (fun i=>[17].contains i) (by kernel_rfl) ((Below.refl _ _).drew) (fun hHeld=>?_)
  refine wpAnyJ_pure (i:=0) (v:=?_) rfl (by kernel_rfl) (by kernel_rfl) (by kernel_rfl) (fun _ _ _ h=>h) (Or.inl ⟨by rfl,?_⟩) ?_
  rotate_left
  ·intro wq _
   go_simp
   try with_reducible rfl
  simp only [Act.put,sA,sB,sC]
  refine wpAnyJ_take (i:=1) (v:=?_) rfl (by kernel_rfl) (by kernel_rfl) (by kernel_rfl) (by kernel_rfl) (fun _ _ _ h=>h) (Or.inl ⟨by rfl,?_⟩) hHeld ?_
  rotate_left
  ·intro wq hSq
   have hK2:=HKb.out.now hSq;have q0:=box_cell hK2.e0 0 (.int .i64 e.ev.author) rfl;have q4:=box_cell hK2.e0 4 (.int .i64 e.ev.group) rfl;have r3:=box_cell hK2.x1 3 (.int .i64 x.it.kind) rfl;have r7:=box_cell hK2.x1 7 (.int .i64 x.it.who) rfl;have r8:=box_cell hK2.x1 8 (.int .i64 x.it.n) rfl;have r9:=box_cell hK2.x1 9 (.string (bs x.it.text)) rfl;have r10:=box_cell hK2.x1 10 (.slice x.fA x.it.files.length x.fc) rfl
   go_simp
   try with_reducible rfl
  simp only [Act.put,sA,sB,sC]
  simp only [List.getElem_toArray,List.getElem_cons_zero,List.getElem_cons_succ,Act.put,List.setIfInBounds_toArray,List.set_cons_zero,List.set_cons_succ]
  refine wpAnyJ_pure (i:=2) (v:=?_) rfl (by kernel_rfl) (by kernel_rfl) (by kernel_rfl) (fun _ _ _ h=>h) (Or.inl ⟨by rfl,?_⟩) ?_
  rotate_left
  ·intro wq _
   go_simp
   try with_reducible rfl
  simp only [Act.put,sA,sB,sC]
  refine wpAnyJ_take (i:=3) (v:=?_) rfl (by kernel_rfl) (by kernel_rfl) (by kernel_rfl) (by kernel_rfl) (fun _ _ _ h=>h) (Or.inl ⟨by rfl,?_⟩) hHeld ?_
  rotate_left
  ·intro wq hSq
   have hK2:=HKb.out.now hSq;have q0:=box_cell hK2.e0 0 (.int .i64 e.ev.author) rfl;have q4:=box_cell hK2.e0 4 (.int .i64 e.ev.group) rfl;have r3:=box_cell hK2.x1 3 (.int .i64 x.it.kind) rfl;have r7:=box_cell hK2.x1 7 (.int .i64 x.it.who) rfl;have r8:=box_cell hK2.x1 8 (.int .i64 x.it.n) rfl;have r9:=box_cell hK2.x1 9 (.string (bs x.it.text)) rfl;have r10:=box_cell hK2.x1 10 (.slice x.fA x.it.files.length x.fc) rfl
   go_simp
   try with_reducible rfl
  simp only [Act.put,sA,sB,sC]
  simp only [List.getElem_toArray,List.getElem_cons_zero,List.getElem_cons_succ,Act.put,List.setIfInBounds_toArray,List.set_cons_zero,List.set_cons_succ]
  refine wpAnyJ_pure (i:=5) (v:=?_) rfl (by kernel_rfl) (by kernel_rfl) (by kernel_rfl) (fun _ _ _ h=>h) (Or.inl ⟨by rfl,?_⟩) ?_
  rotate_left
  ·intro wq _
   go_simp
   try with_reducible rfl
  simp only [Act.put,sA,sB,sC]
  refine wpAnyJ_take (i:=6) (v:=?_) rfl (by kernel_rfl) (by kernel_rfl) (by kernel_rfl) (by kernel_rfl) (fun _ _ _ h=>h) (Or.inl ⟨by rfl,?_⟩) hHeld ?_
  rotate_left
  ·intro wq hSq
   have hK2:=HKb.out.now hSq;have q0:=box_cell hK2.e0 0 (.int .i64 e.ev.author) rfl;have q4:=box_cell hK2.e0 4 (.int .i64 e.ev.group) rfl;have r3:=box_cell hK2.x1 3 (.int .i64 x.it.kind) rfl;have r7:=box_cell hK2.x1 7 (.int .i64 x.it.who) rfl;have r8:=box_cell hK2.x1 8 (.int .i64 x.it.n) rfl;have r9:=box_cell hK2.x1 9 (.string (bs x.it.text)) rfl;have r10:=box_cell hK2.x1 10 (.slice x.fA x.it.files.length x.fc) rfl
   go_simp
   try with_reducible rfl
  simp only [Act.put,sA,sB,sC]
  simp only [List.getElem_toArray,List.getElem_cons_zero,List.getElem_cons_succ,Act.put,List.setIfInBounds_toArray,List.set_cons_zero,List.set_cons_succ]
  refine wpAnyJ_pure (i:=7) (v:=?_) rfl (by kernel_rfl) (by kernel_rfl) (by kernel_rfl) (fun _ _ _ h=>h) (Or.inl ⟨by rfl,?_⟩) ?_
  rotate_left
  ·intro wq _
   go_simp
   try with_reducible rfl
  simp only [Act.put,sA,sB,sC]
  refine wpAnyJ_take (i:=8) (v:=?_) rfl (by kernel_rfl) (by kernel_rfl) (by kernel_rfl) (by kernel_rfl) (fun _ _ _ h=>h) (Or.inl ⟨by rfl,?_⟩) hHeld ?_
  rotate_left
  ·intro wq hSq
   have hK2:=HKb.out.now hSq;have q0:=box_cell hK2.e0 0 (.int .i64 e.ev.author) rfl;have q4:=box_cell hK2.e0 4 (.int .i64 e.ev.group) rfl;have r3:=box_cell hK2.x1 3 (.int .i64 x.it.kind) rfl;have r7:=box_cell hK2.x1 7 (.int .i64 x.it.who) rfl;have r8:=box_cell hK2.x1 8 (.int .i64 x.it.n) rfl;have r9:=box_cell hK2.x1 9 (.string (bs x.it.text)) rfl;have r10:=box_cell hK2.x1 10 (.slice x.fA x.it.files.length x.fc) rfl
   go_simp
   try with_reducible rfl
  simp only [Act.put,sA,sB,sC]
  simp only [List.getElem_toArray,List.getElem_cons_zero,List.getElem_cons_succ,Act.put,List.setIfInBounds_toArray,List.set_cons_zero,List.set_cons_succ]
  refine wpAnyJ_pure (i:=9) (v:=?_) rfl (by kernel_rfl) (by kernel_rfl) (by kernel_rfl) (fun _ _ _ h=>h) (Or.inl ⟨by rfl,?_⟩) ?_
  rotate_left
  ·intro wq _
   go_simp
   try with_reducible rfl
  simp only [Act.put,sA,sB,sC]
  refine wpAnyJ_take (i:=10) (v:=?_) rfl (by kernel_rfl) (by kernel_rfl) (by kernel_rfl) (by kernel_rfl) (fun _ _ _ h=>h) (Or.inl ⟨by rfl,?_⟩) hHeld ?_
  rotate_left
  ·intro wq hSq
   have hK2:=HKb.out.now hSq;have q0:=box_cell hK2.e0 0 (.int .i64 e.ev.author) rfl;have q4:=box_cell hK2.e0 4 (.int .i64 e.ev.group) rfl;have r3:=box_cell hK2.x1 3 (.int .i64 x.it.kind) rfl;have r7:=box_cell hK2.x1 7 (.int .i64 x.it.who) rfl;have r8:=box_cell hK2.x1 8 (.int .i64 x.it.n) rfl;have r9:=box_cell hK2.x1 9 (.string (bs x.it.text)) rfl;have r10:=box_cell hK2.x1 10 (.slice x.fA x.it.files.length x.fc) rfl
   go_simp
   try with_reducible rfl
  simp only [Act.put,sA,sB,sC]
  simp only [List.getElem_toArray,List.getElem_cons_zero,List.getElem_cons_succ,Act.put,List.setIfInBounds_toArray,List.set_cons_zero,List.set_cons_succ]
  refine wpAnyJ_pure (i:=11) (v:=?_) rfl (by kernel_rfl) (by kernel_rfl) (by kernel_rfl) (fun _ _ _ h=>h) (Or.inl ⟨by rfl,?_⟩) ?_
  rotate_left
  ·intro wq _
   go_simp
   try with_reducible rfl
  simp only [Act.put,sA,sB,sC]
  refine wpAnyJ_take (i:=12) (v:=?_) rfl (by kernel_rfl) (by kernel_rfl) (by kernel_rfl) (by kernel_rfl) (fun _ _ _ h=>h) (Or.inl ⟨by rfl,?_⟩) hHeld ?_
  rotate_left
  ·intro wq hSq
   have hK2:=HKb.out.now hSq;have q0:=box_cell hK2.e0 0 (.int .i64 e.ev.author) rfl;have q4:=box_cell hK2.e0 4 (.int .i64 e.ev.group) rfl;have r3:=box_cell hK2.x1 3 (.int .i64 x.it.kind) rfl;have r7:=box_cell hK2.x1 7 (.int .i64 x.it.who) rfl;have r8:=box_cell hK2.x1 8 (.int .i64 x.it.n) rfl;have r9:=box_cell hK2.x1 9 (.string (bs x.it.text)) rfl;have r10:=box_cell hK2.x1 10 (.slice x.fA x.it.files.length x.fc) rfl
   go_simp
   try with_reducible rfl
  simp only [Act.put,sA,sB,sC]
  simp only [List.getElem_toArray,List.getElem_cons_zero,List.getElem_cons_succ,Act.put,List.setIfInBounds_toArray,List.set_cons_zero,List.set_cons_succ]
  refine wpAnyJ_pure (i:=13) (v:=?_) rfl (by kernel_rfl) (by kernel_rfl) (by kernel_rfl) (fun _ _ _ h=>h) (Or.inl ⟨by rfl,?_⟩) ?_
  rotate_left
  ·intro wq _
   go_simp
   try with_reducible rfl
  simp only [Act.put,sA,sB,sC]
  refine wpAnyJ_take (i:=14) (v:=?_) rfl (by kernel_rfl) (by kernel_rfl) (by kernel_rfl) (by kernel_rfl) (fun _ _ _ h=>h) (Or.inl ⟨by rfl,?_⟩) hHeld ?_
  rotate_left
  ·intro wq hSq
   have hK2:=HKb.out.now hSq;have q0:=box_cell hK2.e0 0 (.int .i64 e.ev.author) rfl;have q4:=box_cell hK2.e0 4 (.int .i64 e.ev.group) rfl;have r3:=box_cell hK2.x1 3 (.int .i64 x.it.kind) rfl;have r7:=box_cell hK2.x1 7 (.int .i64 x.it.who) rfl;have r8:=box_cell hK2.x1 8 (.int .i64 x.it.n) rfl;have r9:=box_cell hK2.x1 9 (.string (bs x.it.text)) rfl;have r10:=box_cell hK2.x1 10 (.slice x.fA x.it.files.length x.fc) rfl
   go_simp
   try with_reducible rfl
  simp only [Act.put,sA,sB,sC]
  simp only [List.getElem_toArray,List.getElem_cons_zero,List.getElem_cons_succ,Act.put,List.setIfInBounds_toArray,List.set_cons_zero,List.set_cons_succ]
  refine wpAnyJ_two (i:=4) (j:=16) rfl rfl (by kernel_rfl) (fun K hK=>?_) (fun K hK=>?_)
  ·go_simp
   refine (jKind_any x.it.kind _ hk.1 hk.2).mono ?_
   rintro e4 w4 ⟨rfl,hb4⟩
   go_wp2_with fail
   refine hK.out _ _ (fun _ h=>h.trans (hb4.mono h.size)) ?_
   clear hK K
   try simp only [List.getElem_toArray,List.getElem_cons_zero,List.getElem_cons_succ,Act.put,List.setIfInBounds_toArray,List.set_cons_zero,List.set_cons_succ]
   refine wpAnyJ_pure (i:=15) (v:=(raw0 e.ev x.it).v x.fA x.fc) rfl (by kernel_rfl) (by kernel_rfl) (by kernel_rfl) (fun _ _ _ h=>h) (Or.inl ⟨by rfl,fun wq _=>run_raw _ _ wq _ _ _ _ _ _ _ _ _ rfl (fun _=>rfl) rfl rfl rfl rfl rfl rfl rfl⟩) ?_
   try simp only [List.getElem_toArray,List.getElem_cons_zero,List.getElem_cons_succ,Act.put,List.setIfInBounds_toArray,List.set_cons_zero,List.set_cons_succ]
   refine wpAnyJ_one (i:=16) rfl (by kernel_rfl) (fun K hK=>?_)
   go_simp
   refine hK.out _ _ (fun _ h=>h.alloc h.size _) ?_
   clear hK K
   try simp only [List.getElem_toArray,List.getElem_cons_zero,List.getElem_cons_succ,Act.put,List.setIfInBounds_toArray,List.set_cons_zero,List.set_cons_succ]
   have hza:(w4.alloc (.cells zeroR 48)).heap[w4.heap.size]?=some (.cells zeroR 48 (0,0)):=(MapKept.heap_alloc w4 _).1
   refine wpAnyJ_one (i:=17) rfl (by kernel_rfl) (fun K hK=>?_)
   refine step_store_bx rfl 48 _ _ rfl w4.heap.size ((raw0 e.ev x.it).cs x.fA x.fc) rfl rfl (by have hth:=there_row hza;exact hth) (by kernel_rfl) (rawOne _ _ _) ?_
   refine hK.out _ _ (fun h=>nomatch h) ?_
   clear hK K
   refine wpAnyJ_done (by kernel_rfl) ?_ _
   have hrow:=setRow (vs:=(raw0 e.ev x.it).cs x.fA x.fc) hza rfl
   have hBa:Below wr.heap.size wr (w4.alloc (.cells zeroR 48)):=((Below.refl wr.heap.size wr).drew.trans (hb4.mono (Nat.le_refl _))).alloc hb4.size _
   have hBs:=hBa.grown (grown_setCells _ w4.heap.size 0 ((raw0 e.ev x.it).cs x.fA x.fc).toList) hBa.size (fun k hk=>by injection hk with hk;have:=hb4.size;simp at this;omega)
   have hlo:wr.heap.size≤w4.heap.size:=by have:=hb4.size;simpa using this
   have HRw:=hid hrow
   have HBs:=hid hBs
   have HLo:=hid hlo
   clear hrow hBa hBs hlo hza hb4 hHeld HKb HJ
   go_wp2_with fail
   go_meet
   exact ⟨w4.heap.size,rfl,HLo.out,HRw.out,HBs.out⟩
  ·go_simp
   have hza:(wr.drew.alloc (.cells zeroR 48)).heap[wr.drew.heap.size]?=some (.cells zeroR 48 (0,0)):=(MapKept.heap_alloc wr.drew _).1
   refine hK.out _ _ (fun _ h=>h.alloc h.size _) ?_
   clear hK K
   refine wpAnyJ_one (i:=4) rfl (by kernel_rfl) (fun K hK=>?_)
   go_simp
   refine (jKind_any x.it.kind _ hk.1 hk.2).mono ?_
   rintro e4 w4 ⟨rfl,hb4⟩
   go_wp2_with fail
   refine hK.out _ _ (fun _ h=>h.trans (hb4.mono h.size)) ?_
   clear hK K
   try simp only [List.getElem_toArray,List.getElem_cons_zero,List.getElem_cons_succ,Act.put,List.setIfInBounds_toArray,List.set_cons_zero,List.set_cons_succ]
   refine wpAnyJ_pure (i:=15) (v:=(raw0 e.ev x.it).v x.fA x.fc) rfl (by kernel_rfl) (by kernel_rfl) (by kernel_rfl) (fun _ _ _ h=>h) (Or.inl ⟨by rfl,fun wq _=>run_raw _ _ wq _ _ _ _ _ _ _ _ _ rfl (fun _=>rfl) rfl rfl rfl rfl rfl rfl rfl⟩) ?_
   try simp only [List.getElem_toArray,List.getElem_cons_zero,List.getElem_cons_succ,Act.put,List.setIfInBounds_toArray,List.set_cons_zero,List.set_cons_succ]
   have hz4:w4.heap[wr.heap.size]?=some (.cells zeroR 48 (0,0)):=(hb4.block _ (by simp)).trans hza
   refine wpAnyJ_one (i:=17) rfl (by kernel_rfl) (fun K hK=>?_)
   refine step_store_bx rfl 48 _ _ rfl wr.heap.size ((raw0 e.ev x.it).cs x.fA x.fc) rfl rfl (by have hth:=there_row hz4;exact hth) (by kernel_rfl) (rawOne _ _ _) ?_
   refine hK.out _ _ (fun h=>nomatch h) ?_
   clear hK K
   refine wpAnyJ_done (by kernel_rfl) ?_ _
   have hrow:=setRow (vs:=(raw0 e.ev x.it).cs x.fA x.fc) hz4 rfl
   have hBa:Below wr.heap.size wr w4:=((Below.refl wr.heap.size wr).drew.alloc (Nat.le_refl _) (.cells zeroR 48)).trans (hb4.mono (by simp))
   have hBs:=hBa.grown (grown_setCells _ wr.heap.size 0 ((raw0 e.ev x.it).cs x.fA x.fc).toList) hBa.size (fun k hk=>by injection hk with hk;omega)
   have HRw:=hid hrow
   have HBs:=hid hBs
   clear hrow hBa hBs hza hz4 hb4 hHeld HKb HJ
   go_wp2_with fail
   go_meet
   exact ⟨wr.heap.size,rfl,Nat.le_refl _,HRw.out,HBs.out⟩
 case rest =>
  obtain ⟨br,rfl,hlo,hrow,hcb⟩:=hcut
  have HLo:=hid hlo
  obtain ⟨wB,hwB⟩:∃ y,y=wr:=⟨_,rfl⟩
  subst hwB
  have HB:=hid hcb
  have HRow:=hid hrow
  have HKB:=HKb
  have HJB:=HJ
  clear hcb hrow hlo HKb HJ HW
  obtain ⟨wr,hwr⟩:∃ y,y=wc:=⟨_,rfl⟩
  subst hwr
  have HK:=hid (HKB.out.now HB.out)
  have HJ:=hid (HJB.out.now HB.out)
  have HR1:Hid ((rawT st.pairs e.ev x.it).on=if x.it.on<0 then -1 else numP st.pairs x.it.on x.it.onPart):=hid rfl
  have HR2:Hid ((rawT st.pairs e.ev x.it).quote=if x.it.quote<0 then -1 else numP st.pairs x.it.quote 0):=hid rfl
  have r4:=box_cell HK.out.x1 4 (.int .i64 x.it.on) rfl
  go_upto_if 34 with fail
  go_cut [] (fun wx=>wx.heap[br]?=some (.cells ({raw0 e.ev x.it with on:=(rawT st.pairs e.ev x.it).on}.cs x.fA x.fc) 48 (0,0))∧Below wB.heap.size wB wx)
  case first=>as_aux_lemma =>
   have r5:=box_cell HK.out.x1 5 (.int .i64 x.it.onPart) rfl
   by_cases d0:x.it.on<0
   ·have d1:decide (0≤x.it.on)=false:=by simp;omega
    have HV:Hid (({raw0 e.ev x.it with on:=(rawT st.pairs e.ev x.it).on}:RawM)=raw0 e.ev x.it):=hid (by rw [HR1.out,if_pos d0];rfl)
    go_wp2_with fail
    go_meet
    exact ⟨by rw [HV.out];exact HRow.out,HB.out⟩
   ·have d1:decide (0≤x.it.on)=true:=by simp;omega
    have HV:Hid ((rawT st.pairs e.ev x.it).on=numP st.pairs x.it.on x.it.onPart):=hid (by rw [HR1.out,if_neg d0])
    have HC:=hid (jNum_any x.it.on x.it.onPart wr HJ.out hi.1 hi.2.1)
    generalize numP st.pairs x.it.on x.it.onPart=nn at *
    have z4:=box_cell HRow.out 4 (.int .i64 (-1)) rfl
    have fz:=fun q=>box_free HRow.out q
    go_wp2_with (go_at_call 145;refine HC.out.mono ?_;rintro e1 w1 ⟨rfl,rfl⟩)
    go_meet
    refine ⟨?_,HB.out.setCell (p:=⟨br,4,none⟩) HLo.out (.int .i64 nn)⟩
    have hs:=heap_setCell_same wr br 4 _ _ (.int .i64 nn) HRow.out
    rw [HV.out]
    exact hs
  case rest =>
   obtain ⟨hrow,hcb⟩:=hcut
   clear HK HJ HB HRow r4
   clear wr
   obtain ⟨wr,hwr⟩:∃ y,y=wc:=⟨_,rfl⟩
   subst hwr
   have HB:=hid hcb
   have HRow:=hid hrow
   have HK:=hid (HKB.out.now HB.out)
   have HJ:=hid (HJB.out.now HB.out)
   clear hrow hcb HR1
   obtain ⟨onv,hon⟩:∃ y,(rawT st.pairs e.ev x.it).on=y:=⟨_,rfl⟩
   rw [hon] at HRow
   have HOn:=hid hon
   clear hon
   have r6:=box_cell HK.out.x1 6 (.int .i64 x.it.quote) rfl
   go_upto_if 44 with fail
   go_cut [] (fun wx=>wx.heap[br]?=some (.cells ({raw0 e.ev x.it with on:=onv,quote:=(rawT st.pairs e.ev x.it).quote}.cs x.fA x.fc) 48 (0,0))∧Below wB.heap.size wB wx)
   case first=>as_aux_lemma =>
    by_cases d0:x.it.quote<0
    ·have d1:decide (0≤x.it.quote)=false:=by simp;omega
     have HV:Hid (({raw0 e.ev x.it with on:=onv,quote:=(rawT st.pairs e.ev x.it).quote}:RawM)={raw0 e.ev x.it with on:=onv}):=hid (by rw [HR2.out,if_pos d0];rfl)
     go_wp2_with fail
     go_meet
     exact ⟨by rw [HV.out];exact HRow.out,HB.out⟩
    ·have d1:decide (0≤x.it.quote)=true:=by simp;omega
     have HV:Hid ((rawT st.pairs e.ev x.it).quote=numP st.pairs x.it.quote 0):=hid (by rw [HR2.out,if_neg d0])
     have HC:=hid (jNum_any x.it.quote 0 wr HJ.out hi.2.2 ⟨by omega,by omega⟩)
     generalize numP st.pairs x.it.quote 0=nn at *
     have z5:=box_cell HRow.out 5 (.int .i64 (-1)) rfl
     have fz:=fun q=>box_free HRow.out q
     go_wp2_with (go_at_call 145;refine HC.out.mono ?_;rintro e1 w1 ⟨rfl,rfl⟩)
     go_meet
     refine ⟨?_,HB.out.setCell (p:=⟨br,5,none⟩) HLo.out (.int .i64 nn)⟩
     have hs:=heap_setCell_same wr br 5 _ _ (.int .i64 nn) HRow.out
     rw [HV.out]
     exact hs
   case rest =>
    obtain ⟨hrow,hcb⟩:=hcut
    clear HK HJ HB HRow r6
    clear wr
    obtain ⟨wr,hwr⟩:∃ y,y=wc:=⟨_,rfl⟩
    subst hwr
    have HB:=hid hcb
    have HRow:=hid hrow
    have HJ:=hid (HJB.out.now HB.out)
    clear hrow hcb HR2
    obtain ⟨quv,hqu⟩:∃ y,(rawT st.pairs e.ev x.it).quote=y:=⟨_,rfl⟩
    rw [hqu] at HRow
    have HRaw:Hid (rawT st.pairs e.ev x.it={raw0 e.ev x.it with on:=onv,quote:=quv}):=hid (by rw [← HOn.out,← hqu];rfl)
    clear hqu HOn
    obtain ⟨qA,hqA⟩:∃ a,a=J.qA:=⟨_,rfl⟩
    obtain ⟨ps,hps2⟩:∃ a,a=st.pairs:=⟨_,rfl⟩
    have HPs:=hid hps2
    have z24:=HJ.out.cell 24 (.slice J.qA st.pairs.length J.qc) rfl
    have hrp:=HJ.out.prs.rd layP
    rw [← hqA,← hps2] at z24
    rw [← hqA,← hps2] at hrp
    rw [← hps2] at hps
    have HRp:=hid hrp
    clear hrp hqA hps2
    go_upto_region 8 with fail
    obtain ⟨wL,hwL⟩:∃ y,y=wr:=⟨_,rfl⟩
    subst hwL
    go_wp2_with fail
    clear z24
    go_loopw [10,12,55] (fun o _ i wx=>∃ (k:Nat) (A:Option Addr) (c:Nat),k≤ps.length∧i=.int .i64 k∧o=.slice A k c∧OwnL wx wL.heap.size 56 4 Pair.cells A c ((ps.take k).map (onNet nt))∧Below wL.heap.size wL wx) (fun _ _ i _=>ps.length - (intOf i).toNat)
    case atStart=>exact ⟨0,none,0,Nat.zero_le _,rfl,rfl,OwnL.nil_,Below.refl _ _⟩
    case round =>
     obtain ⟨k,A,c,hk3,rfl,rfl,hown,hbw⟩:=hrel
     have HO:=hid hown
     have HBw:=hid hbw
     have HR:=hid (HRp.out.now hbw)
     clear hown hbw
     by_cases hlt:k<ps.length
     ·have HTk:Hid ((ps.take (k+1)).map (onNet nt)=(ps.take k).map (onNet nt)++[onNet nt ps[k]]):=hid (by rw [List.take_succ_eq_append_getElem hlt,List.map_append];rfl)
      have HLk:Hid (((ps.take k).map (onNet nt)).length=k):=hid (by rw [List.length_map,List.length_take];omega)
      obtain ⟨g,off,rfl,hg,hcc⟩:=HR.out.at_ hlt
      have HRg:Hid (wr.rangeAt g (off+k * 4) ps[k].cells):=hid (fun j v hj=>hcc j v hj)
      clear hcc
      generalize (ps.take k).map (onNet nt)=out at *
      generalize ps[k]=p at *
      obtain rfl:k=out.length:=HLk.out.symm
      go_upto_region 11 with (first
       | ((with_reducible show wpList _ _ _ (Oper.mk _ (Op.load 56 _) _ _ _ _::_) _ _);refine wpList_load_g rfl 56 _ rfl g (off+out.length * 4) rfl [.int .i64 p.net,.int .i64 p.loc,.int .i64 p.ev,.int .i64 p.part] _ HRg.out Tryz.underlying56 rfl (by kernel_rfl) ?_)
       | fail)
      go_upto_region 12 with fail
      change Code.wp _ _ _ _ (wr.alloc (.cells #[.int .i64 nt,.int .i64 p.loc,.int .i64 p.ev,.int .i64 p.part] 56))
      have hb1:Below wr.heap.size wr (wr.alloc (.cells #[.int .i64 nt,.int .i64 p.loc,.int .i64 p.ev,.int .i64 p.part] 56)):=(Below.refl _ _).alloc (Nat.le_refl _) _
      have hr1:(wr.alloc (.cells #[.int .i64 nt,.int .i64 p.loc,.int .i64 p.ev,.int .i64 p.part] 56)).rangeAt wr.heap.size 0 [.int .i64 nt,.int .i64 p.loc,.int .i64 p.ev,.int .i64 p.part]:=range_block (MapKept.heap_alloc wr _).1 rfl
      have HO1:=hid (HO.out.below hb1)
      have HB1:=hid (HBw.out.trans (hb1.mono HBw.out.size))
      have HR1:=hid hr1
      clear hb1 hr1
      generalize wr.alloc (.cells #[.int .i64 nt,.int .i64 p.loc,.int .i64 p.ev,.int .i64 p.part] 56)=w1 at *
      go_wp2_with (first
       | ((with_reducible show wpList _ _ _ (Oper.mk _ (Op.load 56 _) _ _ _ _::_) _ _);refine wpList_load_g rfl 56 _ rfl wr.heap.size 0 rfl [.int .i64 nt,.int .i64 p.loc,.int .i64 p.ev,.int .i64 p.part] _ HR1.out Tryz.underlying56 rfl (by kernel_rfl) ?_)
       | (at_builtin;refine wp_append_l rfl (.tmp 61) (.tmp 63) rfl slP layP wL.heap.size (xs:=out) (ys:=[onNet nt p]) rfl rfl (HO1.out.alloc _) rfl rfl (RdL.one w1 (onNet nt p) _ _ rfl _ rfl) (by simp;omega) (by have:=HB1.out.size;simp;omega) ?_;intro A3 c3 w6 hown hg hb2 hat;have HO3:=hid hown;have HB3:=hid (((Below.refl wL.heap.size w1).alloc HB1.out.size _).trans hb2);clear hown hg hb2 hat)
       | fail)
      go_roundw
      case rel=>exact ⟨out.length+1,A3,c3,by omega,by go_num,by simp,by rw [HTk.out];exact HO3.out,HB1.out.trans HB3.out⟩
      case measure=>simp [intOf];omega
     ·have hke:k=ps.length:=by omega
      have d1:decide (k<ps.length)=false:=decide_eq_false (by omega)
      have HKe:=hid hke
      clear hke hlt
      go_upto_region 14 with fail
      have HBt:=hid (HB.out.trans (HBw.out.mono HB.out.size))
      have HK:=hid (HKB.out.now HBt.out)
      have HJ:=hid (HJB.out.now HBt.out)
      have HRow2:Hid (wr.heap[br]?=some (.cells ({raw0 e.ev x.it with on:=onv,quote:=quv}.cs x.fA x.fc) 48 (0,0))):=hid ((HBw.out.block br (box_lt HRow.out)).trans HRow.out)
      have HSP:Hid (∀ wq,Below wr.heap.size wr wq→wq.rangeAt J.jb 0 (N.p.cs N.pA N.pc).toList):=hid (fun wq hq=>(HJ.out.now hq).prof)
      have HSR:Hid (∀ wq,Below wr.heap.size wr wq→wq.rangeAt br 0 ({raw0 e.ev x.it with on:=onv,quote:=quv}.cs x.fA x.fc).toList):=hid (fun wq hq=>range_block ((hq.block br (box_lt HRow2.out)).trans HRow2.out) rfl)
      refine wp_region_J (S:=fun w'=>Below wr.heap.size wr w') (fun i=>[12].contains i) (by kernel_rfl) ((Below.refl _ _).drew) (fun hHeld=>?_)
      refine wpAnyJ_pure (i:=0) (v:=?_) rfl (by kernel_rfl) (by kernel_rfl) (by kernel_rfl) (fun _ _ _ h=>h) (Or.inl ⟨by rfl,?_⟩) ?_
      rotate_left
      ·intro wq _
       go_simp
       try with_reducible rfl
      simp only [Act.put,sA,sB,sC]
      refine wpAnyJ_pure (i:=1) (v:=?_) rfl (by kernel_rfl) (by kernel_rfl) (by kernel_rfl) (fun _ _ _ h=>h) (Or.inl ⟨by rfl,?_⟩) ?_
      rotate_left
      ·intro wq _
       go_simp
       try with_reducible rfl
      simp only [Act.put,sA,sB,sC]
      refine wpAnyJ_pure (i:=2) (v:=?_) rfl (by kernel_rfl) (by kernel_rfl) (by kernel_rfl) (fun _ _ _ h=>h) (Or.inl ⟨by rfl,?_⟩) ?_
      rotate_left
      ·intro wq _
       go_simp
       try with_reducible rfl
      simp only [Act.put,sA,sB,sC]
      try simp only [List.getElem_toArray,List.getElem_cons_zero,List.getElem_cons_succ,Act.put,List.setIfInBounds_toArray,List.set_cons_zero,List.set_cons_succ]
      refine' wpAnyJ_take (i:=3) rfl (by kernel_rfl) (by kernel_rfl) (by kernel_rfl) (by kernel_rfl) (fun _ _ _ h=>h) (yieldsIf_load_mid (by rfl) _ _ rfl _ _ rfl _ _ HSP.out Tryz.underlying24 rfl (by kernel_rfl)) hHeld ?_
      try simp only [List.getElem_toArray,List.getElem_cons_zero,List.getElem_cons_succ,Act.put,List.setIfInBounds_toArray,List.set_cons_zero,List.set_cons_succ]
      refine wpAnyJ_pure (i:=4) (v:=?_) rfl (by kernel_rfl) (by kernel_rfl) (by kernel_rfl) (fun _ _ _ h=>h) (Or.inl ⟨by rfl,?_⟩) ?_
      rotate_left
      ·intro wq _
       go_simp
       try with_reducible rfl
      simp only [Act.put,sA,sB,sC]
      refine wpAnyJ_pure (i:=5) (v:=?_) rfl (by kernel_rfl) (by kernel_rfl) (by kernel_rfl) (fun _ _ _ h=>h) (Or.inl ⟨by rfl,?_⟩) ?_
      rotate_left
      ·intro wq _
       go_simp
       try with_reducible rfl
      simp only [Act.put,sA,sB,sC]
      try simp only [List.getElem_toArray,List.getElem_cons_zero,List.getElem_cons_succ,Act.put,List.setIfInBounds_toArray,List.set_cons_zero,List.set_cons_succ]
      refine' wpAnyJ_take (i:=6) rfl (by kernel_rfl) (by kernel_rfl) (by kernel_rfl) (by kernel_rfl) (fun _ _ _ h=>h) (yieldsIf_load_mid (by rfl) _ _ rfl _ _ rfl _ _ HSR.out Tryz.underlying48 rfl (by kernel_rfl)) hHeld ?_
      try simp only [List.getElem_toArray,List.getElem_cons_zero,List.getElem_cons_succ,Act.put,List.setIfInBounds_toArray,List.set_cons_zero,List.set_cons_succ]
      refine wpAnyJ_pure (i:=7) (v:=?_) rfl (by kernel_rfl) (by kernel_rfl) (by kernel_rfl) (fun _ _ _ h=>h) (Or.inl ⟨by rfl,?_⟩) ?_
      rotate_left
      ·intro wq _
       go_simp
       try with_reducible rfl
      simp only [Act.put,sA,sB,sC]
      refine wpAnyJ_take (i:=8) (v:=?_) rfl (by kernel_rfl) (by kernel_rfl) (by kernel_rfl) (by kernel_rfl) (fun _ _ _ h=>h) (Or.inl ⟨by rfl,?_⟩) hHeld ?_
      rotate_left
      ·intro wq hSq
       have q11:=box_cell (HK.out.now hSq).e0 11 (.int .i64 e.ev.step) rfl
       go_simp
       try with_reducible rfl
      simp only [Act.put,sA,sB,sC]
      try simp only [List.getElem_toArray,List.getElem_cons_zero,List.getElem_cons_succ,Act.put,List.setIfInBounds_toArray,List.set_cons_zero,List.set_cons_succ]
      refine wpAnyJ_one (i:=9) rfl (by kernel_rfl) (fun K hK=>?_)
      go_simp
      have HJd:=hid (HJ.out.now (Below.refl wr.heap.size wr).drew)
      have HKd:=hid (HK.out.now (Below.refl wr.heap.size wr).drew)
      have hxl:((ps.take k).map (onNet nt))=ps.map (onNet nt):=by rw [HKe.out,List.take_length]
      have hpr:=HO.out.rd layP
      rw [hxl] at hpr
      have HPr:=hid hpr
      clear hxl hpr
      refine (bBack_any N.p N.pA N.pc (ps.map (onNet nt)) A k c nt {raw0 e.ev x.it with on:=onv,quote:=quv} x.fA x.fc e.ev.step wr.drew (by rw [List.length_map];exact HKe.out) HJd.out.net.pf hpc (HPr.out.now (Below.refl wr.heap.size wr).drew) (by rw [List.length_map];omega) ⟨HKd.out.ix.fi,by show x.it.files.length≤_;omega,by show (bs x.it.text).size≤_;rw [bs_size];omega⟩ HKd.out.ix.cap).mono ?_
      rintro e5 w5 ⟨hb5,fA5,fc5,rfl,hf5,hc5,hl5⟩
      rw [← HRaw.out] at hf5 hc5 ⊢
      obtain ⟨bk,hbk0⟩:∃ y,y=backS N.p (ps.map (onNet nt)) nt (rawT st.pairs e.ev x.it) e.ev.step:=⟨_,rfl⟩
      rw [← hbk0] at hf5 hc5 ⊢
      have HBk:=hid hbk0
      clear hbk0
      have HB5:=hid hb5
      have HF5:=hid hf5
      have HC5:=hid hc5
      have HL5:=hid hl5
      clear hf5 hc5 hl5
      go_wp2_with fail
      refine hK.out _ _ (fun _ h=>h.trans (hb5.mono h.size)) ?_
      clear hK K
      clear hb5
      try simp only [List.getElem_toArray,List.getElem_cons_zero,List.getElem_cons_succ,Act.put,List.setIfInBounds_toArray,List.set_cons_zero,List.set_cons_succ]
      refine wpAnyJ_pure (i:=10) (v:=?_) rfl (by kernel_rfl) (by kernel_rfl) (by kernel_rfl) (fun _ _ _ h=>h) (Or.inl ⟨by rfl,?_⟩) ?_
      rotate_left
      ·intro wq _
       go_simp
       try with_reducible rfl
      simp only [Act.put,sA,sB,sC]
      refine wpAnyJ_pure (i:=11) (v:=?_) rfl (by kernel_rfl) (by kernel_rfl) (by kernel_rfl) (fun _ _ _ h=>h) (Or.inl ⟨by rfl,?_⟩) ?_
      rotate_left
      ·intro wq _
       go_simp
       try with_reducible rfl
      simp only [Act.put,sA,sB,sC]
      try simp only [List.getElem_toArray,List.getElem_cons_zero,List.getElem_cons_succ,Act.put,List.setIfInBounds_toArray,List.set_cons_zero,List.set_cons_succ]
      refine wpAnyJ_one (i:=12) rfl (by kernel_rfl) (fun K hK=>?_)
      have ho2:=(HKd.out.now HB5.out).o2
      refine step_store_bx rfl 40 _ _ rfl (b+1+1) (bk.1.cs none 0 fA5 fc5) rfl rfl (by have hth:=there_row ho2;exact hth) (by kernel_rfl) (by simp [Value.oneCell']) ?_
      have hrow:=setRow (vs:=bk.1.cs none 0 fA5 fc5) ho2 rfl
      have hgr:=grown_setCells w5 (b+1+1) 0 (bk.1.cs none 0 fA5 fc5).toList
      obtain ⟨wS,hwS⟩:∃ y,y=w5.setCells (b+1+1) 0 (bk.1.cs none 0 fA5 fc5).toList:=⟨_,rfl⟩
      rw [← hwS]
      refine hK.out _ _ (fun h=>nomatch h) ?_
      clear hK K
      refine wpAnyJ_pure (i:=13) (v:=?_) rfl (by kernel_rfl) (by kernel_rfl) (by kernel_rfl) (fun _ _ _ h=>h) (Or.inl ⟨by rfl,?_⟩) ?_
      rotate_left
      ·intro wq _
       go_simp
       try with_reducible rfl
      simp only [Act.put,sA,sB,sC]
      refine wpAnyJ_done (by kernel_rfl) ?_ _
      try simp only [List.getElem_toArray,List.getElem_cons_zero,List.getElem_cons_succ,Act.put,List.setIfInBounds_toArray,List.set_cons_zero,List.set_cons_succ]
      rw [← hwS] at hrow hgr
      have hsz5:wr.heap.size≤w5.heap.size:=by have:=HB5.out.size;simpa using this
      have hbk:b+2<wr.heap.size:=box_lt HK.out.o2
      have HBf:=hid (HK.out.hb.trans (((Below.refl wr.heap.size wr).drew.trans (HB5.out.mono (Nat.le_refl _))).mono HK.out.hb.size))
      have HBS:=hid (HBf.out.grown hgr HBf.out.size (fun j hj=>by injection hj with hj;have:=HBq.out;omega))
      have HRow3:=hid (range_block hrow rfl)
      have HF6:=hid (HF5.out.turn (w':=wS) (fun i hi hl=>hgr.block i hl (fun he=>by have h1:=HL5.out i hi;have h2:=Option.some.inj he;simp at h1;omega)) hgr.size)
      have HL6:Hid (∀ j,slBlk fA5=some j→w.heap.size≤j):=hid (fun j hj=>by have h1:=HL5.out j hj;have h2:=HBq.out;simp at h1;omega)
      clear hwS hrow hgr hsz5 hbk ho2 hHeld
      go_wp2_with fail
      refine ret_box2 6 7 40 rfl (b+1+1) (bk.1.cs none 0 fA5 fc5).toList _ (.int .i64 bk.2) rfl rfl HRow3.out Tryz.underlying40 rfl (by kernel_rfl) rfl ?_
      have hE:backS N.p (st.pairs.map (onNet (netI e.ev.author))) (netI e.ev.author) (rawT st.pairs e.ev x.it) e.ev.step=bk:=by
       rw [show st.pairs.map (onNet (netI e.ev.author))=ps.map (onNet nt) by rw [HNt.out,← HPs.out],HNt.out]
       exact HBk.out.symm
      unfold BackOut
      rw [hE]
      exact ⟨HBS.out,fA5,fc5,rfl,HF6.out,HC5.out,HL6.out⟩
end Go.Proofs.YtlnnjdibkbabiaaGreatDoor
