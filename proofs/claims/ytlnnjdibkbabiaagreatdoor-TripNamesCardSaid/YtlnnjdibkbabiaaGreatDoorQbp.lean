/- Contracts and plain laws, joined: TjD, TjE. -/
import Derived.Test.YtlnnjdibkbabiaaGreatDoorQbo
import Derived.Test.YtlnnjdibkbabiaaGreatDoorQbd
import Derived.Test.YtlnnjdibkbabiaaGreatDoorQbh
/- Contract of note of package trip (layer 24). -/
set_option linter.unusedSimpArgs false
set_option linter.unusedVariables false
namespace Go.Proofs.YtlnnjdibkbabiaaGreatDoor
open _root_.Go.Lib (hid)
open Go.RowKit
set_option maxRecDepth 100000
theorem Turn.keeps {F:Nat→Prop} {w w':World} (t:Turn F w w') {b:Nat} {o:Obj} (h:w.heap[b]?=some o) (hf:¬ F b):w'.heap[b]?=some o:=(t.block b (box_lt h) hf).trans h
def boolC (y:Int × Bool):List Value:=[.int .i64 y.1,.bool y.2]
def uses8 (pn nf:Nat) (e m:EvM):List (Int × Bool) :=
 [(1,decide ((1:Int)<pn)),(2,e.kind==1),(3,e.kind==2),(4,(e.kind==3) || (e.kind==4)),(5,(m.kind==0) && !(m.target==-1)),(6,(m.kind==0) && !(m.quote==-1)),(7,(m.kind==0) && !(m.who==-1)),(8,((e.kind==0) || (e.kind==1)) && decide (0<nf))]
theorem layBool:Lay 2 boolC:=⟨fun _=>rfl,fun x u hu=>by simp only [boolC,List.mem_cons,List.not_mem_nil,or_false] at hu;rcases hu with rfl | rfl <;> rfl⟩
theorem rd_bools {w:World} {g:Nat} {ty:TypeId} {L:List (Int × Bool)} (h:w.heap[g]?=some (.cells (L.flatMap boolC).toArray ty (0,0))):RdL 2 boolC w w.heap.size (some ⟨g,0,none⟩) L:=fun k x hx=>by
 refine ⟨g,0,rfl,box_lt h,fun j v hj=>?_⟩
 have hg:=flat_get layBool L k j x v hx hj
 rw [Nat.zero_add]
 exact box_cell h _ _ (by simpa using hg)
theorem used_uses8 {p:Prof} {E:List EvM} {e m:EvM} {items:List ItM} {pn:Nat} (hp:pn=postsN items) (hm:m=ofE E e) (c:Int) :
  usedB p E e items c=((c==1 && textLong p items) || (uses8 pn e.files.length e m).any (fun y=>y.1==c && y.2)):=by
 subst hp hm
 unfold usedB uses8
 by_cases h1:c=1
 ·subst h1;simp;cases textLong p items <;> simp <;> omega
 by_cases h2:c=2
 ·subst h2;simp
 by_cases h3:c=3
 ·subst h3;simp
 by_cases h4:c=4
 ·subst h4;simp
 by_cases h5:c=5
 ·subst h5;simp
 by_cases h6:c=6
 ·subst h6;simp
 by_cases h7:c=7
 ·subst h7;simp
 by_cases h8:c=8
 ·subst h8;simp
 ·rw [if_neg h1,if_neg h2,if_neg h3,if_neg h4,if_neg h5,if_neg h6,if_neg h7,if_neg h8]
  have e1:((1:Int)==c)=false:=by simp;omega
  have e2:((2:Int)==c)=false:=by simp;omega
  have e3:((3:Int)==c)=false:=by simp;omega
  have e4:((4:Int)==c)=false:=by simp;omega
  have e5:((5:Int)==c)=false:=by simp;omega
  have e6:((6:Int)==c)=false:=by simp;omega
  have e7:((7:Int)==c)=false:=by simp;omega
  have e8:((8:Int)==c)=false:=by simp;omega
  have e0:(c==1)=false:=by simp;omega
  simp [e0,e1,e2,e3,e4,e5,e6,e7,e8]
theorem RdL.turnN {T:Type} {sz:Nat} {enc:T→List Value} {w w':World} {A:Option Addr} {xs:List T} (h:RdL sz enc w w.heap.size A xs) (hb:xs≠[]→∀ i,slBlk A=some i→i<w.heap.size→w'.heap[i]?=w.heap[i]?) (hs:w.heap.size≤w'.heap.size):RdL sz enc w' w'.heap.size A xs:=by
 by_cases hx:xs=[]
 ·rw [hx]
  exact RdL.nil_
 ·exact h.turn (fun i hi hl=>hb hx i hi hl) hs
theorem long_take (p:Prof) (L:List ItM) (k:Nat) (hk:k<L.length):textLong p (L.take (k+1))=(textLong p (L.take k) || decide (p.size≤L[k].text.length)):=by
 unfold textLong
 rw [List.take_succ_eq_append_getElem hk,List.any_append]
 simp
theorem posts_take (L:List ItM) (k:Nat) (hk:k<L.length):postsN (L.take (k+1))=postsN (L.take k)+(if isPost L[k]=true then 1 else 0):=by
 unfold postsN
 rw [List.take_succ_eq_append_getElem hk,List.filter_append,List.length_append]
 congr 1
 by_cases h:isPost L[k]=true <;> simp [h]
theorem cell_of_block {w w':World} {i:Nat} (h:w'.heap[i]?=w.heap[i]?) (o:Nat):w'.cell? ⟨i,o,none⟩=w.cell? ⟨i,o,none⟩:=by
 unfold World.cell?
 simp only [h]
structure MB (w:World) (b:Nat) (e:EvL) (m:EvL):Prop where
 e0:w.heap[b]?=some (.cells (e.ev.cs e.cA e.cc e.fA e.fc) 40 (0,0))
 m1:w.heap[b+1]?=some (.cells (m.ev.cs m.cA m.cc m.fA m.fc) 40 (0,0))
set_option maxHeartbeats 4000000 in
theorem jNote_any {lo:Nat} {N:NetL} {st:TrS} {J:JL} {lf:Int × Int→Option Int} (e:EvL) (xs:List ItL) (A:Option Addr) (n c:Nat) (w:World) (h:JAt lo w N st J lf) (hn:n=xs.length) (hr:RdL 11 ItL.cs w w.heap.size A xs) (hsep:∀ i,slBlk A=some i→¬ J.own i)
  (hxl:xs.length≤1000) (hke:e.ev.kind=1→0≤e.ev.target∧e.ev.target<N.E.length) :
  Calls Tryz.prog 87 #[.pointer (some ⟨J.jb,0,none⟩),e.v,.slice A n c] w fun en w'=>en=.returned (.tuple #[])∧JAt lo w' N ⟨st.pairs,fun c=>st.uses c || usedB N.p (evsL N.E) e.ev (itsL xs) c⟩ J lf∧Turn J.own w w':=by
 subst hn
 have hb0:Below w.heap.size w (w.alloc (.cells (e.ev.cs e.cA e.cc e.fA e.fc) 40)):=(Below.refl _ _).alloc (Nat.le_refl _) _
 have hbx:(w.alloc (.cells (e.ev.cs e.cA e.cc e.fA e.fc) 40)).heap[w.heap.size]?=some (.cells (e.ev.cs e.cA e.cc e.fA e.fc) 40 (0,0)):=(MapKept.heap_alloc w _).1
 have hlt:=h.lt
 have HN0:=hid h.net
 have HAl:Hid (xs≠[]→∀ i,slBlk A=some i→i<w.heap.size):=hid (fun hx i hi=>by
  have h0:0<xs.length:=List.length_pos_iff.2 hx
  obtain ⟨g,off,hA,hg,_⟩:=hr.at_ h0
  rw [hA] at hi
  have:g=i:=Option.some.inj hi
  omega)
 have HOl:=hid h.old
 have HLt:=hid hlt
 have HJ:=hid (h.now hb0)
 have HT:=hid (show Turn J.own w (w.alloc (.cells (e.ev.cs e.cA e.cc e.fA e.fc) 40)) from Turn.below hb0)
 have HR:=hid (hr.now hb0)
 have HBx:=hid hbx
 have hs1:(w.alloc (.cells (e.ev.cs e.cA e.cc e.fA e.fc) 40)).heap.size=w.heap.size+1:=by simp
 have HS1:=hid hs1
 clear hb0 hbx h hr hlt hs1
 go_enter Tryz.func87,Tryz.ntmps87
 go_upto_region 1 with fail
 obtain ⟨b,hb⟩:∃ b,b=w.heap.size:=⟨_,rfl⟩
 rw [← hb] at HBx HS1 ⊢
 have HBq:=hid hb
 clear hb
 generalize w.alloc (.cells (e.ev.cs e.cA e.cc e.fA e.fc) 40)=wr at *
 go_cut [6,7] (fun p v wx=>p=.int .i64 0∧v=.pointer (some ⟨b+1,0,none⟩)∧MB wx b e e∧Below wr.heap.size wr wx)
 case first=>as_aux_lemma =>
  have HSE:Hid (∀ wq,Below wr.heap.size wr wq→wq.rangeAt b 0 (e.ev.cs e.cA e.cc e.fA e.fc).toList):=hid (fun wq hq=>range_block ((hq.block b (box_lt HBx.out)).trans HBx.out) rfl)
  refine wp_region_J (S:=fun w'=>Below wr.heap.size wr w') (fun i=>[3].contains i) (by kernel_rfl) ((Below.refl _ _).drew) (fun hHeld=>?_)
  refine' wpAnyJ_take (i:=0) rfl (by kernel_rfl) (by kernel_rfl) (by kernel_rfl) (by kernel_rfl) (fun _ _ _ h=>h) (yieldsIf_load_mid (by rfl) _ _ rfl _ _ rfl _ _ HSE.out Tryz.underlying40 rfl (by kernel_rfl)) hHeld ?_
  try simp only [List.getElem_toArray,List.getElem_cons_zero,List.getElem_cons_succ,Act.put,List.setIfInBounds_toArray,List.set_cons_zero,List.set_cons_succ]
  refine wpAnyJ_one (i:=1) rfl (by kernel_rfl) (fun K hK=>?_)
  go_simp
  have hza:(wr.drew.alloc (.cells zeroE 40)).heap[wr.drew.heap.size]?=some (.cells zeroE 40 (0,0)):=(MapKept.heap_alloc wr.drew _).1
  refine hK.out _ _ (fun _ h=>h.alloc h.size _) ?_
  clear hK K
  try simp only [List.getElem_toArray,List.getElem_cons_zero,List.getElem_cons_succ,Act.put,List.setIfInBounds_toArray,List.set_cons_zero,List.set_cons_succ]
  refine wpAnyJ_pure (i:=2) (v:=?_) rfl (by kernel_rfl) (by kernel_rfl) (by kernel_rfl) (fun _ _ _ h=>h) (Or.inl ⟨by rfl,?_⟩) ?_
  rotate_left
  ·intro wq _
   go_simp
   try with_reducible rfl
  simp only [Act.put,sA,sB,sC]
  try simp only [List.getElem_toArray,List.getElem_cons_zero,List.getElem_cons_succ,Act.put,List.setIfInBounds_toArray,List.set_cons_zero,List.set_cons_succ]
  refine wpAnyJ_one (i:=3) rfl (by kernel_rfl) (fun K hK=>?_)
  refine step_store_bx rfl 40 _ _ rfl wr.heap.size (e.ev.cs e.cA e.cc e.fA e.fc) rfl rfl (by have hth:=there_row hza;exact hth) (by kernel_rfl) (evOne _ _ _ _ _) ?_
  refine hK.out _ _ (fun h=>nomatch h) ?_
  clear hK K
  refine wpAnyJ_done (by kernel_rfl) ?_ _
  try simp only [List.getElem_toArray,List.getElem_cons_zero,List.getElem_cons_succ,Act.put,List.setIfInBounds_toArray,List.set_cons_zero,List.set_cons_succ]
  have hrow:=setRow (vs:=e.ev.cs e.cA e.cc e.fA e.fc) hza rfl
  have hgr:=grown_setCells (wr.drew.alloc (.cells zeroE 40)) wr.heap.size 0 (e.ev.cs e.cA e.cc e.fA e.fc).toList
  have hBa:Below wr.heap.size wr (wr.drew.alloc (.cells zeroE 40)):=(Below.refl wr.heap.size wr).drew.alloc (Nat.le_refl _) _
  have hBs:=hBa.grown hgr hBa.size (fun k hk=>by injection hk with hk;omega)
  have HRow:=hid hrow
  have HBs:=hid hBs
  clear hrow hgr hBa hBs hza hHeld
  have HE:=hid ((Below.refl wr.heap.size wr).block b (box_lt HBx.out))
  go_wp2_with fail
  go_meet
  have he0:=(HBs.out.block b (by rw [HS1.out];omega)).trans HBx.out
  exact ⟨rfl,by rw [HS1.out],⟨he0,by rw [← HS1.out];exact HRow.out⟩,HBs.out⟩
 case rest =>
  obtain ⟨rfl,rfl,hmb,hcb⟩:=hcut
  have hJ2:=HJ.out.now hcb
  have HJ2:=hid hJ2
  have HT2:Hid (Turn J.own w wc):=hid (HT.out.trans (Turn.below (F:=J.own) hcb) (fun i hi=>.inl hi))
  have HR2:=hid (HR.out.now hcb)
  have HM:=hid hmb
  have hbl:=box_lt hmb.m1
  have HB1:Hid (¬ J.own b∧¬ J.own (b+1)):=hid ⟨fun hf=>by have:=HLt.out b hf;have:=HBq.out;omega,fun hf=>by have:=HLt.out _ hf;have:=HBq.out;omega⟩
  clear hcb hJ2 hmb HJ HT HR HBx HS1
  clear wr
  obtain ⟨wr,hwr⟩:∃ y,y=wc:=⟨_,rfl⟩
  subst hwr
  have HJ:=HJ2
  have HT:=HT2
  have HR:=HR2
  clear HJ2 HT2 HR2
  have y3:=box_cell HM.out.e0 3 (.int .i64 e.ev.kind) rfl
  go_upto_if 15 with fail
  go_cut [] (fun wx=>∃ m,MB wx b e m∧m.ev=ofE (evsL N.E) e.ev∧Turn (fun i=>i=b+1) wr wx)
  case first=>as_aux_lemma =>
   by_cases k1:e.ev.kind=1
   ·have b1:(e.ev.kind==1)=true:=by simpa using k1
    obtain ⟨h0,h1⟩:=hke k1
    obtain ⟨j,hj⟩:∃ j:Nat,e.ev.target=j:=⟨e.ev.target.toNat,by omega⟩
    have hjl:j<N.E.length:=by omega
    obtain ⟨eg,eo,hA,_,hcc⟩:=HJ.out.net.ev.at_ hjl
    have heg:eg<b:=by
     obtain ⟨eg2,eo2,hA2,hg2,_⟩:=HN0.out.ev.at_ hjl
     rw [hA] at hA2
     injection hA2 with hA2
     injection hA2 with e1 e2
     have:=HBq.out
     omega
    have HSL:Hid (∀ wq,Turn (fun i=>i=b+1) wr wq→wq.cell? ⟨b,5,none⟩=some (.int .i64 j)∧wq.cell? ⟨J.jb,23,none⟩=some (.slice (some ⟨eg,eo,none⟩) N.E.length N.ec)∧wq.rangeAt eg (eo+j * 12) N.E[j].cs):=hid (fun wq t=>by
     refine ⟨box_cell (t.keeps HM.out.e0 (by omega)) 5 _ (by rw [← hj];rfl),?_,?_⟩
     ·have:=box_cell (t.keeps HJ.out.box (fun hf=>HB1.out.2 (by rw [← hf];exact .inl rfl))) 23 (.slice N.eA N.E.length N.ec) rfl
      rwa [hA] at this
     ·intro q v hq
      exact (cell_of_block (t.block eg (by have:=box_lt HM.out.m1;omega) (by omega)) _).trans (hcc q v hq))
    have HHj:=hid hj
    obtain ⟨m,hm⟩:∃ m,m=N.E[j]:=⟨_,rfl⟩
    have HMo:Hid (m.ev=ofE (evsL N.E) e.ev):=hid (by unfold ofE;rw [if_pos k1,hj,Int.toNat_natCast,ev_at hjl,hm])
    rw [← hm] at HSL
    clear hm hcc hA hj k1 hke
    go_upto_region 3 with fail
    refine wp_region_J (S:=fun w'=>Turn (fun i=>i=b+1) wr w') (fun i=>[8].contains i) (by kernel_rfl) ((Turn.refl _ wr).drew) (fun hHeld=>?_)
    refine wpAnyJ_pure (i:=0) (v:=?_) rfl (by kernel_rfl) (by kernel_rfl) (by kernel_rfl) (fun _ _ _ h=>h) (Or.inl ⟨by rfl,?_⟩) ?_
    rotate_left
    ·intro wq _
     go_simp
     try with_reducible rfl
    simp only [Act.put,sA,sB,sC]
    refine wpAnyJ_pure (i:=1) (v:=?_) rfl (by kernel_rfl) (by kernel_rfl) (by kernel_rfl) (fun _ _ _ h=>h) (Or.inl ⟨by rfl,?_⟩) ?_
    rotate_left
    ·intro wq _
     go_simp
     try with_reducible rfl
    simp only [Act.put,sA,sB,sC]
    refine wpAnyJ_pure (i:=2) (v:=?_) rfl (by kernel_rfl) (by kernel_rfl) (by kernel_rfl) (fun _ _ _ h=>h) (Or.inl ⟨by rfl,?_⟩) ?_
    rotate_left
    ·intro wq _
     go_simp
     try with_reducible rfl
    simp only [Act.put,sA,sB,sC]
    try simp only [List.getElem_toArray,List.getElem_cons_zero,List.getElem_cons_succ,Act.put,List.setIfInBounds_toArray,List.set_cons_zero,List.set_cons_succ]
    refine wpAnyJ_take (i:=3) (v:=?_) rfl (by kernel_rfl) (by kernel_rfl) (by kernel_rfl) (by kernel_rfl) (fun _ _ _ h=>h) (Or.inl ⟨by rfl,?_⟩) hHeld ?_
    rotate_left
    ·intro wq hSq
     obtain ⟨h5,h23,hE⟩:=HSL.out wq hSq
     go_simp
     try with_reducible rfl
    simp only [Act.put,sA,sB,sC]
    try simp only [List.getElem_toArray,List.getElem_cons_zero,List.getElem_cons_succ,Act.put,List.setIfInBounds_toArray,List.set_cons_zero,List.set_cons_succ]
    refine wpAnyJ_pure (i:=4) (v:=?_) rfl (by kernel_rfl) (by kernel_rfl) (by kernel_rfl) (fun _ _ _ h=>h) (Or.inl ⟨by rfl,?_⟩) ?_
    rotate_left
    ·intro wq _
     go_simp
     try with_reducible rfl
    simp only [Act.put,sA,sB,sC]
    refine wpAnyJ_take (i:=5) (v:=?_) rfl (by kernel_rfl) (by kernel_rfl) (by kernel_rfl) (by kernel_rfl) (fun _ _ _ h=>h) (Or.inl ⟨by rfl,?_⟩) hHeld ?_
    rotate_left
    ·intro wq hSq
     obtain ⟨h5,h23,hE⟩:=HSL.out wq hSq
     go_simp
     try with_reducible rfl
    simp only [Act.put,sA,sB,sC]
    try simp only [List.getElem_toArray,List.getElem_cons_zero,List.getElem_cons_succ,Act.put,List.setIfInBounds_toArray,List.set_cons_zero,List.set_cons_succ]
    refine wpAnyJ_pure (i:=6) (v:=?_) rfl (by kernel_rfl) (by kernel_rfl) (by kernel_rfl) (fun _ _ _ h=>h) (Or.inl ⟨by rfl,?_⟩) ?_
    rotate_left
    ·intro wq _
     go_simp
     try with_reducible rfl
    simp only [Act.put,sA,sB,sC]
    try simp only [List.getElem_toArray,List.getElem_cons_zero,List.getElem_cons_succ,Act.put,List.setIfInBounds_toArray,List.set_cons_zero,List.set_cons_succ]
    refine' wpAnyJ_take (i:=7) rfl (by kernel_rfl) (by kernel_rfl) (by kernel_rfl) (by kernel_rfl) (fun _ _ _ h=>h) (yieldsIf_load_mid (by rfl) _ _ rfl eg (eo+j * 12) rfl (m.ev.cs m.cA m.cc m.fA m.fc).toList _ (fun wq hq=>(HSL.out wq hq).2.2) Tryz.underlying40 rfl (by kernel_rfl)) hHeld ?_
    try simp only [List.getElem_toArray,List.getElem_cons_zero,List.getElem_cons_succ,Act.put,List.setIfInBounds_toArray,List.set_cons_zero,List.set_cons_succ]
    refine wpAnyJ_one (i:=8) rfl (by kernel_rfl) (fun K hK=>?_)
    have hm1:wr.drew.heap[b+1]?=some (.cells (e.ev.cs e.cA e.cc e.fA e.fc) 40 (0,0)):=HM.out.m1
    refine step_store_bx rfl 40 _ _ rfl (b+1) (m.ev.cs m.cA m.cc m.fA m.fc) rfl rfl (by have hth:=there_row hm1;exact hth) (by kernel_rfl) (evOne _ _ _ _ _) ?_
    refine hK.out _ _ (fun h=>nomatch h) ?_
    clear hK K
    refine wpAnyJ_done (by kernel_rfl) ?_ _
    try simp only [List.getElem_toArray,List.getElem_cons_zero,List.getElem_cons_succ,Act.put,List.setIfInBounds_toArray,List.set_cons_zero,List.set_cons_succ]
    have hrow:=setRow (vs:=m.ev.cs m.cA m.cc m.fA m.fc) hm1 rfl
    have hgr:=grown_setCells wr.drew (b+1) 0 (m.ev.cs m.cA m.cc m.fA m.fc).toList
    have ht:Turn (fun i=>i=b+1) wr (wr.drew.setCells (b+1) 0 (m.ev.cs m.cA m.cc m.fA m.fc).toList):=⟨hgr.os,hgr.tape,hgr.output,hgr.size,fun i hi hne=>hgr.block i hi (fun he=>hne (Option.some.inj he))⟩
    have HTs:=hid ht
    have HRow:=hid hrow
    clear hrow hgr ht hHeld hm1
    go_wp2_with fail
    go_meet
    exact ⟨m,⟨HTs.out.keeps HM.out.e0 (by omega),HRow.out⟩,HMo.out,HTs.out⟩
   ·have b1:(e.ev.kind==1)=false:=by simpa using k1
    have HO:Hid (e.ev=ofE (evsL N.E) e.ev):=hid (by unfold ofE;rw [if_neg k1])
    go_wp2_with fail
    go_meet
    exact ⟨e,HM.out,HO.out,Turn.below (Below.refl _ _)⟩
  case rest =>
   obtain ⟨m,hmb,hmo,hcb⟩:=hcut
   have HT2:Hid (Turn J.own w wc):=hid (HT.out.trans hcb (fun i hi=>.inr (by rw [hi];have:=HBq.out;omega)))
   have HJ2:=hid (HJ.out.turn hcb (fun i hi=>⟨fun hf=>HB1.out.2 (hi ▸ hf),fun hf=>by have:=HOl.out i hf;have:=HBq.out;omega⟩))
   have HR2:Hid (RdL 11 ItL.cs wc wc.heap.size A xs):=hid (HR.out.turnN (fun hx i hi hl=>hcb.block i hl (by have:=HAl.out hx i hi;have:=HBq.out;omega)) hcb.size)
   have HM2:=hid hmb
   have HMo:=hid hmo
   clear HJ HT HR HM hcb hmb hmo y3 hbl
   clear wr
   obtain ⟨wL,hwL⟩:∃ y,y=wc:=⟨_,rfl⟩
   subst hwL
   have HSp:=hid hsep
   clear hsep
   go_upto_region 4 with fail
   go_wp2_with fail
   go_loopw [6,9,26] (fun p _ i wx=>∃ k:Nat,k≤xs.length∧i=.int .i64 k∧p=.int .i64 (postsN ((itsL xs).take k))∧JAt lo wx N ⟨st.pairs,fun c=>st.uses c || (c==1 && textLong N.p ((itsL xs).take k))⟩ J lf∧Turn J.own wL wx) (fun _ _ i _=>xs.length - (intOf i).toNat)
   case atStart=>exact ⟨0,Nat.zero_le _,rfl,rfl,by simpa [textLong] using HJ2.out,Turn.refl _ _⟩
   case round =>
    obtain ⟨k,hk3,rfl,rfl,hj,ht⟩:=hrel
    have HJ:=hid hj
    have HT:=hid ht
    have HR:Hid (RdL 11 ItL.cs wr wr.heap.size A xs):=hid (HR2.out.turnN (fun hx i hi hl=>ht.block i hl (HSp.out i hi)) ht.size)
    clear hj ht
    by_cases hlt:k<xs.length
    ·have hlt2:k<(itsL xs).length:=by simpa using hlt
     have hgk:(itsL xs)[k]=xs[k].it:=by simp
     have HTp:Hid (postsN ((itsL xs).take (k+1))=postsN ((itsL xs).take k)+(if isPost xs[k].it=true then 1 else 0)):=hid (by rw [posts_take _ _ hlt2,hgk])
     have HTl:Hid (textLong N.p ((itsL xs).take (k+1))=(textLong N.p ((itsL xs).take k) || decide (N.p.size≤xs[k].it.text.length))):=hid (by rw [long_take _ _ _ hlt2,hgk])
     have HPl:Hid (postsN ((itsL xs).take k)≤1000):=hid (Nat.le_trans (List.length_filter_le _ _) (by rw [List.length_take];simp;omega))
     obtain ⟨g,off,rfl,hg,hcc⟩:=HR.out.at_ hlt
     have HRg:Hid (wr.rangeAt g (off+k * 11) xs[k].cs):=hid (fun j v hj=>hcc j v hj)
     clear hcc hgk hlt2
     generalize hpn:postsN ((itsL xs).take k)=pn at *
     generalize textLong N.p ((itsL xs).take k)=tl at *
     generalize xs[k]=x at *
     clear hpn
     go_upto_region 7 with (first
      | ((with_reducible show wpList _ _ _ (Oper.mk _ (Op.load 46 _) _ _ _ _::_) _ _);refine wpList_load_g rfl 46 _ rfl g (off+k * 11) rfl (x.it.cs x.fA x.fc).toList _ HRg.out Tryz.underlying46 rfl (by kernel_rfl) ?_)
      | fail)
     change Code.wp _ _ _ _ (wr.alloc (.cells (x.it.cs x.fA x.fc) 46))
     have hb1:Below wr.heap.size wr (wr.alloc (.cells (x.it.cs x.fA x.fc) 46)):=(Below.refl _ _).alloc (Nat.le_refl _) _
     have hx1:(wr.alloc (.cells (x.it.cs x.fA x.fc) 46)).heap[wr.heap.size]?=some (.cells (x.it.cs x.fA x.fc) 46 (0,0)):=(MapKept.heap_alloc wr _).1
     have HJ1:=hid (HJ.out.now hb1)
     have HT1:=hid (HT.out.trans (Turn.below (F:=J.own) hb1) (fun i hi=>.inl hi))
     have HX1:=hid hx1
     clear hb1 hx1 HJ HT HR HRg
     obtain ⟨xb,hxb⟩:∃ y,y=wr.heap.size:=⟨_,rfl⟩
     rw [← hxb] at HX1 ⊢
     clear hxb
     generalize wr.alloc (.cells (x.it.cs x.fA x.fc) 46)=w1 at *
     have r3:=box_cell HX1.out 3 (.int .i64 x.it.kind) rfl
     go_upto_if 32 with fail
     go_cut [6] (fun p wx=>p=.int .i64 ((pn+(if isPost x.it=true then 1 else 0):Nat):Int)∧wx=w1)
     case first=>as_aux_lemma =>
      by_cases hp:x.it.kind=0
      ·have hb0:(x.it.kind==0)=true:=by simpa using hp
       have hI:Hid (isPost x.it=true):=hid hb0
       have hpl:=HPl.out
       have hwr:IntKind.i64.wrap ((pn:Int)+1)=(pn:Int)+1:=by rw [IntKind.wrap_i64];omega
       go_wp2_with fail
       go_meet
       exact ⟨by rw [if_pos hI.out];first | rfl | simp [hwr],rfl⟩
      ·have hb0:(x.it.kind==0)=false:=by simpa using hp
       have hI:Hid (¬ isPost x.it=true):=hid (by unfold isPost;rw [hb0];simp)
       go_wp2_with fail
       go_meet
       exact ⟨by rw [if_neg hI.out];rfl,rfl⟩
     case rest =>
      obtain ⟨rfl,rfl⟩:=hcut
      rw [← HTp.out]
      clear HTp r3 HPl
      obtain ⟨pn2,hpn2⟩:∃ y,y=postsN ((itsL xs).take (k+1)):=⟨_,rfl⟩
      rw [← hpn2]
      have HP2:=hid hpn2
      clear hpn2
      have r9:=box_cell HX1.out 9 (.string (bs x.it.text)) rfl
      have z8:=HJ1.out.cell 8 (.int .i64 N.p.size) rfl
      have hsz:(bs x.it.text).size=x.it.text.length:=bs_size _
      cases hd:decide (N.p.size≤(x.it.text.length:Int))
      ·have HV:Hid (textLong N.p ((itsL xs).take (k+1))=tl):=hid (by rw [HTl.out,hd,Bool.or_false])
       go_wp2_with fail
       go_quiet (fail)
       go_wp2_with fail
       go_roundw
       case rel=>exact ⟨k+1,by omega,by go_num,by rw [HP2.out],by rw [HV.out];exact HJ1.out.now (below_drewN (Below.refl _ _) _),HT1.out.drewN _⟩
       case measure=>simp [intOf];omega
      ·have HV:Hid ((fun c=>st.uses c || (c==1 && textLong N.p ((itsL xs).take (k+1))))=(fun c=>(st.uses c || (c==1 && tl)) || c==1)):=hid (by
        rw [HTl.out,hd,Bool.or_true]
        funext c
        cases st.uses c <;> cases (c==1) <;> simp)
       go_wp2_with fail
       go_quiet (fail)
       have HJq:=hid (HJ1.out.now (below_drewN (Below.refl _ _) nq))
       have HTq:=hid (HT1.out.drewN nq)
       generalize wc.drewN nq=wq at *
       have z26:=HJq.out.cell 26 (.map (some J.ub)) rfl
       obtain ⟨w6,hrun,hj6,ht6,hs6⟩:=HJq.out.addUse 1 ⟨by omega,by omega⟩
       have HJ6:=hid hj6
       have HT6:=hid ht6
       clear hj6 ht6 hs6
       go_wp2_with fail
       go_roundw
       case rel=>exact ⟨k+1,by omega,by go_num,by rw [HP2.out],by rw [HV.out];exact HJ6.out,HTq.out.trans HT6.out (fun i hi=>.inl hi)⟩
       case measure=>simp [intOf];omega
    ·have hke:k=xs.length:=by omega
     have d1:decide (k<xs.length)=false:=decide_eq_false (by omega)
     have hkt:(itsL xs).take k=itsL xs:=List.take_of_length_le (by simp;omega)
     rw [hkt]
     rw [hkt] at HJ
     clear hke hlt hkt HR
     have HM:=HM2
     have HMw:Hid (MB wr b e m):=hid ⟨HT.out.keeps HM.out.e0 HB1.out.1,HT.out.keeps HM.out.m1 HB1.out.2⟩
     clear HM HM2
     obtain ⟨pn,hpn⟩:∃ y,y=postsN (itsL xs):=⟨_,rfl⟩
     rw [← hpn]
     have HPn:=hid hpn
     clear hpn
     go_upto_region 12 with fail
     go_cut [111,112,113] (fun l n i wx=>∃ g ty,l=.slice (some ⟨g,0,none⟩) 8 8∧n=.int .i64 8∧i=.int .i64 0∧wx.heap[g]?=some (.cells ((uses8 pn e.ev.files.length e.ev m.ev).flatMap boolC).toArray ty (0,0))∧Below wr.heap.size wr wx∧wr.heap.size≤g)
     case first =>
      have y3:=box_cell HMw.out.e0 3 (.int .i64 e.ev.kind) rfl
      have y10:=box_cell HMw.out.e0 10 (.slice e.fA e.ev.files.length e.fc) rfl
      have m3:=box_cell HMw.out.m1 3 (.int .i64 m.ev.kind) rfl
      have m5:=box_cell HMw.out.m1 5 (.int .i64 m.ev.target) rfl
      have m6:=box_cell HMw.out.m1 6 (.int .i64 m.ev.quote) rfl
      have m7:=box_cell HMw.out.m1 7 (.int .i64 m.ev.who) rfl
      have HU:Hid (∀ kd mk mt mq mw nf,kd=e.ev.kind→mk=m.ev.kind→mt=m.ev.target→mq=m.ev.quote→mw=m.ev.who→nf=e.ev.files.length→uses8 pn e.ev.files.length e.ev m.ev=[(1,decide ((1:Int)<pn)),(2,kd==1),(3,kd==2),(4,(kd==3) || (kd==4)),(5,(mk==0) && !(mt==-1)),(6,(mk==0) && !(mq==-1)),(7,(mk==0) && !(mw==-1)),(8,((kd==0) || (kd==1)) && decide (0<nf))]):=hid (fun kd mk mt mq mw nf h1 h2 h3 h4 h5 h6=>by subst h1 h2 h3 h4 h5 h6;rfl)
      have HU:=hid (HU.out _ _ _ _ _ _ rfl rfl rfl rfl rfl rfl)
      generalize e.ev.kind=kd at *
      generalize m.ev.kind=mk at *
      generalize m.ev.target=mt at *
      generalize m.ev.quote=mq at *
      generalize m.ev.who=mw at *
      generalize e.ev.files.length=nf at *
      cases q3:kd==3
      ·cases qm:mk==0
       ·cases q0:kd==0
        ·cases q1:kd==1
         ·skip
          go_wp2_with (first | ((with_reducible show wpList _ _ _ (Oper.mk (some 999) _ _ _ _ _::_) _ _);skip) | fail)
          go_meet
          refine ⟨wr.heap.size,?ty,rfl,rfl,rfl,?hh,(Below.refl _ _).alloc (Nat.le_refl _) _,Nat.le_refl _⟩
          case hh =>
           rw [HU.out]
           simp only [List.flatMap_cons,List.flatMap_nil,boolC,q3,qm,q0,q1,Bool.false_or,Bool.or_false,Bool.true_or,Bool.or_true,Bool.true_and,Bool.false_and,List.cons_append,List.nil_append]
           exact (MapKept.heap_alloc wr _).1
         ·skip
          go_wp2_with (first | ((with_reducible show wpList _ _ _ (Oper.mk (some 999) _ _ _ _ _::_) _ _);skip) | fail)
          go_meet
          refine ⟨wr.heap.size,?ty,rfl,rfl,rfl,?hh,(Below.refl _ _).alloc (Nat.le_refl _) _,Nat.le_refl _⟩
          case hh =>
           rw [HU.out]
           simp only [List.flatMap_cons,List.flatMap_nil,boolC,q3,qm,q0,q1,Bool.false_or,Bool.or_false,Bool.true_or,Bool.or_true,Bool.true_and,Bool.false_and,List.cons_append,List.nil_append]
           exact (MapKept.heap_alloc wr _).1
        ·skip
         go_wp2_with (first | ((with_reducible show wpList _ _ _ (Oper.mk (some 999) _ _ _ _ _::_) _ _);skip) | fail)
         go_meet
         refine ⟨wr.heap.size,?ty,rfl,rfl,rfl,?hh,(Below.refl _ _).alloc (Nat.le_refl _) _,Nat.le_refl _⟩
         case hh =>
          rw [HU.out]
          simp only [List.flatMap_cons,List.flatMap_nil,boolC,q3,qm,q0,Bool.false_or,Bool.or_false,Bool.true_or,Bool.or_true,Bool.true_and,Bool.false_and,List.cons_append,List.nil_append]
          exact (MapKept.heap_alloc wr _).1
       ·cases q0:kd==0
        ·cases q1:kd==1
         ·skip
          go_wp2_with (first | ((with_reducible show wpList _ _ _ (Oper.mk (some 999) _ _ _ _ _::_) _ _);skip) | fail)
          go_meet
          refine ⟨wr.heap.size,?ty,rfl,rfl,rfl,?hh,(Below.refl _ _).alloc (Nat.le_refl _) _,Nat.le_refl _⟩
          case hh =>
           rw [HU.out]
           simp only [List.flatMap_cons,List.flatMap_nil,boolC,q3,qm,q0,q1,Bool.false_or,Bool.or_false,Bool.true_or,Bool.or_true,Bool.true_and,Bool.false_and,List.cons_append,List.nil_append]
           exact (MapKept.heap_alloc wr _).1
         ·skip
          go_wp2_with (first | ((with_reducible show wpList _ _ _ (Oper.mk (some 999) _ _ _ _ _::_) _ _);skip) | fail)
          go_meet
          refine ⟨wr.heap.size,?ty,rfl,rfl,rfl,?hh,(Below.refl _ _).alloc (Nat.le_refl _) _,Nat.le_refl _⟩
          case hh =>
           rw [HU.out]
           simp only [List.flatMap_cons,List.flatMap_nil,boolC,q3,qm,q0,q1,Bool.false_or,Bool.or_false,Bool.true_or,Bool.or_true,Bool.true_and,Bool.false_and,List.cons_append,List.nil_append]
           exact (MapKept.heap_alloc wr _).1
        ·skip
         go_wp2_with (first | ((with_reducible show wpList _ _ _ (Oper.mk (some 999) _ _ _ _ _::_) _ _);skip) | fail)
         go_meet
         refine ⟨wr.heap.size,?ty,rfl,rfl,rfl,?hh,(Below.refl _ _).alloc (Nat.le_refl _) _,Nat.le_refl _⟩
         case hh =>
          rw [HU.out]
          simp only [List.flatMap_cons,List.flatMap_nil,boolC,q3,qm,q0,Bool.false_or,Bool.or_false,Bool.true_or,Bool.or_true,Bool.true_and,Bool.false_and,List.cons_append,List.nil_append]
          exact (MapKept.heap_alloc wr _).1
      ·have q0:(kd==0)=false:=by simp at q3 ⊢;omega
       have q1:(kd==1)=false:=by simp at q3 ⊢;omega
       cases qm:mk==0
       ·skip
        go_wp2_with (first | ((with_reducible show wpList _ _ _ (Oper.mk (some 999) _ _ _ _ _::_) _ _);skip) | fail)
        go_meet
        refine ⟨wr.heap.size,?ty,rfl,rfl,rfl,?hh,(Below.refl _ _).alloc (Nat.le_refl _) _,Nat.le_refl _⟩
        case hh =>
         rw [HU.out]
         simp only [List.flatMap_cons,List.flatMap_nil,boolC,q3,qm,q0,q1,Bool.false_or,Bool.or_false,Bool.true_or,Bool.or_true,Bool.true_and,Bool.false_and,List.cons_append,List.nil_append]
         exact (MapKept.heap_alloc wr _).1
       ·skip
        go_wp2_with (first | ((with_reducible show wpList _ _ _ (Oper.mk (some 999) _ _ _ _ _::_) _ _);skip) | fail)
        go_meet
        refine ⟨wr.heap.size,?ty,rfl,rfl,rfl,?hh,(Below.refl _ _).alloc (Nat.le_refl _) _,Nat.le_refl _⟩
        case hh =>
         rw [HU.out]
         simp only [List.flatMap_cons,List.flatMap_nil,boolC,q3,qm,q0,q1,Bool.false_or,Bool.or_false,Bool.true_or,Bool.or_true,Bool.true_and,Bool.false_and,List.cons_append,List.nil_append]
         exact (MapKept.heap_alloc wr _).1
     case rest =>
      obtain ⟨g,ty,rfl,rfl,rfl,hg,hcb,hgl⟩:=hcut
      have hown:=HJ.out.lt
      have HGo:Hid (¬ J.own g):=hid (fun hf=>by have:=hown g hf;omega)
      have HJ2:=hid (HJ.out.now hcb)
      have HTM:=hid (HT.out.trans (Turn.below (F:=J.own) hcb) (fun i hi=>.inl hi))
      have HRd:=hid (rd_bools hg)
      clear hown hcb hgl hg HJ HT HMw
      clear wr
      obtain ⟨wM,hwM⟩:∃ y,y=wc:=⟨_,rfl⟩
      subst hwM
      have HL8:Hid ((uses8 pn e.ev.files.length e.ev m.ev).length=8):=hid rfl
      have HUs:Hid (∀ c,usedB N.p (evsL N.E) e.ev (itsL xs) c=((c==1 && textLong N.p (itsL xs)) || (uses8 pn e.ev.files.length e.ev m.ev).any (fun y=>y.1==c && y.2))):=hid (fun c=>used_uses8 HPn.out HMo.out c)
      have HLi:Hid (∀ y∈uses8 pn e.ev.files.length e.ev m.ev,InInt y.1):=hid (fun y hy=>by
       unfold uses8 at hy
       simp only [List.mem_cons,List.not_mem_nil,or_false] at hy
       rcases hy with rfl | rfl | rfl | rfl | rfl | rfl | rfl | rfl <;> exact ⟨by simp,by simp⟩)
      generalize uses8 pn e.ev.files.length e.ev m.ev=L8 at *
      have HIn:Hid (∀ y∈L8,InInt y.1):=hid (fun y hy=>HLi.out y hy)
      go_wp2_with fail
      go_loopw [11,113] (fun _ i wx=>∃ k:Nat,k≤8∧i=.int .i64 k∧JAt lo wx N ⟨st.pairs,fun c=>(st.uses c || (c==1 && textLong N.p (itsL xs))) || (L8.take k).any (fun y=>y.1==c && y.2)⟩ J lf∧Turn J.own wM wx) (fun _ i _=>8 - (intOf i).toNat)
      case atStart=>exact ⟨0,Nat.zero_le _,rfl,by simpa using HJ2.out,Turn.refl _ _⟩
      case round =>
       obtain ⟨k,hk8,rfl,hj,ht⟩:=hrel
       have HJ:=hid hj
       have HT:=hid ht
       have HR:Hid (RdL 2 boolC wr wr.heap.size (some ⟨g,0,none⟩) L8):=hid (HRd.out.turn (fun i hi hl=>ht.block i hl (fun hf=>HGo.out (by have h9:g=i:=Option.some.inj hi;rw [h9];exact hf))) ht.size)
       clear hj ht
       by_cases hlt:k<8
       ·have hlt8:k<L8.length:=by rw [HL8.out];exact hlt
        obtain ⟨g2,off2,hA2,_,hcc⟩:=HR.out.at_ hlt8
        injection hA2 with hA2
        injection hA2 with e1 e2
        subst e1 e2
        have c0:=hcc 0 (.int .i64 L8[k].1) rfl
        have c1:=hcc 1 (.bool L8[k].2) rfl
        have HTk:Hid (∀ c,(L8.take (k+1)).any (fun y=>y.1==c && y.2)=((L8.take k).any (fun y=>y.1==c && y.2) || (L8[k].1==c && L8[k].2))):=hid (fun c=>by rw [List.take_succ_eq_append_getElem hlt8,List.any_append];simp)
        have hin:=HIn.out _ (List.getElem_mem hlt8)
        clear hcc HR
        generalize L8[k]=y at *
        clear hlt8
        obtain ⟨a1,a2⟩:=y
        simp only at c0 c1 HTk hin
        simp only [Nat.zero_add,Nat.add_zero] at c0 c1
        go_upto_region 15 with fail
        change Code.wp _ _ _ _ (wr.alloc (.cells #[.int .i64 a1,.bool a2] 172))
        have hb1:Below wr.heap.size wr (wr.alloc (.cells #[.int .i64 a1,.bool a2] 172)):=(Below.refl _ _).alloc (Nat.le_refl _) _
        have hx1:(wr.alloc (.cells #[.int .i64 a1,.bool a2] 172)).heap[wr.heap.size]?=some (.cells #[.int .i64 a1,.bool a2] 172 (0,0)):=(MapKept.heap_alloc wr _).1
        have HJ1:=hid (HJ.out.now hb1)
        have HT1:=hid (HT.out.trans (Turn.below (F:=J.own) hb1) (fun i hi=>.inl hi))
        have y0:=box_cell hx1 0 (.int .i64 a1) rfl
        have y1:=box_cell hx1 1 (.bool a2) rfl
        clear hb1 hx1 c0 c1 HJ HT
        obtain ⟨xb,hxb⟩:∃ y,y=wr.heap.size:=⟨_,rfl⟩
        rw [← hxb] at y0 y1 ⊢
        clear hxb
        generalize wr.alloc (.cells #[.int .i64 a1,.bool a2] 172)=w1 at *
        cases a2
        ·have HV:Hid ((fun c=>(st.uses c || (c==1 && textLong N.p (itsL xs))) || (L8.take (k+1)).any (fun y=>y.1==c && y.2))=(fun c=>(st.uses c || (c==1 && textLong N.p (itsL xs))) || (L8.take k).any (fun y=>y.1==c && y.2))):=hid (by
          funext c
          rw [HTk.out,Bool.and_false,Bool.or_false])
         go_wp2_with fail
         go_roundw
         case rel=>exact ⟨k+1,by omega,by go_num,by rw [HV.out];exact HJ1.out,HT1.out⟩
         case measure=>simp [intOf];omega
        ·have HV:Hid ((fun c=>(st.uses c || (c==1 && textLong N.p (itsL xs))) || (L8.take (k+1)).any (fun y=>y.1==c && y.2))=(fun c=>((st.uses c || (c==1 && textLong N.p (itsL xs))) || (L8.take k).any (fun y=>y.1==c && y.2)) || c==a1)):=hid (by
          funext c
          rw [HTk.out,Bool.and_true]
          have:(a1==c)=(c==a1):=by rw [Bool.eq_iff_iff];simp;exact eq_comm
          rw [this]
          simp only [Bool.or_assoc])
         have z26:=HJ1.out.cell 26 (.map (some J.ub)) rfl
         go_upto_region 16 with fail
         refine wp_region_J (S:=fun w'=>w'.cell? ⟨J.jb,26,none⟩=some (.map (some J.ub))∧w'.cell? ⟨xb,0,none⟩=some (.int .i64 a1)) (fun i=>[6].contains i) (by kernel_rfl) (⟨z26,y0⟩) (fun hHeld=>?_)
         refine wpAnyJ_pure (i:=0) (v:=?_) rfl (by kernel_rfl) (by kernel_rfl) (by kernel_rfl) (fun _ _ _ h=>h) (Or.inl ⟨by rfl,?_⟩) ?_
         rotate_left
         ·intro wq _
          go_simp
          try with_reducible rfl
         simp only [Act.put,sA,sB,sC]
         refine wpAnyJ_pure (i:=1) (v:=?_) rfl (by kernel_rfl) (by kernel_rfl) (by kernel_rfl) (fun _ _ _ h=>h) (Or.inl ⟨by rfl,?_⟩) ?_
         rotate_left
         ·intro wq _
          go_simp
          try with_reducible rfl
         simp only [Act.put,sA,sB,sC]
         refine wpAnyJ_pure (i:=2) (v:=?_) rfl (by kernel_rfl) (by kernel_rfl) (by kernel_rfl) (fun _ _ _ h=>h) (Or.inl ⟨by rfl,?_⟩) ?_
         rotate_left
         ·intro wq _
          go_simp
          try with_reducible rfl
         simp only [Act.put,sA,sB,sC]
         try simp only [List.getElem_toArray,List.getElem_cons_zero,List.getElem_cons_succ,Act.put,List.setIfInBounds_toArray,List.set_cons_zero,List.set_cons_succ]
         refine wpAnyJ_take (i:=3) (v:=?_) rfl (by kernel_rfl) (by kernel_rfl) (by kernel_rfl) (by kernel_rfl) (fun _ _ _ h=>h) (Or.inl ⟨by rfl,?_⟩) hHeld ?_
         rotate_left
         ·intro wq hSq
          obtain ⟨h2,h3⟩:=hSq
          go_simp
          try with_reducible rfl
         simp only [Act.put,sA,sB,sC]
         try simp only [List.getElem_toArray,List.getElem_cons_zero,List.getElem_cons_succ,Act.put,List.setIfInBounds_toArray,List.set_cons_zero,List.set_cons_succ]
         refine wpAnyJ_pure (i:=4) (v:=?_) rfl (by kernel_rfl) (by kernel_rfl) (by kernel_rfl) (fun _ _ _ h=>h) (Or.inl ⟨by rfl,?_⟩) ?_
         rotate_left
         ·intro wq _
          go_simp
          try with_reducible rfl
         simp only [Act.put,sA,sB,sC]
         refine wpAnyJ_take (i:=5) (v:=?_) rfl (by kernel_rfl) (by kernel_rfl) (by kernel_rfl) (by kernel_rfl) (fun _ _ _ h=>h) (Or.inl ⟨by rfl,?_⟩) hHeld ?_
         rotate_left
         ·intro wq hSq
          obtain ⟨h2,h3⟩:=hSq
          go_simp
          try with_reducible rfl
         simp only [Act.put,sA,sB,sC]
         try simp only [List.getElem_toArray,List.getElem_cons_zero,List.getElem_cons_succ,Act.put,List.setIfInBounds_toArray,List.set_cons_zero,List.set_cons_succ]
         obtain ⟨w6,hrun,hj6,ht6,hs6⟩:=(HJ1.out.now (Below.refl w1.heap.size w1).drew).addUse a1 hin
         have HJ6:=hid hj6
         have HT6:=hid ht6
         clear hj6 ht6 hs6
         refine wpAnyJ_one (i:=6) rfl (by kernel_rfl) (fun K hK=>?_)
         go_simp
         refine hK.out _ _ (fun h=>nomatch h) ?_
         clear hK K
         refine wpAnyJ_done (by kernel_rfl) ?_ _
         try simp only [List.getElem_toArray,List.getElem_cons_zero,List.getElem_cons_succ,Act.put,List.setIfInBounds_toArray,List.set_cons_zero,List.set_cons_succ]
         clear hrun hHeld
         go_wp2_with fail
         go_roundw
         case rel=>exact ⟨k+1,by omega,by go_num,by rw [HV.out];exact HJ6.out,HT1.out.drew.trans HT6.out (fun i hi=>.inl hi)⟩
         case measure=>simp [intOf];omega
       ·have hke:k=8:=by omega
        have hkt:L8.take k=L8:=List.take_of_length_le (by rw [HL8.out];omega)
        rw [hkt] at HJ
        have HV:Hid ((fun c=>(st.uses c || (c==1 && textLong N.p (itsL xs))) || L8.any (fun y=>y.1==c && y.2))=(fun c=>st.uses c || usedB N.p (evsL N.E) e.ev (itsL xs) c)):=hid (by
         funext c
         rw [HUs.out,Bool.or_assoc])
        subst hke
        clear hkt hlt
        rw [HV.out] at HJ
        go_wp2_with fail
        go_end0
        exact ⟨rfl,HJ.out,HT2.out.trans (HTM.out.trans HT.out (fun i hi=>.inl hi)) (fun i hi=>.inl hi)⟩
/- Lemmas for show of package trip (layer 24): a journey with one more pair,the number of items,what comes back. -/
section
variable {lo:Nat} {w w5 w':World} {N:NetL} {st:TrS} {J:JL} {lf:Int × Int→Option Int}
theorem JAt.push (h:JAt lo w N st J lf) (q:Pair) {A3:Option Addr} {c3 m:Nat} (hown:OwnL w5 lo 56 4 Pair.cells A3 c3 (st.pairs++[q])) (hg:w.grownBy w5 (slBlk J.qA)) (hat:slBlk A3=slBlk J.qA∨slBlk A3=some w.heap.size) (hm:m=st.pairs.length+1) :
  JAt lo (w5.setCell ⟨J.jb,24,none⟩ (.slice A3 m c3)) N ⟨st.pairs++[q],st.uses⟩ {J with qA:=A3,qc:=c3} lf∧Turn J.own w (w5.setCell ⟨J.jb,24,none⟩ (.slice A3 m c3))∧∀ i,({J with qA:=A3,qc:=c3}:JL).own i→J.own i∨w.heap.size≤i:=by
 subst hm
 have hjb:=box_lt h.box
 have hlb:=h.loc.lt
 have hub:=h.use.lt
 have hsz:(w5.setCell ⟨J.jb,24,none⟩ (.slice A3 (st.pairs.length+1) c3)).heap.size=w5.heap.size:=by simp [World.setCell]
 have hsl:=hg.size
 have nb:∀ i,i<w.heap.size→i≠J.jb→slBlk J.qA≠some i→(w5.setCell ⟨J.jb,24,none⟩ (.slice A3 (st.pairs.length+1) c3)).heap[i]?=w.heap[i]?:=fun i hi h1 h2 =>
  (heap_setCell_other w5 ⟨J.jb,24,none⟩ i _ h1).trans (hg.block i hi (fun e=>h2 e.symm))
 have hA2:∀ i,slBlk A3=some i→slBlk J.qA=some i∨i=w.heap.size:=fun i hi=>by
  rcases hat with e | e
  ·exact .inl (by rw [← e];exact hi)
  ·rw [hi] at e;exact .inr (Option.some.inj e)
 have hbox:w5.heap[J.jb]?=some (.cells (jcs N J.qA st.pairs.length J.qc J.lb J.ub) 108 (0,0)):=(hg.block _ hjb (fun e=>h.d2.1 e.symm)).trans h.box
 have ht:Turn J.own w (w5.setCell ⟨J.jb,24,none⟩ (.slice A3 (st.pairs.length+1) c3)):=⟨hg.os,hg.tape,hg.output,by omega,fun i hi hno=>nb i hi (fun e=>hno (.inl e)) (fun e=>hno (.inr (.inr (.inr e))))⟩
 have hnew:∀ i,({J with qA:=A3,qc:=c3}:JL).own i→J.own i∨w.heap.size≤i:=by
  rintro i (e | e | e | e)
  ·exact .inl (.inl e)
  ·exact .inl (.inr (.inl e))
  ·exact .inl (.inr (.inr (.inl e)))
  ·rcases hA2 i e with e | e
   ·exact .inl (.inr (.inr (.inr e)))
   ·exact .inr (by omega)
 refine ⟨⟨?_,?_,h.loc.of_block (nb _ hlb h.d1.1.symm h.d2.2.1),h.use.of_block (nb _ hub h.d1.2.1.symm h.d2.2.2),h.turnNet ht,fun i hi ho=>?_,h.d1,⟨fun e=>?_,fun e=>?_,fun e=>?_⟩,h.lo,fun i hi=>Nat.lt_of_lt_of_le (h.old i hi) ht.size⟩,ht,hnew⟩
 ·have:=heap_setCell_same w5 J.jb 24 _ _ (.slice A3 (st.pairs.length+1) c3) hbox
  rw [this,List.length_append]
  rfl
 ·refine hown.turn (fun i hi _=>heap_setCell_other w5 ⟨J.jb,24,none⟩ i _ (fun e=>?_))
  have e:i=J.jb:=e
  rcases hA2 i hi with h2 | h2
  ·exact h.d2.1 (by rw [h2,e])
  ·omega
 ·rcases hnew i ho with h1 | h1
  ·exact h.sep i hi h1
  ·have:=h.old i hi
   omega
 ·rcases hA2 _ e with h2 | h2
  ·exact h.d2.1 h2
  ·have h2:J.jb=w.heap.size:=h2
   omega
 ·rcases hA2 _ e with h2 | h2
  ·exact h.d2.2.1 h2
  ·have h2:J.lb=w.heap.size:=h2
   omega
 ·rcases hA2 _ e with h2 | h2
  ·exact h.d2.2.2 h2
  ·have h2:J.ub=w.heap.size:=h2
   omega
end
theorem all_count {p:Prof} (hp:profCheck p=0) {E:List EvM} {id:Nat}:(allP p (wayL p) E [] id).length≤20:=by
 have hz:=size_ge hp
 have h1:∀ (E:List EvM) (i:Nat),(firstP p (wayL p) E [] i).length≤20:=fun E i=>by
  have:=partsF_le (s:=sayP p (wayL p) E [] i (tx (evAt E i)) (evAt E i).files) (size:=p.size) hz.2.1
  unfold firstP
  rw [headM_len,itemsP_len]
  omega
 have h2:∀ (s:List UInt8) (on:Int),(postP p id s on).length≤20:=fun s on=>by
  have:=partsF_le (s:=s) (size:=p.size) hz.2.1
  unfold postP
  rw [headM_len,itemsP_len]
  omega
 unfold allP
 split
 ·exact h1 _ _
 split
 ·simp
 split
 ·unfold editP
  split
  ·rw [headM_len,aboutP_len]
   exact h1 _ _
  ·exact h2 _ _
 split
 ·unfold removeP
  split
  ·rw [aboutP_len]
   exact h1 _ _
  ·split
   ·rw [aboutP_len]
    exact h1 _ _
   ·exact h2 _ _
 split
 ·unfold reactP
  split
  ·simp
  ·exact h2 _ _
 ·simp
theorem pairsP_snoc (id:Int) (x:ItM):∀ (l:List ItM) (n:Nat),pairsP id n (l++[x])=pairsP id n l++(if x.kind=0 then [⟨0,((n+(pairsP id n l).length:Nat):Int),id,x.part⟩] else [])
 | [],n=>by simp [pairsP]
 | y::r,n=>by
  simp only [List.cons_append,pairsP]
  split
  ·rw [pairsP_snoc id x r (n+1),List.cons_append,List.length_cons]
   congr 3
   rw [show n+1+(pairsP id (n+1) r).length=n+((pairsP id (n+1) r).length+1) by omega]
  ·exact pairsP_snoc id x r n
theorem pairsP_len (id:Int):∀ (l:List ItM) (n:Nat),(pairsP id n l).length≤l.length
 | [],n=>by simp [pairsP]
 | y::r,n=>by
  unfold pairsP
  split
  ·have:=pairsP_len id r (n+1)
   simp;omega
  ·have:=pairsP_len id r n
   simp;omega
theorem all_text_le:∀ L:List ItM,(∀ y∈L,y.text.length≤10000)→(L.flatMap (·.text)).length≤L.length * 10000
 | [],_=>by simp
 | y::r,h=>by
  have h1:=all_text_le r (fun z hz=>h z (List.mem_cons_of_mem _ hz))
  have h2:=h y (List.mem_cons_self ..)
  rw [List.flatMap_cons,List.length_append,List.length_cons]
  omega
def EvL.real (x:EvL) (i:Nat):Prop:=(x.ev.causes≠[]∧slBlk x.cA=some i)∨(x.ev.files≠[]∧slBlk x.fA=some i)
theorem EvL.real_at {x:EvL} {i:Nat} (h:x.real i):x.at_ i:=h.imp (fun h=>h.2) (fun h=>h.2)
theorem rdI_frame {w w':World} {A:Option Addr} {xs:List Int} (h:RdI w w.heap.size A xs) (hb:∀ i,xs≠[]→slBlk A=some i→w'.heap[i]?=w.heap[i]?) (hs:w.heap.size≤w'.heap.size):RdI w' w'.heap.size A xs:=by
 by_cases hx:xs=[]
 ·rw [hx]
  exact RdL.nil_
 ·exact h.turn (fun i hi _=>hb i hx hi) hs
theorem EvLOk.frame {w w':World} {x:EvL} (h:EvLOk w w.heap.size x) (hb:∀ i,x.real i→w'.heap[i]?=w.heap[i]?) (hs:w.heap.size≤w'.heap.size):EvLOk w' w'.heap.size x :=
 ⟨⟨rdI_frame h.ok.ca (fun i hx hi=>hb i (.inl ⟨hx,hi⟩)) hs,rdI_frame h.ok.fi (fun i hx hi=>hb i (.inr ⟨hx,hi⟩)) hs,h.ok.cl,h.ok.fl,h.ok.tx⟩,h.cap⟩
theorem rdI_lt {w:World} {B:Nat} {A:Option Addr} {xs:List Int} (h:RdI w B A xs) (hx:xs≠[]) {i:Nat} (hi:slBlk A=some i):i<B:=by
 obtain ⟨g9,o9,e9,h9,_⟩:=h.at_ (List.length_pos_iff.2 hx)
 rw [e9] at hi
 obtain rfl:g9=i:=Option.some.inj hi
 exact h9
theorem EvLOk.lt {w:World} {x:EvL} (h:EvLOk w w.heap.size x) {i:Nat} (hi:x.real i):i<w.heap.size:=by
 rcases hi with ⟨hx,hi⟩ | ⟨hx,hi⟩
 ·exact rdI_lt h.ok.ca hx hi
 ·exact rdI_lt h.ok.fi hx hi
theorem elE2:ElOk (fun w x=>EvLOk w w.heap.size x) EvL.real:=⟨fun _ _ _ h hb hs=>h.frame hb hs,fun _ _ _ h hi=>h.lt hi⟩
def ShOut (lo:Nat) (w:World) (N:NetL) (J:JL) (r:Int × EvM × TrS) (en:Ending) (w':World):Prop :=
 ∃ (y:EvL) (J2:JL),en=.returned (.tuple #[y.v,.int .i64 r.1])∧J2.jb=J.jb∧(r.1=0→y.ev=r.2.1)∧JAt lo w' N r.2.2 J2 (locF r.2.2.pairs)∧Turn J.own w w'∧(∀ i,J2.own i→J.own i∨w.heap.size≤i)∧EvLOk w' w'.heap.size y∧∀ i,y.real i→N.at_ i∨(w.heap.size≤i∧¬ J2.own i)
theorem okZero (w:World):EvLOk w w.heap.size ⟨zeroEv,none,0,none,0⟩ :=
 ⟨⟨RdL.nil_,RdL.nil_,by simp [zeroEv],by simp [zeroEv],by simp [zeroEv]⟩,by simp [zeroEv]⟩
theorem real_zero {i:Nat} (h:EvL.real ⟨zeroEv,none,0,none,0⟩ i):False:=by
 rcases h with h | h <;> exact h.1 rfl
theorem ev_kind1 {E:List EvM} {i:Nat} (C:EvC E i) (hk:(evAt E i).kind=1):0≤(evAt E i).target∧(evAt E i).target<E.length:=by
 have h:=msgB_at (edit_msg C hk)
 exact ⟨h.1,h.2.2.1⟩
structure SB (w:World) (b:Nat) (e:EvL):Prop where
 r0:w.heap[b]?=some (.cells zeroE 40 (0,0))
 e1:w.heap[b+1]?=some (.cells (e.ev.cs e.cA e.cc e.fA e.fc) 40 (0,0))
theorem SB.turn {F:Nat→Prop} {w w':World} {b:Nat} {e:EvL} (h:SB w b e) (t:Turn F w w') (h0:¬ F b) (h1:¬ F (b+1)):SB w' b e:=⟨t.keeps h.r0 h0,t.keeps h.e1 h1⟩
theorem SB.now {w w':World} {b:Nat} {e:EvL} (h:SB w b e) (hb:Below w.heap.size w w'):SB w' b e:=⟨(hb.block _ (box_lt h.r0)).trans h.r0,(hb.block _ (box_lt h.e1)).trans h.e1⟩
theorem ItsAt.turn {F:Nat→Prop} {base:Nat} {w w':World} {A:Option Addr} {c:Nat} {xs:List ItL} {L:List ItM} (h:ItsAt base w A c xs L) (t:Turn F w w') (hF:∀ i,F i→i<base):ItsAt base w' A c xs L :=
 ⟨h.own.turn (fun i hi hl=>t.block i hl (fun hf=>by have:=hF i hf;have:=(h.own.blk_lt hi).1;omega)),h.eq,fun x hx=>⟨(h.ok x hx).fi.turn (fun i hi hl=>t.block i hl (fun hf=>by have:=hF i hf;have:=(h.far x hx i hi).1;omega)) t.size,(h.ok x hx).cap⟩,h.far⟩
theorem shOut_of {lo:Nat} {w wx wS:World} {N:NetL} {J J2:JL} {r:Int × EvM × TrS} {y:EvL} {b:Nat} (hj:JAt lo wx N r.2.2 J2 (locF r.2.2.pairs)) (ht:Turn J.own w wx) (ho:∀ i,J2.own i→J.own i∨w.heap.size≤i) (hy:EvLOk wx wx.heap.size y)
  (hya:∀ i,y.real i→N.at_ i∨(w.heap.size≤i∧¬ J2.own i)) (hbJ:¬ J2.own b) (hbN:¬ N.at_ b) (hby:¬ y.real b) (hbw:w.heap.size≤b) (hg:wx.grownBy wS (some b)) (he:r.1=0→y.ev=r.2.1) (hjb:J2.jb=J.jb) :
  ShOut lo w N J r (.returned (.tuple #[y.v,.int .i64 r.1])) wS:=by
 have t:Turn (fun i=>i=b) wx wS:=Turn.grown hg (fun k hk=>(Option.some.inj hk).symm)
 refine ⟨y,J2,rfl,hjb,he,hj.turn t (fun i hi=>by rw [hi];exact ⟨hbJ,hbN⟩),ht.trans t (fun i hi=>.inr (by rw [hi];exact hbw)),ho,hy.frame (fun i hi=>t.block i (hy.lt hi) (fun e=>hby (e ▸ hi))) t.size,hya⟩
end Go.Proofs.YtlnnjdibkbabiaaGreatDoor
