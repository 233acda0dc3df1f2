/- Contracts and plain laws, joined: TjF. -/
import Derived.Test.YtlnnjdibkbabiaaGreatDoorQbp
/- Contract of show of package trip (layer 24). -/
set_option linter.unusedSimpArgs false
set_option linter.unusedVariables false
namespace Go.Proofs.YtlnnjdibkbabiaaGreatDoor
open _root_.Go.Lib (hid)
open Go.RowKit
set_option maxRecDepth 100000
set_option maxHeartbeats 4000000 in
theorem jShow_any {lo B:Nat} {N:NetL} {st:TrS} {J:JL} (k:Nat) (hk:k<N.E.length) (w:World) (hV:Vs B w) (h:JAt lo w N st J (locF st.pairs)) (hW:N.W=wayL N.p) (hpc:N.p.types.length≤N.pc) (hB:N.B=[]) (hbA:N.bA=none) (hbc:N.bc=0)
  (hC:EvC (evsL N.E) k) (hps:st.pairs.length≤50000) :
  Calls Tryz.prog 60 #[.pointer (some ⟨J.jb,0,none⟩),.int .i64 k] w (ShOut lo w N J (showP N.p N.W (evsL N.E) st k)):=by
 obtain ⟨eg,eo,hA,hg,hcc⟩:=h.net.ev.at_ hk
 have HEa:Hid (evAt (evsL N.E) k=N.E[k].ev):=hid (ev_at hk)
 have HEm:Hid (N.E[k]∈N.E):=hid (List.getElem_mem hk)
 have hb1:Below w.heap.size w (w.alloc (.cells zeroE 40)):=(Below.refl _ _).alloc (Nat.le_refl _) _
 have HRg:Hid ((w.alloc (.cells zeroE 40)).rangeAt eg (eo+k * 12) N.E[k].cs):=hid (fun j v hj=>(hb1.cell (p:=⟨eg,eo+k * 12+j,none⟩) hg).trans (hcc j v hj))
 have z23:=h.cell 23 (.slice N.eA N.E.length N.ec) rfl
 have hjl:=box_lt h.box
 rw [hA] at z23
 have HJ:=hid h
 have HV:=hid hV
 have HWq:=hid hW
 have HBs:=hid (And.intro hB (And.intro hbA hbc))
 have HCe:=hid hC
 clear h hV hcc hA hb1 hW hB hbA hbc hC
 obtain ⟨e,he⟩:∃ e,e=N.E[k]:=⟨_,rfl⟩
 rw [← he] at HEa HEm HRg
 clear he
 go_enter Tryz.func60,Tryz.ntmps60
 go_upto_region 2 with (first
  | ((with_reducible show wpList _ _ _ (Oper.mk _ (Op.load 40 _) _ _ _ _::_) _ _);refine wpList_load_g rfl 40 _ rfl eg (eo+k * 12) rfl (e.ev.cs e.cA e.cc e.fA e.fc).toList _ HRg.out Tryz.underlying40 rfl (by kernel_rfl) ?_)
  | fail)
 change Code.wp _ _ _ _ ((w.alloc (.cells zeroE 40)).alloc (.cells (e.ev.cs e.cA e.cc e.fA e.fc) 40))
 have HBw:Hid (Below w.heap.size w ((w.alloc (.cells zeroE 40)).alloc (.cells (e.ev.cs e.cA e.cc e.fA e.fc) 40))):=hid (((Below.refl _ _).alloc (Nat.le_refl _) _).alloc (by simp) _)
 have HS:Hid (SB ((w.alloc (.cells zeroE 40)).alloc (.cells (e.ev.cs e.cA e.cc e.fA e.fc) 40)) w.heap.size e):=hid (by
  obtain ⟨w1,h1⟩:∃ x,x=w.alloc (.cells zeroE 40):=⟨_,rfl⟩
  have g1:w1.heap[w.heap.size]?=some (.cells zeroE 40 (0,0)):=by rw [h1];exact (MapKept.heap_alloc w _).1
  have s1:w1.heap.size=w.heap.size+1:=by rw [h1];simp
  rw [← h1]
  refine ⟨(Below.heap_alloc w1 _ _ (by omega)).trans g1,?_⟩
  rw [← s1]
  exact (MapKept.heap_alloc w1 _).1)
 have HSz:Hid (((w.alloc (.cells zeroE 40)).alloc (.cells (e.ev.cs e.cA e.cc e.fA e.fc) 40)).heap.size=w.heap.size+2):=hid (by simp)
 have HLt:=hid HJ.out.lt
 have HOl:=hid HJ.out.old
 have HJ0:=HJ
 obtain ⟨b,hb⟩:∃ y,y=w.heap.size:=⟨_,rfl⟩
 rw [← hb] at HS HSz ⊢
 have HBq:=hid hb
 clear hb z23 HRg hjl
 generalize (w.alloc (.cells zeroE 40)).alloc (.cells (e.ev.cs e.cA e.cc e.fA e.fc) 40)=wr at *
 have HJ:=hid (HJ0.out.now HBw.out)
 have HVr:=hid (HV.out.now HBw.out)
 clear HJ0 HV
 obtain ⟨L,hL⟩:∃ y,y=allP N.p N.W (evsL N.E) [] k:=⟨_,rfl⟩
 have HL:=hid hL
 have HF:Hid (∀ wq,Below wr.heap.size wr wq→Calls Tryz.prog 14 #[N.p.v N.pA N.pc,.slice N.wA N.W.length N.wc,.slice N.eA N.E.length N.ec,.slice none 0 0,.int .i64 k] wq (ForthOut L wq)):=hid (fun wq hq=>by
  have:=forth_any N k hk wq (HVr.out.now hq) (HJ.out.now hq).net HWq.out hpc
  rw [HBs.out.1,HBs.out.2.1,HBs.out.2.2] at this
  rw [hL]
  exact this)
 clear hL HVr
 go_cut [7,8] (fun its er wx=>∃ A c xs,its=.slice A L.length c∧er=.int .i64 0∧ItsAt (b+2) wx A c xs L∧Below wr.heap.size wr wx)
 case first=>as_aux_lemma =>
  have HSP:Hid (∀ wq,Below wr.heap.size wr wq→wq.rangeAt J.jb 0 (N.p.cs N.pA N.pc).toList):=hid (fun wq hq=>(HJ.out.now hq).prof)
  refine wp_region_J (S:=fun w'=>Below wr.heap.size wr w') (fun _=>false) (by kernel_rfl) ((Below.refl _ _).drew) (fun hHeld=>?_)
  refine wpAnyJ_pure (i:=0) (v:=?_) rfl (by kernel_rfl) (by kernel_rfl) (by kernel_rfl) (fun _ _ _ h=>h) (Or.inl ⟨by rfl,?_⟩) ?_
  rotate_left
  ·intro wq _
   go_simp
   try with_reducible rfl
  simp only [Act.put,sA,sB,sC]
  refine wpAnyJ_pure (i:=1) (v:=?_) rfl (by kernel_rfl) (by kernel_rfl) (by kernel_rfl) (fun _ _ _ h=>h) (Or.inl ⟨by rfl,?_⟩) ?_
  rotate_left
  ·intro wq _
   go_simp
   try with_reducible rfl
  simp only [Act.put,sA,sB,sC]
  refine wpAnyJ_pure (i:=2) (v:=?_) rfl (by kernel_rfl) (by kernel_rfl) (by kernel_rfl) (fun _ _ _ h=>h) (Or.inl ⟨by rfl,?_⟩) ?_
  rotate_left
  ·intro wq _
   go_simp
   try with_reducible rfl
  simp only [Act.put,sA,sB,sC]
  try simp only [List.getElem_toArray,List.getElem_cons_zero,List.getElem_cons_succ,Act.put,List.setIfInBounds_toArray,List.set_cons_zero,List.set_cons_succ]
  refine' wpAnyJ_take (i:=3) rfl (by kernel_rfl) (by kernel_rfl) (by kernel_rfl) (by kernel_rfl) (fun _ _ _ h=>h) (yieldsIf_load_mid (by rfl) _ _ rfl _ _ rfl _ _ HSP.out Tryz.underlying24 rfl (by kernel_rfl)) hHeld ?_
  try simp only [List.getElem_toArray,List.getElem_cons_zero,List.getElem_cons_succ,Act.put,List.setIfInBounds_toArray,List.set_cons_zero,List.set_cons_succ]
  refine wpAnyJ_pure (i:=4) (v:=?_) rfl (by kernel_rfl) (by kernel_rfl) (by kernel_rfl) (fun _ _ _ h=>h) (Or.inl ⟨by rfl,?_⟩) ?_
  rotate_left
  ·intro wq _
   go_simp
   try with_reducible rfl
  simp only [Act.put,sA,sB,sC]
  refine wpAnyJ_pure (i:=5) (v:=?_) rfl (by kernel_rfl) (by kernel_rfl) (by kernel_rfl) (fun _ _ _ h=>h) (Or.inl ⟨by rfl,?_⟩) ?_
  rotate_left
  ·intro wq _
   go_simp
   try with_reducible rfl
  simp only [Act.put,sA,sB,sC]
  refine wpAnyJ_pure (i:=6) (v:=?_) rfl (by kernel_rfl) (by kernel_rfl) (by kernel_rfl) (fun _ _ _ h=>h) (Or.inl ⟨by rfl,?_⟩) ?_
  rotate_left
  ·intro wq _
   go_simp
   try with_reducible rfl
  simp only [Act.put,sA,sB,sC]
  try simp only [List.getElem_toArray,List.getElem_cons_zero,List.getElem_cons_succ,Act.put,List.setIfInBounds_toArray,List.set_cons_zero,List.set_cons_succ]
  refine wpAnyJ_take (i:=7) (v:=?_) rfl (by kernel_rfl) (by kernel_rfl) (by kernel_rfl) (by kernel_rfl) (fun _ _ _ h=>h) (Or.inl ⟨by rfl,?_⟩) hHeld ?_
  rotate_left
  ·intro wq hSq
   have z22:=(HJ.out.now hSq).cell 22 (.slice N.wA N.W.length N.wc) rfl
   go_simp
   try with_reducible rfl
  simp only [Act.put,sA,sB,sC]
  try simp only [List.getElem_toArray,List.getElem_cons_zero,List.getElem_cons_succ,Act.put,List.setIfInBounds_toArray,List.set_cons_zero,List.set_cons_succ]
  refine wpAnyJ_pure (i:=8) (v:=?_) rfl (by kernel_rfl) (by kernel_rfl) (by kernel_rfl) (fun _ _ _ h=>h) (Or.inl ⟨by rfl,?_⟩) ?_
  rotate_left
  ·intro wq _
   go_simp
   try with_reducible rfl
  simp only [Act.put,sA,sB,sC]
  refine wpAnyJ_pure (i:=9) (v:=?_) rfl (by kernel_rfl) (by kernel_rfl) (by kernel_rfl) (fun _ _ _ h=>h) (Or.inl ⟨by rfl,?_⟩) ?_
  rotate_left
  ·intro wq _
   go_simp
   try with_reducible rfl
  simp only [Act.put,sA,sB,sC]
  refine wpAnyJ_pure (i:=10) (v:=?_) rfl (by kernel_rfl) (by kernel_rfl) (by kernel_rfl) (fun _ _ _ h=>h) (Or.inl ⟨by rfl,?_⟩) ?_
  rotate_left
  ·intro wq _
   go_simp
   try with_reducible rfl
  simp only [Act.put,sA,sB,sC]
  try simp only [List.getElem_toArray,List.getElem_cons_zero,List.getElem_cons_succ,Act.put,List.setIfInBounds_toArray,List.set_cons_zero,List.set_cons_succ]
  refine wpAnyJ_take (i:=11) (v:=?_) rfl (by kernel_rfl) (by kernel_rfl) (by kernel_rfl) (by kernel_rfl) (fun _ _ _ h=>h) (Or.inl ⟨by rfl,?_⟩) hHeld ?_
  rotate_left
  ·intro wq hSq
   have z23:=(HJ.out.now hSq).cell 23 (.slice N.eA N.E.length N.ec) rfl
   go_simp
   try with_reducible rfl
  simp only [Act.put,sA,sB,sC]
  try simp only [List.getElem_toArray,List.getElem_cons_zero,List.getElem_cons_succ,Act.put,List.setIfInBounds_toArray,List.set_cons_zero,List.set_cons_succ]
  refine wpAnyJ_pure (i:=12) (v:=?_) rfl (by kernel_rfl) (by kernel_rfl) (by kernel_rfl) (fun _ _ _ h=>h) (Or.inl ⟨by rfl,?_⟩) ?_
  rotate_left
  ·intro wq _
   go_simp
   try with_reducible rfl
  simp only [Act.put,sA,sB,sC]
  try simp only [List.getElem_toArray,List.getElem_cons_zero,List.getElem_cons_succ,Act.put,List.setIfInBounds_toArray,List.set_cons_zero,List.set_cons_succ]
  refine wpAnyJ_one (i:=13) rfl (by kernel_rfl) (fun K hK=>?_)
  go_simp
  refine (HF.out wr.drew (Below.refl _ _).drew).mono ?_
  rintro e4 w4 ⟨A,c,xs,rfl,hits,hb4⟩
  go_wp2_with fail
  refine hK.out _ _ (fun _ h=>h.trans (hb4.mono h.size)) ?_
  clear hK K
  try simp only [List.getElem_toArray,List.getElem_cons_zero,List.getElem_cons_succ,Act.put,List.setIfInBounds_toArray,List.set_cons_zero,List.set_cons_succ]
  refine wpAnyJ_pure (i:=14) (v:=?_) rfl (by kernel_rfl) (by kernel_rfl) (by kernel_rfl) (fun _ _ _ h=>h) (Or.inl ⟨by rfl,?_⟩) ?_
  rotate_left
  ·intro wq _
   go_simp
   try with_reducible rfl
  simp only [Act.put,sA,sB,sC]
  refine wpAnyJ_pure (i:=15) (v:=?_) rfl (by kernel_rfl) (by kernel_rfl) (by kernel_rfl) (fun _ _ _ h=>h) (Or.inl ⟨by rfl,?_⟩) ?_
  rotate_left
  ·intro wq _
   go_simp
   try with_reducible rfl
  simp only [Act.put,sA,sB,sC]
  refine wpAnyJ_pure (i:=16) (v:=?_) rfl (by kernel_rfl) (by kernel_rfl) (by kernel_rfl) (fun _ _ _ h=>h) (Or.inl ⟨by rfl,?_⟩) ?_
  rotate_left
  ·intro wq _
   go_simp
   try with_reducible rfl
  simp only [Act.put,sA,sB,sC]
  try simp only [List.getElem_toArray,List.getElem_cons_zero,List.getElem_cons_succ,Act.put,List.setIfInBounds_toArray,List.set_cons_zero,List.set_cons_succ]
  refine wpAnyJ_pure (i:=17) (v:=?_) rfl (by kernel_rfl) (by kernel_rfl) (by kernel_rfl) (fun _ _ _ h=>h) (Or.inl ⟨by rfl,?_⟩) ?_
  rotate_left
  ·intro wq _
   go_simp
   try with_reducible rfl
  simp only [Act.put,sA,sB,sC]
  refine wpAnyJ_pure (i:=18) (v:=?_) rfl (by kernel_rfl) (by kernel_rfl) (by kernel_rfl) (fun _ _ _ h=>h) (Or.inl ⟨by rfl,?_⟩) ?_
  rotate_left
  ·intro wq _
   go_simp
   try with_reducible rfl
  simp only [Act.put,sA,sB,sC]
  try simp only [List.getElem_toArray,List.getElem_cons_zero,List.getElem_cons_succ,Act.put,List.setIfInBounds_toArray,List.set_cons_zero,List.set_cons_succ]
  refine wpAnyJ_done (by kernel_rfl) ?_ _
  go_wp2_with fail
  go_meet
  exact ⟨A,c,xs,rfl,rfl,by rw [← HSz.out];exact hits,(Below.refl wr.heap.size wr).drew.trans hb4⟩
 case rest =>
  obtain ⟨A,c,xs,rfl,rfl,hits,hb4⟩:=hcut
  have HI:=hid hits
  have HLe:Hid (xs.length=L.length):=hid hits.len
  have HJ4:=hid (HJ.out.now hb4)
  have HS4:=hid (HS.out.now hb4)
  have HB4:Hid (Below w.heap.size w wc):=hid (HBw.out.trans (hb4.mono HBw.out.size))
  clear hits hb4 HF HJ HS HBw HSz
  clear wr
  obtain ⟨wr,hwr⟩:∃ y,y=wc:=⟨_,rfl⟩
  subst hwr
  have HIq:Hid (itsL xs=L):=hid HI.out.eq
  have HL20:Hid (L.length≤20):=hid (by rw [HL.out,HWq.out];exact all_count HJ4.out.net.ck)
  have HOb:Hid (∀ i,J.own i→i<b):=hid (fun i hi=>by rw [HBq.out];exact HLt.out i hi)
  have HNb:Hid (∀ i,N.at_ i→i<b):=hid (fun i hi=>by rw [HBq.out];exact HOl.out i hi)
  obtain ⟨u,hu⟩:∃ u:Int→Bool,u=fun c=>st.uses c || usedB N.p (evsL N.E) e.ev L c:=⟨_,rfl⟩
  have HNo:Hid (Calls Tryz.prog 87 #[.pointer (some ⟨J.jb,0,none⟩),e.v,.slice A L.length c] wr fun en w'=>en=.returned (.tuple #[])∧JAt lo w' N ⟨st.pairs,u⟩ J (locF st.pairs)∧Turn J.own wr w'):=hid (by
   have:=jNote_any e xs A L.length c wr HJ4.out HLe.out.symm (HI.out.own.rd layIt) (fun i hi ho=>by have:=(HI.out.own.blk_lt hi).1;have:=HOb.out i ho;omega) (by have:=HLe.out;have:=HL20.out;omega) (fun h1=>by
    have:=ev_kind1 HCe.out (by rw [HEa.out];exact h1)
    rw [HEa.out] at this
    simpa using this)
   rw [HIq.out,← hu] at this
   exact this)
  have HRe:=hid (range_block HS4.out.e1 rfl)
  have HR0:Hid (L=[]→showP N.p N.W (evsL N.E) st k=(0,e.ev,⟨st.pairs,u⟩)):=hid (fun h0=>by
   unfold showP
   simp only [HEa.out,← HL.out,← hu,if_pos h0])
  have HR1:Hid (L≠[]→showP N.p N.W (evsL N.E) st k=((comeP N.p (newPairs st k L) e.ev (L.headD noIt)).2,fixP e.ev L (comeP N.p (newPairs st k L) e.ev (L.headD noIt)).1,⟨newPairs st k L,u⟩)):=hid (fun h0=>by
   unfold showP
   simp only [HEa.out,← HL.out,← hu,if_neg h0])
  have HU:=hid hu
  clear hu
  go_upto_region 6 with (first
   | ((with_reducible show wpList _ _ _ (Oper.mk _ (Op.load 40 _) _ _ _ _::_) _ _);refine wpList_load_g rfl 40 _ rfl (b+1) 0 rfl (e.ev.cs e.cA e.cc e.fA e.fc).toList _ HRe.out Tryz.underlying40 rfl (by kernel_rfl) ?_)
   | (go_at_call 87;refine HNo.out.mono ?_;rintro e5 w5 ⟨rfl,hj5,ht5⟩)
   | fail)
  have HJ:=hid hj5
  have HT:Hid (Turn J.own w w5):=hid ((Turn.below (F:=J.own) HB4.out).trans ht5 (fun i hi=>.inl hi))
  have HS:=hid (HS4.out.turn ht5 (fun hf=>by have:=HOb.out _ hf;omega) (fun hf=>by have:=HOb.out _ hf;omega))
  have HI5:=hid (HI.out.turn ht5 (fun i hi=>by have:=HOb.out i hi;omega))
  clear hj5 ht5 HNo HRe HJ4 HS4 HB4 HI HIq HU
  clear wr
  obtain ⟨wr,hwr⟩:∃ y,y=w5:=⟨_,rfl⟩
  subst hwr
  have HI:=HI5
  clear HI5
  have HTh:Hid (wr.there b 0 12):=hid (there_row HS.out.r0)
  by_cases hL0:L=[]
  ·have HR:=hid (HR0.out hL0)
   have hq:((L.length:Int)==0)=true:=by rw [hL0];rfl
   have HRe:=hid (range_block HS.out.e1 rfl)
   clear hL0 HR0 HR1 HL
   go_wp2_with (first
    | ((with_reducible show wpList _ _ _ (Oper.mk _ (Op.load 40 _) _ _ _ _::_) _ _);refine wpList_load_g rfl 40 _ rfl (b+1) 0 rfl (e.ev.cs e.cA e.cc e.fA e.fc).toList _ HRe.out Tryz.underlying40 rfl (by kernel_rfl) ?_)
    | ((with_reducible show wpList _ _ _ (Oper.mk _ (Op.store 40 (.tmp 4) _) _ _ _ _::_) _ _);refine wpList_store_box rfl 40 _ _ rfl b (e.ev.cs e.cA e.cc e.fA e.fc) rfl rfl HTh.out (by kernel_rfl) (evOne _ _ _ _ _) ?_;intro wS hrS htS hgS;have HRS:=hid hrS;have HGS:=hid hgS;clear hrS htS hgS)
    | fail)
   refine ret_box2 4 5 40 rfl b (e.ev.cs e.cA e.cc e.fA e.fc).toList _ (.int .i64 0) rfl rfl HRS.out Tryz.underlying40 rfl (by kernel_rfl) rfl ?_
   rw [HR.out]
   have hN:∀ i,e.real i→N.at_ i:=fun i hi=>.inr (.inr (.inr (.inr ⟨e,HEm.out,EvL.real_at hi⟩)))
   exact shOut_of (y:=e) (J2:=J) (b:=b) HJ.out HT.out (fun i hi=>.inl hi) (HJ.out.net.ok e HEm.out) (fun i hi=>.inl (hN i hi)) (fun hf=>by have:=HOb.out b hf;omega) (fun hf=>by have:=HNb.out b hf;omega) (fun hf=>by have:=HNb.out b (hN b hf);omega) (by have:=HBq.out;omega) HGS.out (fun _=>rfl) rfl
  ·have hL1:0<L.length:=List.length_pos_iff.2 hL0
   have HR:=hid (HR1.out hL0)
   have hq:((L.length:Int)==0)=false:=beq_eq_false_iff_ne.2 (by omega)
   have HLp:=hid hL1
   have HSm:Hid (∀ y∈L,ItSmall y):=hid (by
    rw [HL.out,HWq.out]
    exact all_small HJ.out.net.ck (by have:=HJ.out.net.en;simpa using this) HCe.out (right_nums HCe.out.right).2.2.1)
   clear hL0 hL1 HR0 HR1 HL
   obtain ⟨wL,hwL⟩:∃ y,y=wr:=⟨_,rfl⟩
   subst hwL
   go_upto_region 8 with fail
   go_wp2_with fail
   go_loopw [10,11,54] (fun _ _ i wx=>∃ (m:Nat) (A3:Option Addr) (c3:Nat),m≤L.length∧i=.int .i64 m∧JAt lo wx N ⟨st.pairs++pairsP k st.pairs.length (L.take m),u⟩ {J with qA:=A3,qc:=c3} (locF (st.pairs++pairsP k st.pairs.length (L.take m)))∧Turn J.own wL wx∧∀ i,({J with qA:=A3,qc:=c3}:JL).own i→J.own i∨wL.heap.size≤i) (fun _ _ i _=>L.length - (intOf i).toNat)
   case atStart=>exact ⟨0,J.qA,J.qc,Nat.zero_le _,rfl,by simpa [pairsP] using HJ.out,Turn.refl _ _,fun i hi=>.inl hi⟩
   case round =>
    obtain ⟨m,A3,c3,hm,rfl,hj,ht,ho⟩:=hrel
    have HJm:=hid hj
    have HTm:=hid ht
    have HOm:=hid ho
    have HIm:=hid (HI.out.turn ht (fun i hi=>by have:=HOb.out i hi;omega))
    have hl20:=HL20.out
    clear hj ht ho
    by_cases hlt:m<L.length
    ·have hlt2:m<xs.length:=by rw [HLe.out];exact hlt
     have hgk:L[m]=xs[m].it:=by
      have h9:L[m]?=some xs[m].it:=by
       rw [← HIm.out.eq,List.getElem?_map,List.getElem?_eq_getElem hlt2]
       rfl
      rw [List.getElem?_eq_getElem hlt] at h9
      exact Option.some.inj h9
     have HTk:Hid (st.pairs++pairsP k st.pairs.length (L.take (m+1))=(st.pairs++pairsP k st.pairs.length (L.take m))++(if xs[m].it.kind=0 then [⟨0,((st.pairs++pairsP k st.pairs.length (L.take m)).length:Nat),k,xs[m].it.part⟩] else [])):=hid (by
      rw [List.take_succ_eq_append_getElem hlt,pairsP_snoc,hgk,List.length_append,List.append_assoc])
     have HPl:Hid ((st.pairs++pairsP k st.pairs.length (L.take m)).length≤60000):=hid (by
      have h1:=pairsP_len k (L.take m) st.pairs.length
      have h2:=HL20.out
      rw [List.length_take] at h1
      rw [List.length_append]
      omega)
     have hsm:=HSm.out _ (List.getElem_mem hlt)
     rw [hgk] at hsm
     have HPin:Hid (InInt xs[m].it.part):=hid ⟨by have:=hsm.part;omega,by have:=hsm.part;omega⟩
     obtain ⟨g,off,rfl,hg,hcc⟩:=(HIm.out.own.rd layIt).at_ hlt2
     have HRg:Hid (wr.rangeAt g (off+m * 11) xs[m].cs):=hid (fun j v hj=>hcc j v hj)
     clear hcc hgk hsm
     generalize st.pairs++pairsP k st.pairs.length (L.take m)=ps at *
     generalize xs[m]=x at *
     clear hlt2
     go_upto_region 11 with (first
      | ((with_reducible show wpList _ _ _ (Oper.mk _ (Op.load 46 _) _ _ _ _::_) _ _);refine wpList_load_g rfl 46 _ rfl g (off+m * 11) rfl (x.it.cs x.fA x.fc).toList _ HRg.out Tryz.underlying46 rfl (by kernel_rfl) ?_)
      | fail)
     change Code.wp _ _ _ _ (wr.alloc (.cells (x.it.cs x.fA x.fc) 46))
     have hb1:Below wr.heap.size wr (wr.alloc (.cells (x.it.cs x.fA x.fc) 46)):=(Below.refl _ _).alloc (Nat.le_refl _) _
     have hx1:(wr.alloc (.cells (x.it.cs x.fA x.fc) 46)).heap[wr.heap.size]?=some (.cells (x.it.cs x.fA x.fc) 46 (0,0)):=(MapKept.heap_alloc wr _).1
     have HXo:Hid (¬ ({J with qA:=A3,qc:=c3}:JL).own wr.heap.size):=hid (fun hf=>by have:=HJm.out.lt _ hf;omega)
     have HJ1:=hid (HJm.out.now hb1)
     have HT1:=hid (HTm.out.trans (Turn.below (F:=J.own) hb1) (fun i hi=>.inl hi))
     have HX1:=hid hx1
     clear hb1 hx1 HJm HTm HRg HIm
     obtain ⟨xb,hxb⟩:∃ y,y=wr.heap.size:=⟨_,rfl⟩
     rw [← hxb] at HX1 HXo ⊢
     clear hxb
     generalize wr.alloc (.cells (x.it.cs x.fA x.fc) 46)=w1 at *
     have r3:=box_cell HX1.out 3 (.int .i64 x.it.kind) rfl
     by_cases hp:x.it.kind=0
     ·have hb0:(x.it.kind==0)=true:=by simpa using hp
      have HV:Hid (st.pairs++pairsP k st.pairs.length (L.take (m+1))=ps++[⟨0,(ps.length:Nat),k,x.it.part⟩]):=hid (by rw [HTk.out,if_pos hp])
      have z24:=HJ1.out.cell 24 (.slice A3 ps.length c3) rfl
      have z25:=HJ1.out.cell 25 (.map (some J.lb)) rfl
      have y1:=box_cell HX1.out 1 (.int .i64 x.it.part) rfl
      clear HTk hp
      go_upto_region 13 with fail
      refine wp_region_J (S:=fun w'=>w'.cell? ⟨J.jb,25,none⟩=some (.map (some J.lb))∧w'.cell? ⟨xb,1,none⟩=some (.int .i64 x.it.part)) (fun i=>[9].contains i) (by kernel_rfl) (⟨z25,y1⟩) (fun hHeld=>?_)
      refine wpAnyJ_pure (i:=0) (v:=?_) rfl (by kernel_rfl) (by kernel_rfl) (by kernel_rfl) (fun _ _ _ h=>h) (Or.inl ⟨by rfl,?_⟩) ?_
      rotate_left
      ·intro wq _
       go_simp
       try with_reducible rfl
      simp only [Act.put,sA,sB,sC]
      refine wpAnyJ_pure (i:=1) (v:=?_) rfl (by kernel_rfl) (by kernel_rfl) (by kernel_rfl) (fun _ _ _ h=>h) (Or.inl ⟨by rfl,?_⟩) ?_
      rotate_left
      ·intro wq _
       go_simp
       try with_reducible rfl
      simp only [Act.put,sA,sB,sC]
      refine wpAnyJ_pure (i:=2) (v:=?_) rfl (by kernel_rfl) (by kernel_rfl) (by kernel_rfl) (fun _ _ _ h=>h) (Or.inl ⟨by rfl,?_⟩) ?_
      rotate_left
      ·intro wq _
       go_simp
       try with_reducible rfl
      simp only [Act.put,sA,sB,sC]
      try simp only [List.getElem_toArray,List.getElem_cons_zero,List.getElem_cons_succ,Act.put,List.setIfInBounds_toArray,List.set_cons_zero,List.set_cons_succ]
      refine wpAnyJ_take (i:=3) (v:=?_) rfl (by kernel_rfl) (by kernel_rfl) (by kernel_rfl) (by kernel_rfl) (fun _ _ _ h=>h) (Or.inl ⟨by rfl,?_⟩) hHeld ?_
      rotate_left
      ·intro wq hSq
       obtain ⟨h2,h3⟩:=hSq
       go_simp
       try with_reducible rfl
      simp only [Act.put,sA,sB,sC]
      try simp only [List.getElem_toArray,List.getElem_cons_zero,List.getElem_cons_succ,Act.put,List.setIfInBounds_toArray,List.set_cons_zero,List.set_cons_succ]
      refine wpAnyJ_pure (i:=4) (v:=?_) rfl (by kernel_rfl) (by kernel_rfl) (by kernel_rfl) (fun _ _ _ h=>h) (Or.inl ⟨by rfl,?_⟩) ?_
      rotate_left
      ·intro wq _
       go_simp
       try with_reducible rfl
      simp only [Act.put,sA,sB,sC]
      refine wpAnyJ_pure (i:=5) (v:=?_) rfl (by kernel_rfl) (by kernel_rfl) (by kernel_rfl) (fun _ _ _ h=>h) (Or.inl ⟨by rfl,?_⟩) ?_
      rotate_left
      ·intro wq _
       go_simp
       try with_reducible rfl
      simp only [Act.put,sA,sB,sC]
      try simp only [List.getElem_toArray,List.getElem_cons_zero,List.getElem_cons_succ,Act.put,List.setIfInBounds_toArray,List.set_cons_zero,List.set_cons_succ]
      refine wpAnyJ_take (i:=6) (v:=?_) rfl (by kernel_rfl) (by kernel_rfl) (by kernel_rfl) (by kernel_rfl) (fun _ _ _ h=>h) (Or.inl ⟨by rfl,?_⟩) hHeld ?_
      rotate_left
      ·intro wq hSq
       obtain ⟨h2,h3⟩:=hSq
       go_simp
       try with_reducible rfl
      simp only [Act.put,sA,sB,sC]
      try simp only [List.getElem_toArray,List.getElem_cons_zero,List.getElem_cons_succ,Act.put,List.setIfInBounds_toArray,List.set_cons_zero,List.set_cons_succ]
      refine wpAnyJ_pure (i:=7) (v:=?_) rfl (by kernel_rfl) (by kernel_rfl) (by kernel_rfl) (fun _ _ _ h=>h) (Or.inl ⟨by rfl,?_⟩) ?_
      rotate_left
      ·intro wq _
       go_simp
       try with_reducible rfl
      simp only [Act.put,sA,sB,sC]
      try simp only [List.getElem_toArray,List.getElem_cons_zero,List.getElem_cons_succ,Act.put,List.setIfInBounds_toArray,List.set_cons_zero,List.set_cons_succ]
      refine wpAnyJ_pure (i:=8) (v:=?_) rfl (by kernel_rfl) (by kernel_rfl) (by kernel_rfl) (fun _ _ _ h=>h) (Or.inl ⟨by rfl,?_⟩) ?_
      rotate_left
      ·intro wq _
       go_simp
       try with_reducible rfl
      simp only [Act.put,sA,sB,sC]
      try simp only [List.getElem_toArray,List.getElem_cons_zero,List.getElem_cons_succ,Act.put,List.setIfInBounds_toArray,List.set_cons_zero,List.set_cons_succ]
      obtain ⟨w6,hrun,hj6,ht6,hs6⟩:=(HJ1.out.now (Below.refl w1.heap.size w1).drew).addLoc ((k:Int),x.it.part) ⟨⟨by omega,by have:=HJ1.out.net.en;omega⟩,HPin.out⟩ (ps.length:Int)
      have HJ6:=hid hj6
      have HT6:=hid ht6
      clear hj6 ht6 hs6
      unfold kvP at hrun
      simp only at hrun
      refine wpAnyJ_one (i:=9) rfl (by kernel_rfl) (fun K hK=>?_)
      go_simp
      refine hK.out _ _ (fun h=>nomatch h) ?_
      clear hK K
      refine wpAnyJ_done (by kernel_rfl) ?_ _
      try simp only [List.getElem_toArray,List.getElem_cons_zero,List.getElem_cons_succ,Act.put,List.setIfInBounds_toArray,List.set_cons_zero,List.set_cons_succ]
      have HX6:=hid (HT6.out.keepsJ HX1.out HXo.out)
      have HO6:Hid (∀ i,({J with qA:=A3,qc:=c3}:JL).own i→J.own i∨wL.heap.size≤i):=HOm
      have HTt:Hid (Turn J.own wL w6):=hid (HT1.out.drew.trans HT6.out HOm.out)
      clear hrun hHeld z24 z25 y1 r3 HJ1 HT1 HX1
      go_upto_region 14 with fail
      have z24:=HJ6.out.cell 24 (.slice A3 ps.length c3) rfl
      have y1:=box_cell HX6.out 1 (.int .i64 x.it.part) rfl
      have hjl:=box_lt HJ6.out.box
      have hxl:=box_lt HX6.out
      refine wp_region_J (S:=fun w'=>w'.cell? ⟨J.jb,24,none⟩=some (.slice A3 ps.length c3)∧w'.cell? ⟨xb,1,none⟩=some (.int .i64 x.it.part)) (fun i=>[14].contains i) (by kernel_rfl) (⟨z24,y1⟩) (fun hHeld=>?_)
      refine wpAnyJ_pure (i:=0) (v:=?_) rfl (by kernel_rfl) (by kernel_rfl) (by kernel_rfl) (fun _ _ _ h=>h) (Or.inl ⟨by rfl,?_⟩) ?_
      rotate_left
      ·intro wq _
       go_simp
       try with_reducible rfl
      simp only [Act.put,sA,sB,sC]
      refine wpAnyJ_pure (i:=1) (v:=?_) rfl (by kernel_rfl) (by kernel_rfl) (by kernel_rfl) (fun _ _ _ h=>h) (Or.inl ⟨by rfl,?_⟩) ?_
      rotate_left
      ·intro wq _
       go_simp
       try with_reducible rfl
      simp only [Act.put,sA,sB,sC]
      refine wpAnyJ_pure (i:=2) (v:=?_) rfl (by kernel_rfl) (by kernel_rfl) (by kernel_rfl) (fun _ _ _ h=>h) (Or.inl ⟨by rfl,?_⟩) ?_
      rotate_left
      ·intro wq _
       go_simp
       try with_reducible rfl
      simp only [Act.put,sA,sB,sC]
      refine wpAnyJ_pure (i:=3) (v:=?_) rfl (by kernel_rfl) (by kernel_rfl) (by kernel_rfl) (fun _ _ _ h=>h) (Or.inl ⟨by rfl,?_⟩) ?_
      rotate_left
      ·intro wq _
       go_simp
       try with_reducible rfl
      simp only [Act.put,sA,sB,sC]
      try simp only [List.getElem_toArray,List.getElem_cons_zero,List.getElem_cons_succ,Act.put,List.setIfInBounds_toArray,List.set_cons_zero,List.set_cons_succ]
      refine wpAnyJ_take (i:=4) (v:=?_) rfl (by kernel_rfl) (by kernel_rfl) (by kernel_rfl) (by kernel_rfl) (fun _ _ _ h=>h) (Or.inl ⟨by rfl,?_⟩) hHeld ?_
      rotate_left
      ·intro wq hSq
       obtain ⟨h2,h3⟩:=hSq
       go_simp
       try with_reducible rfl
      simp only [Act.put,sA,sB,sC]
      try simp only [List.getElem_toArray,List.getElem_cons_zero,List.getElem_cons_succ,Act.put,List.setIfInBounds_toArray,List.set_cons_zero,List.set_cons_succ]
      refine wpAnyJ_pure (i:=5) (v:=?_) rfl (by kernel_rfl) (by kernel_rfl) (by kernel_rfl) (fun _ _ _ h=>h) (Or.inl ⟨by rfl,?_⟩) ?_
      rotate_left
      ·intro wq _
       go_simp
       try with_reducible rfl
      simp only [Act.put,sA,sB,sC]
      refine wpAnyJ_pure (i:=6) (v:=?_) rfl (by kernel_rfl) (by kernel_rfl) (by kernel_rfl) (fun _ _ _ h=>h) (Or.inl ⟨by rfl,?_⟩) ?_
      rotate_left
      ·intro wq _
       go_simp
       try with_reducible rfl
      simp only [Act.put,sA,sB,sC]
      refine wpAnyJ_pure (i:=7) (v:=?_) rfl (by kernel_rfl) (by kernel_rfl) (by kernel_rfl) (fun _ _ _ h=>h) (Or.inl ⟨by rfl,?_⟩) ?_
      rotate_left
      ·intro wq _
       go_simp
       try with_reducible rfl
      simp only [Act.put,sA,sB,sC]
      try simp only [List.getElem_toArray,List.getElem_cons_zero,List.getElem_cons_succ,Act.put,List.setIfInBounds_toArray,List.set_cons_zero,List.set_cons_succ]
      refine wpAnyJ_take (i:=8) (v:=?_) rfl (by kernel_rfl) (by kernel_rfl) (by kernel_rfl) (by kernel_rfl) (fun _ _ _ h=>h) (Or.inl ⟨by rfl,?_⟩) hHeld ?_
      rotate_left
      ·intro wq hSq
       obtain ⟨h2,h3⟩:=hSq
       go_simp
       try with_reducible rfl
      simp only [Act.put,sA,sB,sC]
      try simp only [List.getElem_toArray,List.getElem_cons_zero,List.getElem_cons_succ,Act.put,List.setIfInBounds_toArray,List.set_cons_zero,List.set_cons_succ]
      refine wpAnyJ_pure (i:=9) (v:=?_) rfl (by kernel_rfl) (by kernel_rfl) (by kernel_rfl) (fun _ _ _ h=>h) (Or.inl ⟨by rfl,?_⟩) ?_
      rotate_left
      ·intro wq _
       go_simp
       try with_reducible rfl
      simp only [Act.put,sA,sB,sC]
      try simp only [List.getElem_toArray,List.getElem_cons_zero,List.getElem_cons_succ,Act.put,List.setIfInBounds_toArray,List.set_cons_zero,List.set_cons_succ]
      refine wpAnyJ_one (i:=10) rfl (by kernel_rfl) (fun K hK=>?_)
      go_simp
      refine hK.out _ _ (fun _ h=>⟨(cell_old _ _ J.jb 24 hjl).trans h.1,(cell_old _ _ xb 1 hxl).trans h.2⟩) ?_
      clear hK K
      try simp only [List.getElem_toArray,List.getElem_cons_zero,List.getElem_cons_succ,Act.put,List.setIfInBounds_toArray,List.set_cons_zero,List.set_cons_succ]
      have HBd:=hid (show Below w6.heap.size w6 (w6.drew.alloc (.cells #[.int .i64 0,.int .i64 ps.length,.int .i64 k,.int .i64 x.it.part] 56)) from (Below.refl _ _).drew.alloc (by simp) _)
      have HJd:=hid (HJ6.out.now HBd.out)
      have hlo:lo≤w6.heap.size:=Nat.le_trans HJ6.out.lo.1 (Nat.le_of_lt hjl)
      have hpl:=HPl.out
      refine wpAnyJ_one (i:=11) rfl (by kernel_rfl) (fun K hK=>?_)
      refine step_append_l rfl (.tmp 79) (.tmp 85) rfl slP layP lo ps [⟨0,(ps.length:Nat),k,x.it.part⟩] rfl rfl HJd.out.prs rfl rfl ⟨_,RdL.one w6.drew (⟨0,(ps.length:Nat),k,x.it.part⟩:Pair) _ _ rfl _ rfl⟩ (by simp;omega) (by simp;omega) ?_
      intro A5 c5 w5 hown hg hbl hat
      simp only [own_blk] at hg hat
      have hg2:(w6.drew.alloc (.cells #[.int .i64 0,.int .i64 ps.length,.int .i64 k,.int .i64 x.it.part] 56)).grownBy w5 (slBlk A3):=⟨hg.os,hg.tape,hg.output,hg.size,hg.block⟩
      obtain ⟨hj7,ht7,ho7⟩:=HJd.out.push (m:=ps.length+1) ⟨0,(ps.length:Nat),k,x.it.part⟩ hown hg2 hat rfl
      have hjb5:w5.heap[J.jb]?=some (.cells (jcs N A3 ps.length c3 J.lb J.ub) 108 (0,0)):=(hg2.block _ (box_lt HJd.out.box) (fun e=>HJd.out.d2.1 e.symm)).trans HJd.out.box
      have e0:=box_cell hjb5 24 (.slice A3 ps.length c3) rfl
      have ez:=box_free hjb5 24
      have hxb5:w5.heap[xb]?=some (.cells (x.it.cs x.fA x.fc) 46 (0,0)):=by
       have h1:=(HBd.out.block _ (box_lt HX6.out)).trans HX6.out
       exact (hg2.block _ (box_lt h1) (fun e=>HXo.out (.inr (.inr (.inr e.symm))))).trans h1
      have e1:=box_cell hxb5 1 (.int .i64 x.it.part) rfl
      have HJ7:=hid hj7
      have HT7:=hid ht7
      have HO7:=hid ho7
      clear hj7 ht7 ho7 hown hg hg2 hat hbl hxb5 hjb5
      refine hK.out _ _ (fun _ h=>⟨e0,e1⟩) ?_
      clear hK K
      clear hHeld
      try simp only [List.getElem_toArray,List.getElem_cons_zero,List.getElem_cons_succ,Act.put,List.setIfInBounds_toArray,List.set_cons_zero,List.set_cons_succ]
      refine wpAnyJ_pure (i:=12) (v:=?_) rfl (by kernel_rfl) (by kernel_rfl) (by kernel_rfl) (fun _ _ _ h=>h) (Or.inl ⟨by rfl,?_⟩) ?_
      rotate_left
      ·intro wq _
       go_simp
       try with_reducible rfl
      simp only [Act.put,sA,sB,sC]
      refine wpAnyJ_pure (i:=13) (v:=?_) rfl (by kernel_rfl) (by kernel_rfl) (by kernel_rfl) (fun _ _ _ h=>h) (Or.inl ⟨by rfl,?_⟩) ?_
      rotate_left
      ·intro wq _
       go_simp
       try with_reducible rfl
      simp only [Act.put,sA,sB,sC]
      try simp only [List.getElem_toArray,List.getElem_cons_zero,List.getElem_cons_succ,Act.put,List.setIfInBounds_toArray,List.set_cons_zero,List.set_cons_succ]
      refine wpAnyJ_one (i:=14) rfl (by kernel_rfl) (fun K hK=>?_)
      go_simp
      refine hK.out _ _ (fun h=>nomatch h) ?_
      clear hK K
      refine wpAnyJ_done (by kernel_rfl) ?_ _
      try simp only [List.getElem_toArray,List.getElem_cons_zero,List.getElem_cons_succ,Act.put,List.setIfInBounds_toArray,List.set_cons_zero,List.set_cons_succ]
      have hL5:=loc_snoc ps (ps.length:Nat) k x.it.part
      have HF7:Hid (∀ i,({J with qA:=A5,qc:=c5}:JL).own i→J.own i∨wL.heap.size≤i):=hid (fun i hi=>(HO7.out i hi).elim (fun h=>HOm.out i h) (fun h=>.inr (by have h1:=HTt.out.size;have h2:=HBd.out.size;omega)))
      have HT8:Hid (Turn J.own wL (w5.setCell ⟨J.jb,24,none⟩ (.slice A5 (ps.length+1) c5))):=hid ((HTt.out.trans (Turn.below (F:=J.own) HBd.out) (fun i hi=>.inl hi)).trans HT7.out HOm.out)
      have HJ8:Hid (JAt lo (w5.setCell ⟨J.jb,24,none⟩ (.slice A5 (ps.length+1) c5)) N ⟨ps++[⟨0,(ps.length:Nat),k,x.it.part⟩],u⟩ {J with qA:=A5,qc:=c5} (locF (ps++[⟨0,(ps.length:Nat),k,x.it.part⟩]))):=hid (by rw [hL5];exact HJ7.out)
      clear hL5 e0 e1 ez z24 y1 hjl hxl hlo hpl HJ7 HT7 HO7 HJd HBd HTt
      generalize w5.setCell ⟨J.jb,24,none⟩ (.slice A5 (ps.length+1) c5)=w8 at *
      go_wp2_with fail
      go_roundw
      case rel=>exact ⟨m+1,A5,c5,by omega,by go_num,by rw [HV.out];exact HJ8.out,HT8.out,HF7.out⟩
      case measure=>simp [intOf];omega
     ·have hb0:(x.it.kind==0)=false:=by simpa using hp
      have HV:Hid (st.pairs++pairsP k st.pairs.length (L.take (m+1))=ps):=hid (by rw [HTk.out,if_neg hp,List.append_nil])
      clear HTk hp
      go_wp2_with fail
      go_roundw
      case rel=>exact ⟨m+1,A3,c3,by omega,by go_num,by rw [HV.out];exact HJ1.out,HT1.out,HOm.out⟩
      case measure=>simp [intOf];omega
    ·have hke:m=L.length:=by omega
     have d1:decide (m<L.length)=false:=decide_eq_false (by omega)
     have hkt:L.take m=L:=List.take_of_length_le (by omega)
     have hj:=HJm.out
     have ht:=HTm.out
     have ho:=HOm.out
     have hi:=HIm.out
     rw [hkt] at hj
     have hpl:(st.pairs++pairsP k st.pairs.length L).length≤60000:=by
      have h1:=pairsP_len k L st.pairs.length
      rw [List.length_append]
      omega
     have hnp:newPairs st k L=st.pairs++pairsP k st.pairs.length L:=rfl
     rw [← hnp] at hj hpl
     have HJn:=hid hj
     have HTn:=hid ht
     have HOn:=hid ho
     have HIn:=hid hi
     clear hj ht ho hi hnp hkt hke hlt HJm HTm HOm HIm
     generalize newPairs st k L=ps at *
     have hxp:0<xs.length:=by have:=HLe.out;have:=HLp.out;omega
     obtain ⟨x,xr,hxs⟩:∃ x xr,xs=x::xr:=by
      cases xs with
      | nil=>simp at hxp
      | cons x xr=>exact ⟨x,xr,rfl⟩
     obtain ⟨g,off,hA0,hg,hcc⟩:=(HIn.out.own.rd layIt).at_ hxp
     have hx0:xs[0]'hxp=x:=by simp [hxs]
     rw [hx0] at hcc
     have HXm:Hid (x∈xs):=hid (by rw [hxs];exact List.mem_cons_self ..)
     have HHd:Hid (L.headD noIt=x.it):=hid (by rw [← HIn.out.eq,hxs];rfl)
     have HRx:Hid (∀ wq,Below wr.heap.size wr wq→wq.rangeAt g off (x.it.cs x.fA x.fc).toList):=hid (fun wq hq j v hj=>by
      have h1:=hcc j v hj
      have h2:=(hq.cell (p:=⟨g,off+0 * 11+j,none⟩) hg).trans h1
      simpa using h2)
     have hsm:=HSm.out x.it (by rw [← HIn.out.eq];exact List.mem_map_of_mem HXm.out)
     subst hA0
     have HSn:=hid (HS.out.turn HTn.out (fun hf=>by have:=HOb.out _ hf;omega) (fun hf=>by have:=HOb.out _ hf;omega))
     have HSE:Hid (∀ wq,Below wr.heap.size wr wq→wq.rangeAt (b+1) 0 (e.ev.cs e.cA e.cc e.fA e.fc).toList):=hid (fun wq hq=>range_block (HSn.out.now hq).e1 rfl)
     obtain ⟨bk,hbk⟩:∃ y,y=comeP N.p ps e.ev x.it:=⟨_,rfl⟩
     have HBk:Hid (∀ wq,Below wr.heap.size wr wq→Calls Tryz.prog 88 #[.pointer (some ⟨J.jb,0,none⟩),e.v,x.v] wq (fun en w'=>Below wq.heap.size wq w'∧∃ fA fc,en=.returned (.tuple #[bk.1.v none 0 fA fc,.int .i64 bk.2])∧RdI w' w'.heap.size fA bk.1.files∧bk.1.files.length≤fc∧∀ j,slBlk fA=some j→wq.heap.size≤j)):=hid (fun wq hq=>by
      have hJq:=HJn.out.now hq
      have:=jBack_any e x wq hJq (hJq.net.ok e HEm.out) ((HIn.out.on hq).ok x HXm.out) hsm.kind ⟨⟨by have:=hsm.on;omega,by have:=hsm.on;omega⟩,⟨by have:=hsm.onPart;omega,by have:=hsm.onPart;omega⟩,⟨by have:=hsm.quote;omega,by have:=hsm.quote;omega⟩⟩ (by show ps.length≤100000;omega) hpc hsm.text (by have:=hsm.files;omega)
      rw [hbk]
      exact this)
     have HBq2:=hid hbk
     clear hbk hcc hx0 hsm hxp
     have HXs:=hid hxs
     clear hxs
     have hlp:=HLp.out
     go_upto_region 16 with fail
     go_cut [8,12] (fun er v wx=>∃ bo fA fc,er=.int .i64 bk.2∧v=.pointer (some ⟨bo,0,none⟩)∧wr.heap.size≤bo∧wx.heap[bo]?=some (.cells (bk.1.cs none 0 fA fc) 40 (0,0))∧RdI wx wx.heap.size fA bk.1.files∧bk.1.files.length≤fc∧(∀ j,bk.1.files≠[]→slBlk fA=some j→wr.heap.size≤j∧j≠bo)∧Below wr.heap.size wr wx)
     case first=>as_aux_lemma =>
      refine wp_region_J (S:=fun w'=>Below wr.heap.size wr w') (fun i=>[10].contains i) (by kernel_rfl) ((Below.refl _ _).drew) (fun hHeld=>?_)
      refine wpAnyJ_pure (i:=0) (v:=?_) rfl (by kernel_rfl) (by kernel_rfl) (by kernel_rfl) (fun _ _ _ h=>h) (Or.inl ⟨by rfl,?_⟩) ?_
      rotate_left
      ·intro wq _
       go_simp
       try with_reducible rfl
      simp only [Act.put,sA,sB,sC]
      try simp only [List.getElem_toArray,List.getElem_cons_zero,List.getElem_cons_succ,Act.put,List.setIfInBounds_toArray,List.set_cons_zero,List.set_cons_succ]
      refine' wpAnyJ_take (i:=1) rfl (by kernel_rfl) (by kernel_rfl) (by kernel_rfl) (by kernel_rfl) (fun _ _ _ h=>h) (yieldsIf_load_mid (by rfl) _ _ rfl _ _ rfl _ _ HSE.out Tryz.underlying40 rfl (by kernel_rfl)) hHeld ?_
      try simp only [List.getElem_toArray,List.getElem_cons_zero,List.getElem_cons_succ,Act.put,List.setIfInBounds_toArray,List.set_cons_zero,List.set_cons_succ]
      refine wpAnyJ_pure (i:=2) (v:=?_) rfl (by kernel_rfl) (by kernel_rfl) (by kernel_rfl) (fun _ _ _ h=>h) (Or.inl ⟨by rfl,?_⟩) ?_
      rotate_left
      ·intro wq _
       go_simp
       try with_reducible rfl
      simp only [Act.put,sA,sB,sC]
      try simp only [List.getElem_toArray,List.getElem_cons_zero,List.getElem_cons_succ,Act.put,List.setIfInBounds_toArray,List.set_cons_zero,List.set_cons_succ]
      refine wpAnyJ_pure (i:=3) (v:=?_) rfl (by kernel_rfl) (by kernel_rfl) (by kernel_rfl) (fun _ _ _ h=>h) (Or.inl ⟨by rfl,?_⟩) ?_
      rotate_left
      ·intro wq _
       go_simp
       try with_reducible rfl
      simp only [Act.put,sA,sB,sC]
      try simp only [List.getElem_toArray,List.getElem_cons_zero,List.getElem_cons_succ,Act.put,List.setIfInBounds_toArray,List.set_cons_zero,List.set_cons_succ]
      refine' wpAnyJ_take (i:=4) rfl (by kernel_rfl) (by kernel_rfl) (by kernel_rfl) (by kernel_rfl) (fun _ _ _ h=>h) (yieldsIf_load_mid (by rfl) _ _ rfl g off rfl _ _ HRx.out Tryz.underlying46 rfl (by kernel_rfl)) hHeld ?_
      try simp only [List.getElem_toArray,List.getElem_cons_zero,List.getElem_cons_succ,Act.put,List.setIfInBounds_toArray,List.set_cons_zero,List.set_cons_succ]
      refine wpAnyJ_two (i:=5) (j:=9) rfl rfl (by kernel_rfl) (fun K hK=>?_) (fun K hK=>?_)
      ·go_simp
       refine (HBk.out wr.drew (Below.refl _ _).drew).mono ?_
       rintro e5 w5 ⟨hb5,fA,fc,rfl,hf5,hc5,hl5⟩
       go_wp2_with fail
       refine hK.out _ _ (fun _ h=>h.trans (hb5.mono h.size)) ?_
       clear hK K
       try simp only [List.getElem_toArray,List.getElem_cons_zero,List.getElem_cons_succ,Act.put,List.setIfInBounds_toArray,List.set_cons_zero,List.set_cons_succ]
       refine wpAnyJ_pure (i:=6) (v:=?_) rfl (by kernel_rfl) (by kernel_rfl) (by kernel_rfl) (fun _ _ _ h=>h) (Or.inl ⟨by rfl,?_⟩) ?_
       rotate_left
       ·intro wq _
        go_simp
        try with_reducible rfl
       simp only [Act.put,sA,sB,sC]
       try simp only [List.getElem_toArray,List.getElem_cons_zero,List.getElem_cons_succ,Act.put,List.setIfInBounds_toArray,List.set_cons_zero,List.set_cons_succ]
       refine wpAnyJ_pure (i:=7) (v:=?_) rfl (by kernel_rfl) (by kernel_rfl) (by kernel_rfl) (fun _ _ _ h=>h) (Or.inl ⟨by rfl,?_⟩) ?_
       rotate_left
       ·intro wq _
        go_simp
        try with_reducible rfl
       simp only [Act.put,sA,sB,sC]
       try simp only [List.getElem_toArray,List.getElem_cons_zero,List.getElem_cons_succ,Act.put,List.setIfInBounds_toArray,List.set_cons_zero,List.set_cons_succ]
       refine wpAnyJ_pure (i:=8) (v:=?_) rfl (by kernel_rfl) (by kernel_rfl) (by kernel_rfl) (fun _ _ _ h=>h) (Or.inl ⟨by rfl,?_⟩) ?_
       rotate_left
       ·intro wq _
        go_simp
        try with_reducible rfl
       simp only [Act.put,sA,sB,sC]
       try simp only [List.getElem_toArray,List.getElem_cons_zero,List.getElem_cons_succ,Act.put,List.setIfInBounds_toArray,List.set_cons_zero,List.set_cons_succ]
       refine wpAnyJ_one (i:=9) rfl (by kernel_rfl) (fun K hK=>?_)
       go_simp
       have hza:(w5.alloc (.cells zeroE 40)).heap[w5.heap.size]?=some (.cells zeroE 40 (0,0)):=(MapKept.heap_alloc w5 _).1
       refine hK.out _ _ (fun _ h=>h.alloc h.size _) ?_
       clear hK K
       try simp only [List.getElem_toArray,List.getElem_cons_zero,List.getElem_cons_succ,Act.put,List.setIfInBounds_toArray,List.set_cons_zero,List.set_cons_succ]
       refine wpAnyJ_one (i:=10) rfl (by kernel_rfl) (fun K hK=>?_)
       refine step_store_bx rfl 40 _ _ rfl w5.heap.size (bk.1.cs none 0 fA fc) rfl rfl (by have hth:=there_row hza;exact hth) (by kernel_rfl) (evOne _ _ _ _ _) ?_
       refine hK.out _ _ (fun h=>nomatch h) ?_
       clear hK K
       try simp only [List.getElem_toArray,List.getElem_cons_zero,List.getElem_cons_succ,Act.put,List.setIfInBounds_toArray,List.set_cons_zero,List.set_cons_succ]
       refine wpAnyJ_pure (i:=11) (v:=?_) rfl (by kernel_rfl) (by kernel_rfl) (by kernel_rfl) (fun _ _ _ h=>h) (Or.inl ⟨by rfl,?_⟩) ?_
       rotate_left
       ·intro wq _
        go_simp
        try with_reducible rfl
       simp only [Act.put,sA,sB,sC]
       refine wpAnyJ_done (by kernel_rfl) ?_ _
       try simp only [List.getElem_toArray,List.getElem_cons_zero,List.getElem_cons_succ,Act.put,List.setIfInBounds_toArray,List.set_cons_zero,List.set_cons_succ]
       have hrow:=setRow (vs:=bk.1.cs none 0 fA fc) hza rfl
       have hgr:=grown_setCells (w5.alloc (.cells zeroE 40)) w5.heap.size 0 (bk.1.cs none 0 fA fc).toList
       have hB5:Below wr.heap.size wr w5:=(Below.refl wr.heap.size wr).drew.trans (hb5.mono (Nat.le_refl _))
       have hBa:Below wr.heap.size wr (w5.alloc (.cells zeroE 40)):=hB5.alloc hB5.size _
       have hBs:=hBa.grown hgr hBa.size (fun j hj=>by injection hj with hj;have:=hB5.size;omega)
       have HRow:=hid hrow
       have HBs:=hid hBs
       have HF5:Hid (RdI ((w5.alloc (.cells zeroE 40)).setCells w5.heap.size 0 (bk.1.cs none 0 fA fc).toList) ((w5.alloc (.cells zeroE 40)).setCells w5.heap.size 0 (bk.1.cs none 0 fA fc).toList).heap.size fA bk.1.files):=hid (rdI_frame hf5 (fun i hx hi=>by
        have hl:=rdI_lt hf5 hx hi
        rw [hgr.block i (by simp;omega) (fun e=>by injection e with e;omega)]
        exact Below.heap_alloc w5 _ i hl) (Nat.le_trans (by simp) hgr.size))
       have HL5:Hid (∀ j,bk.1.files≠[]→slBlk fA=some j→wr.heap.size≤j∧j≠w5.heap.size):=hid (fun j hx hj=>⟨hl5 j hj,by have:=rdI_lt hf5 hx hj;omega⟩)
       have HLo:Hid (wr.heap.size≤w5.heap.size):=hid hB5.size
       have HC5:=hid hc5
       clear hrow hgr hBa hBs hB5 hza hb5 hf5 hc5 hl5 hHeld
       go_wp2_with fail
       go_meet
       exact ⟨w5.heap.size,fA,fc,rfl,rfl,HLo.out,HRow.out,HF5.out,HC5.out,HL5.out,HBs.out⟩
      ·go_simp
       have hza:(wr.drew.alloc (.cells zeroE 40)).heap[wr.drew.heap.size]?=some (.cells zeroE 40 (0,0)):=(MapKept.heap_alloc wr.drew _).1
       refine hK.out _ _ (fun _ h=>h.alloc h.size _) ?_
       clear hK K
       try simp only [List.getElem_toArray,List.getElem_cons_zero,List.getElem_cons_succ,Act.put,List.setIfInBounds_toArray,List.set_cons_zero,List.set_cons_succ]
       refine wpAnyJ_one (i:=5) rfl (by kernel_rfl) (fun K hK=>?_)
       go_simp
       refine (HBk.out (wr.drew.alloc (.cells zeroE 40)) ((Below.refl wr.heap.size wr).drew.alloc (Nat.le_refl _) _)).mono ?_
       rintro e5 w5 ⟨hb5,fA,fc,rfl,hf5,hc5,hl5⟩
       go_wp2_with fail
       refine hK.out _ _ (fun _ h=>h.trans (hb5.mono h.size)) ?_
       clear hK K
       try simp only [List.getElem_toArray,List.getElem_cons_zero,List.getElem_cons_succ,Act.put,List.setIfInBounds_toArray,List.set_cons_zero,List.set_cons_succ]
       refine wpAnyJ_pure (i:=6) (v:=?_) rfl (by kernel_rfl) (by kernel_rfl) (by kernel_rfl) (fun _ _ _ h=>h) (Or.inl ⟨by rfl,?_⟩) ?_
       rotate_left
       ·intro wq _
        go_simp
        try with_reducible rfl
       simp only [Act.put,sA,sB,sC]
       try simp only [List.getElem_toArray,List.getElem_cons_zero,List.getElem_cons_succ,Act.put,List.setIfInBounds_toArray,List.set_cons_zero,List.set_cons_succ]
       refine wpAnyJ_pure (i:=7) (v:=?_) rfl (by kernel_rfl) (by kernel_rfl) (by kernel_rfl) (fun _ _ _ h=>h) (Or.inl ⟨by rfl,?_⟩) ?_
       rotate_left
       ·intro wq _
        go_simp
        try with_reducible rfl
       simp only [Act.put,sA,sB,sC]
       try simp only [List.getElem_toArray,List.getElem_cons_zero,List.getElem_cons_succ,Act.put,List.setIfInBounds_toArray,List.set_cons_zero,List.set_cons_succ]
       refine wpAnyJ_pure (i:=8) (v:=?_) rfl (by kernel_rfl) (by kernel_rfl) (by kernel_rfl) (fun _ _ _ h=>h) (Or.inl ⟨by rfl,?_⟩) ?_
       rotate_left
       ·intro wq _
        go_simp
        try with_reducible rfl
       simp only [Act.put,sA,sB,sC]
       try simp only [List.getElem_toArray,List.getElem_cons_zero,List.getElem_cons_succ,Act.put,List.setIfInBounds_toArray,List.set_cons_zero,List.set_cons_succ]
       have hz5:w5.heap[wr.heap.size]?=some (.cells zeroE 40 (0,0)):=(hb5.block _ (by simp)).trans hza
       refine wpAnyJ_one (i:=10) rfl (by kernel_rfl) (fun K hK=>?_)
       refine step_store_bx rfl 40 _ _ rfl wr.heap.size (bk.1.cs none 0 fA fc) rfl rfl (by have hth:=there_row hz5;exact hth) (by kernel_rfl) (evOne _ _ _ _ _) ?_
       refine hK.out _ _ (fun h=>nomatch h) ?_
       clear hK K
       try simp only [List.getElem_toArray,List.getElem_cons_zero,List.getElem_cons_succ,Act.put,List.setIfInBounds_toArray,List.set_cons_zero,List.set_cons_succ]
       refine wpAnyJ_pure (i:=11) (v:=?_) rfl (by kernel_rfl) (by kernel_rfl) (by kernel_rfl) (fun _ _ _ h=>h) (Or.inl ⟨by rfl,?_⟩) ?_
       rotate_left
       ·intro wq _
        go_simp
        try with_reducible rfl
       simp only [Act.put,sA,sB,sC]
       refine wpAnyJ_done (by kernel_rfl) ?_ _
       try simp only [List.getElem_toArray,List.getElem_cons_zero,List.getElem_cons_succ,Act.put,List.setIfInBounds_toArray,List.set_cons_zero,List.set_cons_succ]
       have hrow:=setRow (vs:=bk.1.cs none 0 fA fc) hz5 rfl
       have hgr:=grown_setCells w5 wr.heap.size 0 (bk.1.cs none 0 fA fc).toList
       have hB5:Below wr.heap.size wr w5:=((Below.refl wr.heap.size wr).drew.alloc (Nat.le_refl _) (.cells zeroE 40)).trans (hb5.mono (by simp))
       have hBs:=hB5.grown hgr hB5.size (fun j hj=>by injection hj with hj;omega)
       have HRow:=hid hrow
       have HBs:=hid hBs
       have HF5:Hid (RdI (w5.setCells wr.heap.size 0 (bk.1.cs none 0 fA fc).toList) (w5.setCells wr.heap.size 0 (bk.1.cs none 0 fA fc).toList).heap.size fA bk.1.files):=hid (rdI_frame hf5 (fun i hx hi=>by
        have hl:=hl5 i hi
        exact hgr.block i (rdI_lt hf5 hx hi) (fun e=>by injection e with e;simp at hl;omega)) hgr.size)
       have HL5:Hid (∀ j,bk.1.files≠[]→slBlk fA=some j→wr.heap.size≤j∧j≠wr.heap.size):=hid (fun j hx hj=>by have:=hl5 j hj;simp at this;omega)
       have HC5:=hid hc5
       clear hrow hgr hBs hB5 hza hz5 hb5 hf5 hc5 hl5 hHeld
       go_wp2_with fail
       go_meet
       exact ⟨wr.heap.size,fA,fc,rfl,rfl,Nat.le_refl _,HRow.out,HF5.out,HC5.out,HL5.out,HBs.out⟩
     case rest =>
      obtain ⟨bo,fA,fc,rfl,rfl,hbo,hrow,hfi,hfc,hfa,hcb⟩:=hcut
      have HRr:Hid (showP N.p N.W (evsL N.E) st k=(bk.2,fixP e.ev L bk.1,⟨ps,u⟩)):=hid (by rw [HR.out,HHd.out,← HBq2.out])
      have HKo:Hid (bk.2=0→rightE bk.1=true):=hid (fun h0=>by
       rw [HBq2.out] at h0 ⊢
       have h9:=back_ok _ _ _ _ _ h0
       unfold comeP
       rw [h9.eq]
       exact h9.right)
      have HJc:=hid (HJn.out.now hcb)
      have HTc:Hid (Turn J.own w wc):=hid ((HT.out.trans HTn.out (fun i hi=>.inl hi)).trans (Turn.below (F:=J.own) hcb) (fun i hi=>.inl hi))
      have HSc:=hid (HSn.out.now hcb)
      have HIc:=hid (HIn.out.on hcb)
      have hbl:=box_lt HS.out.e1
      have HNo:Hid (¬ ({J with qA:=A3,qc:=c3}:JL).own b∧¬ ({J with qA:=A3,qc:=c3}:JL).own bo):=hid ⟨fun hf=>(HOn.out b hf).elim (fun h=>by have:=HOb.out b h;omega) (fun h=>by omega),fun hf=>by have:=HJn.out.lt bo hf;omega⟩
      have HBo:Hid (b+1<bo∧b=w.heap.size∧g<bo):=hid ⟨by have:=HTn.out.size;omega,HBq.out,by omega⟩
      have HRi:=hid (HIc.out.own.rd layIt)
      have HIe:=hid HIc.out.eq
      have HAl:Hid ((L.flatMap (·.text)).length≤200000):=hid (by
       have h1:=all_text_le L (fun y hy=>(HSm.out y hy).text)
       omega)
      have HRow:=hid hrow
      have HFi:=hid hfi
      have HFc:=hid hfc
      have HFa:Hid (∀ j,bk.1.files≠[]→slBlk fA=some j→b+1<j∧j≠bo∧¬ ({J with qA:=A3,qc:=c3}:JL).own j):=hid (fun j hx hj=>by
       have h1:=hfa j hx hj
       refine ⟨by have:=HTn.out.size;omega,h1.2,fun hf=>by have:=HJn.out.lt j hf;omega⟩)
      have HOc:Hid (∀ i,({J with qA:=A3,qc:=c3}:JL).own i→J.own i∨w.heap.size≤i):=hid (fun i hi=>(HOn.out i hi).elim .inl (fun h=>.inr (Nat.le_trans HT.out.size h)))
      have HTh2:=hid (there_row HSc.out.r0)
      clear hbo hrow hfi hfc hfa hcb hbl HBk HSE HRx HSn HIn HOn HTn HJn HT HJ HS HTh HR HHd HBq2 HI hg
      clear wr
      obtain ⟨wr,hwr⟩:∃ y,y=wc:=⟨_,rfl⟩
      subst hwr
      have HTh:=HTh2
      clear HTh2
      by_cases hbk0:bk.2=0
      ·have hb2:(bk.2 != 0)=false:=by simp [hbk0]
       have HRt:=hid (HKo.out hbk0)
       have HC0:=hid hbk0
       clear hbk0 HKo
       go_upto_region 19 with fail
       obtain ⟨wS,hwS⟩:∃ y,y=wr:=⟨_,rfl⟩
       subst hwS
       go_cut [] (fun wx=>wx.heap[bo]?=some (.cells (({bk.1 with seq:=e.ev.seq,causes:=e.ev.causes}:EvM).cs e.cA e.cc fA fc) 40 (0,0))∧Turn (fun i=>i=bo) wS wx)
       case first=>as_aux_lemma =>
        have x1:=box_cell HSc.out.e1 1 (.int .i64 e.ev.seq) rfl
        have x2:=box_cell HSc.out.e1 2 (.slice e.cA e.ev.causes.length e.cc) rfl
        have o1:=box_cell HRow.out 1 (.int .i64 bk.1.seq) rfl
        have o2:=box_cell HRow.out 2 (.slice none bk.1.causes.length 0) rfl
        have fz:=fun q=>box_free HRow.out q
        have hne:b+1≠bo:=by have:=HBo.out.1;omega
        refine wp_region_J (S:=fun w'=>w'.cell? ⟨b+1,1,none⟩=some (.int .i64 e.ev.seq)∧w'.cell? ⟨b+1,2,none⟩=some (.slice e.cA e.ev.causes.length e.cc)) (fun i=>[7].contains i) (by kernel_rfl) (⟨x1,x2⟩) (fun hHeld=>?_)
        refine wpAnyJ_pure (i:=0) (v:=?_) rfl (by kernel_rfl) (by kernel_rfl) (by kernel_rfl) (fun _ _ _ h=>h) (Or.inl ⟨by rfl,?_⟩) ?_
        rotate_left
        ·intro wq _
         go_simp
         try with_reducible rfl
        simp only [Act.put,sA,sB,sC]
        try simp only [List.getElem_toArray,List.getElem_cons_zero,List.getElem_cons_succ,Act.put,List.setIfInBounds_toArray,List.set_cons_zero,List.set_cons_succ]
        refine wpAnyJ_take (i:=1) (v:=?_) rfl (by kernel_rfl) (by kernel_rfl) (by kernel_rfl) (by kernel_rfl) (fun _ _ _ h=>h) (Or.inl ⟨by rfl,?_⟩) hHeld ?_
        rotate_left
        ·intro wq hSq
         obtain ⟨h2,h3⟩:=hSq
         go_simp
         try with_reducible rfl
        simp only [Act.put,sA,sB,sC]
        try simp only [List.getElem_toArray,List.getElem_cons_zero,List.getElem_cons_succ,Act.put,List.setIfInBounds_toArray,List.set_cons_zero,List.set_cons_succ]
        refine wpAnyJ_pure (i:=2) (v:=?_) rfl (by kernel_rfl) (by kernel_rfl) (by kernel_rfl) (fun _ _ _ h=>h) (Or.inl ⟨by rfl,?_⟩) ?_
        rotate_left
        ·intro wq _
         go_simp
         try with_reducible rfl
        simp only [Act.put,sA,sB,sC]
        try simp only [List.getElem_toArray,List.getElem_cons_zero,List.getElem_cons_succ,Act.put,List.setIfInBounds_toArray,List.set_cons_zero,List.set_cons_succ]
        refine wpAnyJ_take (i:=3) (v:=?_) rfl (by kernel_rfl) (by kernel_rfl) (by kernel_rfl) (by kernel_rfl) (fun _ _ _ h=>h) (Or.inl ⟨by rfl,?_⟩) hHeld ?_
        rotate_left
        ·intro wq hSq
         obtain ⟨h2,h3⟩:=hSq
         go_simp
         try with_reducible rfl
        simp only [Act.put,sA,sB,sC]
        try simp only [List.getElem_toArray,List.getElem_cons_zero,List.getElem_cons_succ,Act.put,List.setIfInBounds_toArray,List.set_cons_zero,List.set_cons_succ]
        refine wpAnyJ_pure (i:=4) (v:=?_) rfl (by kernel_rfl) (by kernel_rfl) (by kernel_rfl) (fun _ _ _ h=>h) (Or.inl ⟨by rfl,?_⟩) ?_
        rotate_left
        ·intro wq _
         go_simp
         try with_reducible rfl
        simp only [Act.put,sA,sB,sC]
        try simp only [List.getElem_toArray,List.getElem_cons_zero,List.getElem_cons_succ,Act.put,List.setIfInBounds_toArray,List.set_cons_zero,List.set_cons_succ]
        refine wpAnyJ_one (i:=5) rfl (by kernel_rfl) (fun K hK=>?_)
        go_simp
        refine hK.out _ _ (fun _ h=>⟨(cell_set_other _ _ hne).trans h.1,(cell_set_other _ _ hne).trans h.2⟩) ?_
        clear hK K
        try simp only [List.getElem_toArray,List.getElem_cons_zero,List.getElem_cons_succ,Act.put,List.setIfInBounds_toArray,List.set_cons_zero,List.set_cons_succ]
        refine wpAnyJ_pure (i:=6) (v:=?_) rfl (by kernel_rfl) (by kernel_rfl) (by kernel_rfl) (fun _ _ _ h=>h) (Or.inl ⟨by rfl,?_⟩) ?_
        rotate_left
        ·intro wq _
         go_simp
         try with_reducible rfl
        simp only [Act.put,sA,sB,sC]
        try simp only [List.getElem_toArray,List.getElem_cons_zero,List.getElem_cons_succ,Act.put,List.setIfInBounds_toArray,List.set_cons_zero,List.set_cons_succ]
        have hr1:=heap_setCell_same wS.drew bo 1 _ _ (.int .i64 e.ev.seq) HRow.out
        have p2:=box_cell hr1 2 (.slice none bk.1.causes.length 0) rfl
        have fz2:=fun q=>box_free hr1 q
        have hr2:=heap_setCell_same _ bo 2 _ _ (.slice e.cA e.ev.causes.length e.cc) hr1
        have ht2:=((Turn.refl (fun i=>i=bo) wS).drew.set bo 1 (.int .i64 e.ev.seq) (.inl rfl)).set bo 2 (.slice e.cA e.ev.causes.length e.cc) (.inl rfl)
        refine wpAnyJ_one (i:=7) rfl (by kernel_rfl) (fun K hK=>?_)
        go_simp
        refine hK.out _ _ (fun h=>nomatch h) ?_
        clear hK K
        refine wpAnyJ_done (by kernel_rfl) ?_ _
        try simp only [List.getElem_toArray,List.getElem_cons_zero,List.getElem_cons_succ,Act.put,List.setIfInBounds_toArray,List.set_cons_zero,List.set_cons_succ]
        clear hHeld x1 x2 o1 o2 fz hne hr1 p2 fz2
        have HR2:=hid hr2
        have HT2:=hid ht2
        clear hr2 ht2
        go_wp2_with fail
        go_meet
        exact ⟨HR2.out,HT2.out⟩
       case rest =>
        obtain ⟨hrow,hts⟩:=hcut
        have HTs:=hid hts
        have HRow2:=hid hrow
        have HRs:Hid (RdL 11 ItL.cs wc wc.heap.size (some ⟨g,off,none⟩) xs):=hid (HRi.out.turn (fun i hi hl=>hts.block i hl (by have h9:g=i:=Option.some.inj hi;have:=HBo.out.2.2;omega)) hts.size)
        have HTx:=hid (HTc.out.trans hts (fun i hi=>.inr (by rw [hi];have:=HBo.out;omega)))
        have HJx:=hid (HJc.out.turn hts (fun i hi=>by rw [hi];exact ⟨HNo.out.2,fun hf=>by have:=HNb.out bo hf;have:=HBo.out.1;omega⟩))
        have HSx:=hid (HSc.out.turn hts (by have:=HBo.out.1;omega) (by have:=HBo.out.1;omega))
        have HFx:Hid (RdI wc wc.heap.size fA bk.1.files):=hid (rdI_frame HFi.out (fun i hx hi=>hts.block i (rdI_lt HFi.out hx hi) (HFa.out i hx hi).2.1) hts.size)
        have HThx:=hid (there_row HSx.out.r0)
        clear hrow hts HRi HTc HJc HSc HFi HTh HRow HTs HIc
        clear wS
        obtain ⟨wr,hwr⟩:∃ y,y=wc:=⟨_,rfl⟩
        subst hwr
        obtain ⟨tb,htb⟩:∃ t:Bool,t=((bk.1.kind==0) || (bk.1.kind==1)):=⟨_,rfl⟩
        have HTb:=hid htb
        clear htb
        have y3:=box_cell HRow2.out 3 (.int .i64 bk.1.kind) rfl
        go_upto_region 20 with fail
        go_cut [116] (fun v wx=>v=.bool tb∧wx=wr)
        case first=>as_aux_lemma =>
         generalize bk.1.kind=kd at *
         cases q0:kd==0
         ·cases q1:kd==1
          ·have HQ:Hid (tb=false):=hid (by rw [HTb.out,q0,q1];rfl)
           go_wp2_with fail
           go_meet
           exact ⟨by rw [HQ.out],rfl⟩
          ·have HQ:Hid (tb=true):=hid (by rw [HTb.out,q0,q1];rfl)
           go_wp2_with fail
           go_meet
           exact ⟨by rw [HQ.out],rfl⟩
         ·have HQ:Hid (tb=true):=hid (by rw [HTb.out,q0];rfl)
          go_wp2_with fail
          go_meet
          exact ⟨by rw [HQ.out],rfl⟩
        case rest =>
         obtain ⟨rfl,rfl⟩:=hcut
         have HFq:Hid (fixP e.ev L bk.1={bk.1 with seq:=e.ev.seq,causes:=e.ev.causes,text:=if tb=true then bs (allText L) else bk.1.text}):=hid (by
          unfold fixP
          rw [HTb.out]
          simp)
         clear HTb y3
         obtain ⟨wr,hwr⟩:∃ y,y=wc:=⟨_,rfl⟩
         subst hwr
         go_upto_if 116 with fail
         obtain ⟨wS,hwS⟩:∃ y,y=wr:=⟨_,rfl⟩
         subst hwS
         go_cut [] (fun wx=>wx.heap[bo]?=some (.cells (({bk.1 with seq:=e.ev.seq,causes:=e.ev.causes,text:=if tb=true then bs (allText L) else bk.1.text}:EvM).cs e.cA e.cc fA fc) 40 (0,0))∧Turn (fun i=>i=bo) wS wx)
         case first =>
          cases tb
          ·go_wp2_with fail
           go_meet
           exact ⟨HRow2.out,Turn.refl _ _⟩
          ·go_upto_region 22 with fail
           change Code.wp _ _ _ _ (wS.alloc (.cells #[.pointer none,.slice none 0 0] 140))
           have hB0:=bld_new wS
           have hW0:Below wS.heap.size wS (wS.alloc (.cells #[.pointer none,.slice none 0 0] 140)):=(Below.refl _ _).alloc (Nat.le_refl _) _
           obtain ⟨bb,hbb⟩:∃ y,y=wS.heap.size:=⟨_,rfl⟩
           rw [← hbb] at hB0 hW0 ⊢
           have HBb:=hid hbb
           have HB0:=hid hB0
           have HW0:=hid hW0
           clear hbb hB0 hW0
           generalize wS.alloc (.cells #[.pointer none,.slice none 0 0] 140)=w1 at *
           go_wp2_with fail
           go_loopw [15,119] (fun _ i wx=>∃ n:Nat,n≤L.length∧i=.int .i64 n∧Bld bb bb ((L.take n).flatMap (·.text)) wx∧Below bb wS wx) (fun _ i _=>L.length - (intOf i).toNat)
           case atStart=>exact ⟨0,Nat.zero_le _,rfl,by simpa using HB0.out,HW0.out⟩
           case round =>
            obtain ⟨n,hn,rfl,hbl,hbw⟩:=hrel
            have HBl:=hid hbl
            have HBw:=hid hbw
            clear hbl hbw
            by_cases hlt:n<L.length
            ·have hlt2:n<xs.length:=by rw [HLe.out];exact hlt
             have hgk:L[n]=xs[n].it:=by
              have h9:L[n]?=some xs[n].it:=by
               rw [← HIe.out,List.getElem?_map,List.getElem?_eq_getElem hlt2]
               rfl
              rw [List.getElem?_eq_getElem hlt] at h9
              exact Option.some.inj h9
             have HTk:Hid ((L.take (n+1)).flatMap (·.text)=(L.take n).flatMap (·.text)++xs[n].it.text):=hid (by
              have:=flat_succ (fun x:ItM=>x.text) L n hlt
              rw [this,hgk])
             have HLn:Hid (((L.take n).flatMap (·.text)).length≤200000∧xs[n].it.text.length≤10000):=hid ⟨Nat.le_trans (flat_le (fun x:ItM=>x.text) L n) HAl.out,by rw [← hgk];exact (HSm.out _ (List.getElem_mem hlt)).text⟩
             obtain ⟨g2,off2,hA2,_,hcc⟩:=(HRs.out.now (show Below wS.heap.size wS wr by rw [← HBb.out];exact HBw.out)).at_ hlt2
             injection hA2 with hA2
             injection hA2 with e1 e2
             subst e1 e2
             have HRg:Hid (wr.rangeAt g (off+n * 11) xs[n].cs):=hid (fun j v hj=>hcc j v hj)
             clear hcc hgk
             generalize (L.take n).flatMap (·.text)=tx0 at *
             generalize xs[n]=x2 at *
             clear hlt2
             go_upto_region 25 with (first
              | ((with_reducible show wpList _ _ _ (Oper.mk _ (Op.load 46 _) _ _ _ _::_) _ _);refine wpList_load_g rfl 46 _ rfl g (off+n * 11) rfl (x2.it.cs x2.fA x2.fc).toList _ HRg.out Tryz.underlying46 rfl (by kernel_rfl) ?_)
              | fail)
             change Code.wp _ _ _ _ (wr.alloc (.cells (x2.it.cs x2.fA x2.fc) 46))
             have hb1:Below wr.heap.size wr (wr.alloc (.cells (x2.it.cs x2.fA x2.fc) 46)):=(Below.refl _ _).alloc (Nat.le_refl _) _
             have hx1:(wr.alloc (.cells (x2.it.cs x2.fA x2.fc) 46)).heap[wr.heap.size]?=some (.cells (x2.it.cs x2.fA x2.fc) 46 (0,0)):=(MapKept.heap_alloc wr _).1
             have HB1:=hid (HBl.out.now hb1)
             have HW1:=hid (HBw.out.trans (hb1.mono (by have:=HBw.out.size;have:=HBb.out;omega)))
             have r9:=box_cell hx1 9 (.string (bs x2.it.text)) rfl
             clear hb1 hx1 HBl HBw HRg
             obtain ⟨xb,hxb⟩:∃ y,y=wr.heap.size:=⟨_,rfl⟩
             rw [← hxb] at r9 ⊢
             clear hxb
             generalize wr.alloc (.cells (x2.it.cs x2.fA x2.fc) 46)=w2 at *
             go_wp2_with fail
             refine (bld_write HB1.out (by have:=HLn.out;omega) (by have:=HW1.out.size;have:=HBb.out;omega)).mono ?_
             rintro e3 w3 ⟨rfl,h3,hb3⟩
             have HB3:=hid h3
             have HW3:=hid (HW1.out.trans hb3)
             clear h3 hb3
             go_wp2_with fail
             go_roundw
             case rel=>exact ⟨n+1,by omega,by go_num,by rw [HTk.out];exact HB3.out,HW3.out⟩
             case measure=>simp [intOf];omega
            ·have hke:n=L.length:=by omega
             have d2:decide (n<L.length)=false:=decide_eq_false (by omega)
             have HTt:Hid ((L.take n).flatMap (·.text)=allText L):=hid (by rw [List.take_of_length_le (by omega)];rfl)
             rw [HTt.out] at HBl
             clear hke hlt HTt
             go_wp2_with fail
             refine (bld_string HBl.out (by have:=HBw.out.size;have:=HBb.out;omega)).mono ?_
             rintro e3 w3 ⟨rfl,h3,hb3⟩
             have HW3:Hid (Below wS.heap.size wS w3):=hid (by rw [← HBb.out];exact HBw.out.trans hb3)
             clear h3 hb3
             have HRow3:=hid ((HW3.out.block bo (box_lt HRow2.out)).trans HRow2.out)
             have o9:=box_cell HRow3.out 9 (.string bk.1.text) rfl
             have fz:=fun q=>box_free HRow3.out q
             go_wp2_with fail
             go_meet
             exact ⟨heap_setCell_same w3 bo 9 _ _ (.string (bs (allText L))) HRow3.out,(Turn.below HW3.out).set bo 9 _ (.inl rfl)⟩
         case rest =>
          obtain ⟨hrow,hts⟩:=hcut
          rw [← HFq.out] at hrow
          have HTz:=hid (HTx.out.trans hts (fun i hi=>.inr (by rw [hi];have:=HBo.out;omega)))
          have HJz:=hid (HJx.out.turn hts (fun i hi=>by rw [hi];exact ⟨HNo.out.2,fun hf=>by have:=HNb.out bo hf;have:=HBo.out.1;omega⟩))
          have HSz:=hid (HSx.out.turn hts (by have:=HBo.out.1;omega) (by have:=HBo.out.1;omega))
          have HFz:Hid (RdI wc wc.heap.size fA bk.1.files):=hid (rdI_frame HFx.out (fun i hx hi=>hts.block i (rdI_lt HFx.out hx hi) (HFa.out i hx hi).2.1) hts.size)
          have HTh:=hid (there_row HSz.out.r0)
          have HRo:=hid (range_block hrow rfl)
          clear hrow hts HTx HJx HSx HFx HThx HRow2 HRs
          go_wp2_with (first
           | ((with_reducible show wpList _ _ _ (Oper.mk _ (Op.load 40 _) _ _ _ _::_) _ _);refine wpList_load_g rfl 40 _ rfl bo 0 rfl ((fixP e.ev L bk.1).cs e.cA e.cc fA fc).toList _ HRo.out Tryz.underlying40 rfl (by kernel_rfl) ?_)
           | ((with_reducible show wpList _ _ _ (Oper.mk _ (Op.store 40 (.tmp 4) _) _ _ _ _::_) _ _);refine wpList_store_box rfl 40 _ _ rfl b ((fixP e.ev L bk.1).cs e.cA e.cc fA fc) rfl rfl HTh.out (by kernel_rfl) (evOne _ _ _ _ _) ?_;intro wS hrS htS hgS;have HRS:=hid hrS;have HGS:=hid hgS;clear hrS htS hgS)
           | fail)
          refine ret_box2 4 5 40 rfl b ((fixP e.ev L bk.1).cs e.cA e.cc fA fc).toList _ (.int .i64 0) rfl rfl HRS.out Tryz.underlying40 rfl (by kernel_rfl) rfl ?_
          rw [HRr.out,HC0.out]
          have hok:=HJz.out.net.ok e HEm.out
          have hrt:=right_text HRt.out
          have hN:∀ i,e.ev.causes≠[]→slBlk e.cA=some i→N.at_ i:=fun i hx hi=>.inr (.inr (.inr (.inr ⟨e,HEm.out,.inl hi⟩)))
          refine shOut_of (y:=⟨fixP e.ev L bk.1,e.cA,e.cc,fA,fc⟩) (J2:={J with qA:=A3,qc:=c3}) (b:=b) HJz.out HTz.out HOc.out ⟨⟨hok.ok.ca,HFz.out,hok.ok.cl,?_,?_⟩,HFc.out⟩ (fun i hi=>?_) HNo.out.1 (fun hf=>by have:=HNb.out b hf;omega) (fun hf=>?_) (by have:=HBo.out.2.1;omega) HGS.out (fun _=>rfl) rfl
          ·show bk.1.files.length≤_
           omega
          ·rw [HFq.out]
           show (if tb=true then bs (allText L) else bk.1.text).size≤_
           have hal:(allText L).length≤200000:=HAl.out
           split
           ·rw [bs_size]
            omega
           ·omega
          ·rcases hi with ⟨hx,hi⟩ | ⟨hx,hi⟩
           ·exact .inl (hN i hx hi)
           ·have:=HFa.out i hx hi
            exact .inr ⟨by have:=HBo.out.2.1;omega,this.2.2⟩
          ·rcases hf with ⟨hx,hi⟩ | ⟨hx,hi⟩
           ·have:=HNb.out b (hN b hx hi)
            omega
           ·have:=HFa.out b hx hi
            omega
      ·have hb2:(bk.2 != 0)=true:=by simp [hbk0]
       have HC0:=hid hbk0
       clear hbk0 HKo HIc
       go_wp2_with (first
        | ((with_reducible show wpList _ _ _ (Oper.mk _ (Op.store 40 (.tmp 4) _) _ _ _ _::_) _ _);refine wpList_store_box rfl 40 _ _ rfl b (zeroEv.cs none 0 none 0) rfl rfl HTh.out (by kernel_rfl) (zeroOne) ?_;intro wS hrS htS hgS;have HRS:=hid hrS;have HGS:=hid hgS;clear hrS htS hgS)
        | fail)
       refine ret_box2 4 5 40 rfl b (zeroEv.cs none 0 none 0).toList _ (.int .i64 bk.2) rfl rfl HRS.out Tryz.underlying40 rfl (by kernel_rfl) rfl ?_
       rw [HRr.out]
       exact shOut_of (y:=⟨zeroEv,none,0,none,0⟩) (J2:={J with qA:=A3,qc:=c3}) (b:=b) HJc.out HTc.out HOc.out (okZero _) (fun i hi=>(real_zero hi).elim) HNo.out.1 (fun hf=>by have:=HNb.out b hf;omega) (fun hf=>real_zero hf) (by have:=HBo.out.2.1;omega) HGS.out (fun h=>absurd h HC0.out) rfl
end Go.Proofs.YtlnnjdibkbabiaaGreatDoor
