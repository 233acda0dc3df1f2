/- Contracts and plain laws, joined: CvF, CvG, RInv, CvI, EvL, EvK. -/
import Derived.Test.YtlnnjdibkbabiaaGreatDoorQbm
/- Contract of (*conv.Conv).Add (layer 15). -/
set_option linter.unusedSimpArgs false
set_option linter.unusedVariables false
namespace Go.Proofs.YtlnnjdibkbabiaaGreatDoor
set_option maxHeartbeats 8000000
open _root_.Go.Lib (hid)
open Go.RowKit
set_option maxRecDepth 100000
theorem right_facts {e:EvM} (h:rightE e=true):(0≤e.author∧e.author<2000)∧(0≤e.seq∧e.seq<100000)∧(-1≤e.target∧e.target<100000)∧(-1≤e.quote∧e.quote<100000)∧e.causes.length≤8∧e.files.length≤4:=by
 unfold rightE headE at h
 simp only [Bool.and_eq_true,decide_eq_true_eq,belowB] at h
 obtain ⟨_,⟨⟨a1,a2⟩,⟨s1,s2⟩,_⟩,c1,hf,_,hfi,hs⟩:=h
 have hsp:=(sameE_iff _ _).1 hs
 have ht:e.target=if hasT e.kind=true then e.target else -1:=congrArg EvM.target hsp
 have hq:e.quote=if hasQ e.kind=true then e.quote else -1:=congrArg EvM.quote hsp
 have hfl:e.files.length≤4:=by
  unfold filesB at hfi
  simp only [Bool.and_eq_true,decide_eq_true_eq] at hfi
  exact hfi.2
 refine ⟨⟨a1,a2⟩,⟨s1,s2⟩,?_,?_,c1,hfl⟩
 ·by_cases hk:hasT e.kind=true
  ·unfold hasT at hk
   simp only [Bool.and_eq_true,decide_eq_true_eq] at hk
   unfold fieldsB at hf
   split at hf
   ·simp only [Bool.and_eq_true,maybeB,belowB,Bool.or_eq_true,beq_iff_eq,decide_eq_true_eq] at hf
    omega
   split at hf
   ·simp only [belowB,Bool.and_eq_true,decide_eq_true_eq] at hf
    omega
   split at hf
   ·simp only [belowB,Bool.and_eq_true,decide_eq_true_eq] at hf
    omega
   ·omega
  ·rw [if_neg hk] at ht
   omega
 ·by_cases hk:hasQ e.kind=true
  ·unfold hasQ at hk
   have hk0:e.kind=0:=by simpa using hk
   unfold fieldsB at hf
   rw [if_pos hk0] at hf
   simp only [Bool.and_eq_true,maybeB,belowB,Bool.or_eq_true,beq_iff_eq,decide_eq_true_eq] at hf
   omega
  ·rw [if_neg hk] at hq
   omega
theorem slEvents:SlTy Tryz.prog 25 40 12 136:=by
 obtain ⟨i,hi,h0,h1,h2⟩:=info_parts (show (Tryz.prog.info? 40).map (fun i=>(i.zero,i.size,i.bytes))=some (some (.agg zeroE),12,136) by kernel_rfl)
 exact ⟨Tryz.underlying25,⟨i,_,hi,h0,h1,h2,rfl⟩,by decide,by decide⟩
theorem layEvL:Lay 12 EvL.cs:=⟨fun _=>rfl,fun x u hu=>by
 simp only [EvL.cs,EvM.cs,List.mem_cons,List.not_mem_nil,or_false] at hu
 rcases hu with rfl | rfl | rfl | rfl | rfl | rfl | rfl | rfl | rfl | rfl | rfl | rfl <;> rfl⟩
def AddOut (p:Nat) (L:List EvM) (C:CvL) (e:EvL) (w:World) (en:Ending) (w':World):Prop:=∃ id code:Int,en=.returned (.tuple #[.int .i64 id,.int .i64 code]) ∧
 (stepC L e.ev=0→id=L.length∧code=0∧∃ C',OUpd (cvOb p L C) (cvOb p (L++[e.ev]) C') w w') ∧
 (stepC L e.ev≠0→((code≠0∧code=stepC L e.ev)∨(stepC L e.ev=5∧code=0∧id<L.length))∧Below w.heap.size w w')
theorem add_bad {p:Nat} {L:List EvM} {C:CvL} {e:EvL} {w w':World} {c:Int} (h:stepC L e.ev=c) (hc:c≠0) (hb:Below w.heap.size w w'):AddOut p L C e w (.returned (.tuple #[.int .i64 0,.int .i64 c])) w' :=
 ⟨0,c,rfl,fun h0=>absurd (h.symm.trans h0) hc,fun _=>⟨.inl ⟨hc,h.symm⟩,hb⟩⟩
theorem CvG.drewN {w:World} {p:Nat} {L:List EvM} {F:Int→List Int} {D:Int→Bool} {C:CvL} (h:CvG w p L F D C) (n:Nat):CvG (w.drewN n) p L F D C:=h.below (below_drewN (Below.refl _ _) n)
theorem CvG.drew' {w:World} {p:Nat} {L:List EvM} {F:Int→List Int} {D:Int→Bool} {C:CvL} (h:CvG w p L F D C):CvG w.drew p L F D C:=h.below (Below.drew (Below.refl _ _))
theorem cvAdd_any (p:Nat) (L:List EvM) (C:CvL) (e:EvL) (w:World) (h:CvK w p L C) (he:EvLOk w w.heap.size e) (hL:L.length≤100000) :
  Calls Tryz.prog 41 #[.pointer (some ⟨p,0,none⟩),e.v] w (AddOut p L C e w):=by
 have hb0:Below w.heap.size w (w.alloc (.cells (e.ev.cs e.cA e.cc e.fA e.fc) 40)):=by repeat (first | with_reducible exact Below.refl _ _ | with_reducible assumption | with_reducible refine Below.drew ?_ | with_reducible refine Below.alloc ?_ (by first | omega | (simp;done) | (simp;omega)) _)
 have HK:=hid (CvG.below h hb0)
 have HKw:=hid h
 have HE:=hid (he.now hb0)
 have HB0:=hid hb0
 have E1:=hid (show (w.alloc (.cells (e.ev.cs e.cA e.cc e.fA e.fc) 40)).heap[w.heap.size]?=some (.cells (e.ev.cs e.cA e.cc e.fA e.fc) 40 (0,0)) from (MapKept.heap_alloc w _).1)
 have HLn:=hid (CvG.len h)
 clear h he hb0
 go_enter Tryz.func41,Tryz.ntmps41
 go_upto_region 1 with fail
 change Code.wp _ _ _ _ (w.alloc (.cells (e.ev.cs e.cA e.cc e.fA e.fc) 40))
 generalize w.alloc (.cells (e.ev.cs e.cA e.cc e.fA e.fc) 40)=wb at *
 obtain ⟨b3,hb3⟩:∃ b3,b3=w.heap.size:=⟨_,rfl⟩
 rw [← hb3] at E1 ⊢
 have HB3:=hid hb3
 clear hb3
 have HR3:=hid (fun wq (hq:Below wb.heap.size wb wq)=>range_block ((hq.block b3 (box_lt E1.out)).trans E1.out) rfl)
 have HB:=hid (Below.refl wb.heap.size wb)
 go_wp2_with (first
  | ((with_reducible show wpList _ _ _ (Oper.mk _ (Op.load 40 _) _ _ _ _::_) _ _);refine wpList_load_g rfl 40 (.tmp 3) rfl b3 0 rfl (e.ev.cs e.cA e.cc e.fA e.fc).toList _ (HR3.out _ HB.out) Tryz.underlying40 rfl (by kernel_rfl) ?_)
  | fail)
 refine (evRight_any e.ev e.cA e.cc e.fA e.fc wb HE.out.ok HE.out.cap).mono ?_
 rintro en w1 ⟨rfl,hb1⟩
 have HBn:=hid (HB.out.trans (hb1.mono HB.out.size))
 clear hb1 HB
 have HB:=HBn
 clear HBn
 cases hrt:rightE e.ev with
 | false =>
  have HQ:=hid (add_bad (p:=p) (C:=C) (L:=L) (e:=e) (w:=w) (w':=w1) (c:=2) (by unfold stepC;rw [if_pos hrt]) (by decide) (HB0.out.trans (HB.out.mono HB0.out.size)))
  clear hrt
  go_wp2_with fail
  go_ret2
  exact HQ.out
 | true =>
 have HF:=hid (right_facts hrt)
 have HS1:Hid (stepC L e.ev=if e.ev.seq<(ofL L e.ev.author).length then 5 else if ((ofL L e.ev.author).length:Int)<e.ev.seq∨missB L.length e.ev=true then 14
  else if refOk L e.ev.group e.ev.target=false∨refOk L e.ev.group e.ev.quote=false then 4 else if delB L e.ev.target=true∨delB L e.ev.quote=true then 7 else if 100000≤L.length then 6 else 0):=hid (by unfold stepC;rw [if_neg (by rw [hrt];decide)])
 clear hrt
 have hai:InInt e.ev.author:=by have:=HF.out.1;unfold InInt;omega
 have HK1:=hid (HK.out.below HB.out)
 have k1:=HK1.out.c1
 have hpl:=box_lt HK1.out.box
 have e0:=box_cell ((HB.out.block b3 (box_lt E1.out)).trans E1.out) 0 _ rfl
 have el:=box_lt ((HB.out.block b3 (box_lt E1.out)).trans E1.out)
 have hlk:=fun n=>(HK1.out.drewN n).lookO e.ev.author hai
 go_wp2_with fail
 go_quiet (fail)
 have HBn:=hid (below_drewN HB.out nq)
 clear k1 e0 el hlk hpl HK1 HB
 have HB:=HBn
 clear HBn
 generalize w1.drewN nq=w2 at *
 have HRo:=hid (fun wq (hq:Below wb.heap.size wb wq)=>((HK.out.below hq).getO e.ev.author).rd intLayV)
 have hfl:(ofL L e.ev.author).length≤100000:=Nat.le_trans (ofL_len _ _) hL
 have HMem:=hid (fun x (hx:x∈ofL L e.ev.author)=>ofL_mem hx)
 have HOw:=hid (HK.out.getO e.ev.author)
 generalize hfs:ofL L e.ev.author=fs at *
 have HFs:=hid hfs
 clear hfs
 have HOA:Hid ((C.get e.ev.author).A=(C.get e.ev.author).A):=hid rfl
 generalize hOA:(C.get e.ev.author).A=OA at *
 generalize hOC:(C.get e.ev.author).c=OC at *
 have HOAe:=hid hOA
 have HOCe:=hid hOC
 clear hOA hOC HOA
 have HX:=hid (fun wq (hq:Below wb.heap.size wb wq)=>(hq.block b3 (box_lt E1.out)).trans E1.out)
 have e1:=box_cell (HX.out w2 HB.out) 1 _ rfl
 have el:=box_lt (HX.out w2 HB.out)
 cases g1:decide (e.ev.seq<(fs.length:Int)) with
 | true =>
  have HS2:Hid (stepC L e.ev=5):=hid (by rw [HS1.out,if_pos (by simpa using g1)])
  obtain ⟨k,hk⟩:∃ k:Nat,e.ev.seq=k:=⟨e.ev.seq.toNat,by have:=HF.out.2.1.1;omega⟩
  have hkl:k<fs.length:=by have:=of_decide_eq_true g1;omega
  obtain ⟨ob2,off2,rfl,hob2,_⟩:=RdI_at (HRo.out w2 HB.out) hkl
  have HRk:=hid (fun wq (hq:Below wb.heap.size wb wq)=>show wq.cell? ⟨ob2,off2+k,none⟩=some (.int .i64 fs[k]) from by
   obtain ⟨b4,off4,he4,_,hc4⟩:=RdI_at (HRo.out wq hq) hkl
   obtain ⟨rfl,rfl⟩:ob2=b4∧off2=off4:=by simpa using he4
   exact hc4)
  have hmk:=HMem.out fs[k] (List.getElem_mem hkl)
  obtain ⟨m,hm⟩:∃ m:Nat,fs[k]=m:=⟨fs[k].toNat,by omega⟩
  rw [hm] at HRk hmk
  have hml:m<C.ml.length:=by rw [HLn.out];omega
  have HKl:=hid HLn.out
  have hRe:=(HK.out.below HB.out).evl.rd layEvL
  obtain ⟨eb,eoff,hCA,heb,_⟩:=hRe.at_ hml
  have HRe:=hid (fun wq (hq:Below wb.heap.size wb wq)=>show wq.rangeAt eb (eoff+m * 12) C.ml[m].cs from by
   obtain ⟨b4,off4,he4,_,hc4⟩:=(((HK.out.below hq).evl.rd layEvL)).at_ hml
   rw [hCA] at he4
   obtain ⟨rfl,rfl⟩:eb=b4∧eoff=off4:=by simpa using he4
   exact fun j v hj=>hc4 j v hj)
  have HRs:=hid (fun wq (hq:Below wb.heap.size wb wq)=>(show wq.cell? ⟨b3,1,none⟩=some (.int .i64 (k:Int)) from by rw [← hk];exact box_cell (HX.out wq hq) 1 _ rfl))
  have HRc:=hid (fun wq (hq:Below wb.heap.size wb wq)=>(show wq.cell? ⟨p,0,none⟩=some (.slice (some ⟨eb,eoff,none⟩) C.ml.length C.c) from by rw [← hCA];exact (HK.out.below hq).c0))
  have HOy:=hid (fun wq (hq:Below wb.heap.size wb wq)=>(HK.out.below hq).evs C.ml[m] (List.getElem_mem hml))
  have HRy:=hid (HK.out.evr C.ml[m] (List.getElem_mem hml))
  have hpl:=box_lt (HK.out.below HB.out).box
  clear hCA hRe
  generalize C.ml[m]=y at *
  generalize C.ml.length=nL at *
  have hkl2:(k:Int)<(fs.length:Int):=by omega
  have hml2:(m:Int)<(nL:Int):=by omega
  have HSq:=hid hk
  clear hk
  go_wp2_with fail
  have hu:=Tryz.underlying40
  have hi:(Tryz.prog.info? 40).map (·.size)=some 12:=by kernel_rfl
  clear e1
  refine wp_region_held_drew (S:=fun wq=>Below wb.heap.size wb wq) (by kernel_rfl) (Below.drew HB.out) (fun hHeld=>?_)
  refine wpAnyH_take (i:=0) (v:=?_) rfl (by kernel_rfl) (by kernel_rfl) (by kernel_rfl) (fun _ _ _ h=>h) (Or.inl ⟨by rfl,?_⟩) (by assumption) ?_
  rotate_left
  ·intro wq hSq
   skip
   go_simp
   try with_reducible rfl
  simp only [Act.put,sA,sB,sC,sD,sE,sF]
  refine wpAnyH_take (i:=1) (v:=?_) rfl (by kernel_rfl) (by kernel_rfl) (by kernel_rfl) (fun _ _ _ h=>h) (Or.inl ⟨by rfl,?_⟩) (by assumption) ?_
  rotate_left
  ·intro wq hSq
   skip
   go_simp
   try with_reducible rfl
  simp only [Act.put,sA,sB,sC,sD,sE,sF]
  refine wpAnyH_take (i:=2) (v:=?_) rfl (by kernel_rfl) (by kernel_rfl) (by kernel_rfl) (fun _ _ _ h=>h) (Or.inl ⟨by rfl,?_⟩) (by assumption) ?_
  rotate_left
  ·intro wq hSq
   skip
   go_simp
   try with_reducible rfl
  simp only [Act.put,sA,sB,sC,sD,sE,sF]
  refine wpAnyH_take (i:=3) (v:=?_) rfl (by kernel_rfl) (by kernel_rfl) (by kernel_rfl) (fun _ _ _ h=>h) (Or.inl ⟨by rfl,?_⟩) (by assumption) ?_
  rotate_left
  ·intro wq hSq
   have z:=HRc.out wq hSq
   go_simp
   try with_reducible rfl
  simp only [Act.put,sA,sB,sC,sD,sE,sF]
  refine wpAnyH_take (i:=4) (v:=?_) rfl (by kernel_rfl) (by kernel_rfl) (by kernel_rfl) (fun _ _ _ h=>h) (Or.inl ⟨by rfl,?_⟩) (by assumption) ?_
  rotate_left
  ·intro wq hSq
   skip
   go_simp
   try with_reducible rfl
  simp only [Act.put,sA,sB,sC,sD,sE,sF]
  refine wpAnyH_take (i:=5) (v:=?_) rfl (by kernel_rfl) (by kernel_rfl) (by kernel_rfl) (fun _ _ _ h=>h) (Or.inl ⟨by rfl,?_⟩) (by assumption) ?_
  rotate_left
  ·intro wq hSq
   skip
   go_simp
   try with_reducible rfl
  simp only [Act.put,sA,sB,sC,sD,sE,sF]
  refine wpAnyH_take (i:=6) (v:=?_) rfl (by kernel_rfl) (by kernel_rfl) (by kernel_rfl) (fun _ _ _ h=>h) (Or.inl ⟨by rfl,?_⟩) (by assumption) ?_
  rotate_left
  ·intro wq hSq
   have z:=HRs.out wq hSq
   go_simp
   try with_reducible rfl
  simp only [Act.put,sA,sB,sC,sD,sE,sF]
  refine wpAnyH_take (i:=7) (v:=?_) rfl (by kernel_rfl) (by kernel_rfl) (by kernel_rfl) (fun _ _ _ h=>h) (Or.inl ⟨by rfl,?_⟩) (by assumption) ?_
  rotate_left
  ·intro wq hSq
   skip
   go_simp
   try with_reducible rfl
  simp only [Act.put,sA,sB,sC,sD,sE,sF]
  refine wpAnyH_take (i:=8) (v:=?_) rfl (by kernel_rfl) (by kernel_rfl) (by kernel_rfl) (fun _ _ _ h=>h) (Or.inl ⟨by rfl,?_⟩) (by assumption) ?_
  rotate_left
  ·intro wq hSq
   have z:=HRk.out wq hSq
   go_simp
   try with_reducible rfl
  simp only [Act.put,sA,sB,sC,sD,sE,sF]
  refine wpAnyH_take (i:=9) (v:=?_) rfl (by kernel_rfl) (by kernel_rfl) (by kernel_rfl) (fun _ _ _ h=>h) (Or.inl ⟨by rfl,?_⟩) (by assumption) ?_
  rotate_left
  ·intro wq hSq
   skip
   go_simp
   try with_reducible rfl
  simp only [Act.put,sA,sB,sC,sD,sE,sF]
  refine' wpAnyH_take (i:=10) rfl (by kernel_rfl) (by kernel_rfl) (by kernel_rfl) (fun _ _ _ h=>h) (yieldsIf_load_mid (by rfl) _ _ rfl _ _ rfl _ _ HRe.out hu rfl hi) (by assumption) ?_
  simp only [Act.put,sA,sB,sC,sD,sE,sF]
  refine' wpAnyH_take (i:=11) rfl (by kernel_rfl) (by kernel_rfl) (by kernel_rfl) (fun _ _ _ h=>h) (yieldsIf_load_mid (by rfl) _ _ rfl _ _ rfl _ _ HR3.out hu rfl hi) (by assumption) ?_
  simp only [Act.put,sA,sB,sC,sD,sE,sF]
  clear hu hi
  refine wpAnyH_ready (rs:=[12]) (by kernel_rfl) (by simp) ?_
  refine AllReadyH.cons rfl (fun K hK=>?_) AllReadyH.nil
  go_simp
  refine (evAlike_any y e _ (HOy.out _ hHeld) (HE.out.now hHeld) (by have:=HRy.out;omega) (by have:=HF.out;omega)).mono ?_
  rintro en w3 ⟨rfl,hb3⟩
  generalize alikeE y.ev e.ev=q at *
  have hs1:=hHeld.trans (hb3.mono hHeld.size)
  clear hb3
  go_wp2_with fail
  refine hK.out _ _ hs1 ?_
  clear hK K hHeld hs1
  intro hHeld
  refine wpAnyH_ready (rs:=[13]) (by kernel_rfl) (by simp) ?_
  refine AllReadyH.cons rfl (fun K hK=>?_) AllReadyH.nil
  go_simp
  refine hK.out _ _ hHeld ?_
  clear hK K
  intro _
  refine wpAnyH_done (by kernel_rfl) ?_ _
  have HB2:=hid hHeld
  clear hHeld
  cases q with
  | false =>
   have HQ:=hid (add_bad (p:=p) (C:=C) (L:=L) (e:=e) (w:=w) (w':=w3) (c:=5) HS2.out (by decide) (HB0.out.trans (HB2.out.mono HB0.out.size)))
   go_wp2_with fail
   go_ret2
   exact HQ.out
  | true =>
   have z1:=HRk.out w3 HB2.out
   have z2:=HRs.out w3 HB2.out
   have HQ:Hid (AddOut p L C e w (.returned (.tuple #[.int .i64 (m:Int),.int .i64 0])) w3):=hid ⟨m,0,rfl,fun h0=>absurd (HS2.out.symm.trans h0) (by decide),fun _=>⟨.inr ⟨HS2.out,rfl,hmk.2⟩,HB0.out.trans (HB2.out.mono HB0.out.size)⟩⟩
   go_wp2_with fail
   go_ret2
   exact HQ.out
 | false =>
  have HS3:Hid (stepC L e.ev=if ((fs.length:Int)<e.ev.seq∨missB L.length e.ev=true) then 14
   else if refOk L e.ev.group e.ev.target=false∨refOk L e.ev.group e.ev.quote=false then 4 else if delB L e.ev.target=true∨delB L e.ev.quote=true then 7 else if 100000≤L.length then 6 else 0):=hid (by rw [HS1.out,if_neg (by simpa using g1)])
  have HG1:=hid g1
  cases g2:decide ((fs.length:Int)<e.ev.seq) with
  | true =>
   have HQ:=fun w' (hb:Below wb.heap.size wb w')=>add_bad (p:=p) (C:=C) (L:=L) (e:=e) (w:=w) (w':=w') (c:=14) (by rw [HS3.out,if_pos (.inl (by simpa using g2))]) (by decide) (HB0.out.trans (hb.mono HB0.out.size))
   have HQ:=hid (HQ w2 HB.out)
   go_wp2_with fail
   go_ret2
   exact HQ.out
  | false =>
  have HG2:=hid g2
  go_wp2_with (first
   | ((with_reducible show wpList _ _ _ (Oper.mk _ (Op.load 40 _) _ _ _ _::_) _ _);refine wpList_load_g rfl 40 (.tmp 3) rfl b3 0 rfl (e.ev.cs e.cA e.cc e.fA e.fc).toList _ (HR3.out _ HB.out) Tryz.underlying40 rfl (by kernel_rfl) ?_)
   | fail)
  refine (cvMiss_any p L _ _ C e w2 (HK.out.below HB.out) (HE.out.now HB.out) (by have:=HF.out;omega)).mono ?_
  rintro en w3 ⟨rfl,hb3⟩
  have HBn:=hid (HB.out.trans (hb3.mono HB.out.size))
  clear hb3 e1 el HB
  have HB:=HBn
  clear HBn
  cases g3:missB L.length e.ev with
  | true =>
   have HQ:=hid (add_bad (p:=p) (C:=C) (L:=L) (e:=e) (w:=w) (w':=w3) (c:=14) (by rw [HS3.out,if_pos (.inr g3)]) (by decide) (HB0.out.trans (HB.out.mono HB0.out.size)))
   clear g3
   go_wp2_with fail
   go_ret2
   exact HQ.out
  | false =>
  have HM:Hid (e.ev.target<L.length∧e.ev.quote<L.length):=hid (by
   unfold missB at g3
   simp only [Bool.or_eq_false_iff,decide_eq_false_iff_not] at g3
   omega)
  have HS4:Hid (stepC L e.ev=if refOk L e.ev.group e.ev.target=false∨refOk L e.ev.group e.ev.quote=false then 4 else if delB L e.ev.target=true∨delB L e.ev.quote=true then 7 else if 100000≤L.length then 6 else 0):=hid (by
   rw [HS3.out,if_neg]
   rintro (h | h)
   ·have:=HG2.out;simp at this;omega
   ·rw [g3] at h;cases h)
  clear g3 HS3 HS1
  have e5:=box_cell (HX.out w3 HB.out) 5 _ rfl
  have e6:=box_cell (HX.out w3 HB.out) 6 _ rfl
  have el:=box_lt (HX.out w3 HB.out)
  go_upto_region 11 with fail
  clear e5 e6 el
  obtain ⟨wA,hwA⟩:∃ x,x=w3.alloc (.cells #[.int .i64 e.ev.target,.int .i64 e.ev.quote] 3):=⟨_,rfl⟩
  have HBA:Hid (Below wb.heap.size wb wA):=hid (by rw [hwA];exact HB.out.alloc HB.out.size _)
  have HCA:Hid (wA.cell? ⟨w3.heap.size,0,none⟩=some (.int .i64 e.ev.target)∧wA.cell? ⟨w3.heap.size,1,none⟩=some (.int .i64 e.ev.quote)∧w3.heap.size<wA.heap.size):=hid (by rw [hwA];exact ⟨by simp,by simp,by simp⟩)
  rw [← hwA]
  clear hwA HB
  obtain ⟨bA,hbA⟩:∃ b,b=w3.heap.size:=⟨_,rfl⟩
  rw [← hbA] at HCA ⊢
  clear hbA
  go_loopw [8,60] (fun _ i wr=>∃ k:Nat,k≤2∧i=.int .i64 k∧(1≤k→refOk L e.ev.group e.ev.target=true)∧(2≤k→refOk L e.ev.group e.ev.quote=true)∧Below wA.heap.size wA wr) (fun _ i _=>3 - (intOf i).toNat)
  case atStart=>exact ⟨0,by omega,rfl,fun h=>by omega,fun h=>by omega,Below.refl _ _⟩
  case round =>
   obtain ⟨k,hk2,rfl,hr1,hr2,hbr⟩:=hrel
   have HBr:=hid hbr
   have HB:=hid (HBA.out.trans (hbr.mono HBA.out.size))
   have HR1:=hid hr1
   have HR2:=hid hr2
   clear hr1 hr2
   have lA:bA<wr.heap.size:=by have:=HCA.out.2.2;have:=hbr.size;omega
   have zA0:=(hbr.cell (p:=⟨bA,0,none⟩) HCA.out.2.2).trans HCA.out.1
   have zA1:=(hbr.cell (p:=⟨bA,1,none⟩) HCA.out.2.2).trans HCA.out.2.1
   have z0:=(HK.out.below HB.out).c0
   have zg:=box_cell (HX.out wr HB.out) 4 _ rfl
   have el:=box_lt (HX.out wr HB.out)
   have hpl:=box_lt (HK.out.below HB.out).box
   clear hbr
   obtain rfl | rfl | rfl:k=0∨k=1∨k=2:=by omega
   ·clear zA1 hk2
    by_cases hm1:e.ev.target=-1
    ·have HQ:Hid (refOk L e.ev.group (e.ev.target)=true):=hid (by unfold refOk;simp [hm1])
     have q:(e.ev.target != -1)=false:=by simp [hm1]
     clear hm1
     go_wp2_with fail
     go_quiet (fail)
     have HBq:=hid (below_drewN HBr.out nq)
     go_wp2_with fail
     go_roundw
     case rel=>exact ⟨1,by omega,by first | rfl | go_num,fun _=>HQ.out,fun h=>by omega,HBq.out⟩
     case measure=>simp [intOf]
    ·obtain ⟨m,hm⟩:∃ m:Nat,e.ev.target=m:=⟨(e.ev.target).toNat,by have:=HF.out.2.2.1.1;omega⟩
     have hml:m<C.ml.length:=by rw [HLn.out];have:=HM.out.1;omega
     obtain ⟨eb,eoff,hCA,heb,hcc⟩:=((HK.out.below HB.out).evl.rd layEvL).at_ hml
     have z3:=hcc 3 (.int .i64 C.ml[m].ev.kind) rfl
     have z4:=hcc 4 (.int .i64 C.ml[m].ev.group) rfl
     have HQ0:Hid (refOk L e.ev.group (e.ev.target)=(C.ml[m].ev.kind==0 && C.ml[m].ev.group==e.ev.group)):=hid (by
      have hLm:L[m]?=some C.ml[m].ev:=by
       rw [← HK.out.ml,List.getElem?_map,List.getElem?_eq_getElem hml];rfl
      unfold refOk
      rw [hm,Int.toNat_natCast,hLm]
      have:((m:Int)==-1)=false:=by simp
      rw [this,Bool.false_or])
     have q:((m:Int) != -1)=true:=by simp
     have hml2:(m:Int)<(C.ml.length:Int):=by omega
     rw [hm] at zA0
     rw [hCA] at z0
     have Hm:=hid hm
     clear hm hm1 hCA hcc
     generalize C.ml[m]=y at *
     cases h1:(y.ev.kind != 0) with
     | true =>
      have HQ:=fun (w':World) (hb:Below wb.heap.size wb w')=>add_bad (p:=p) (C:=C) (L:=L) (e:=e) (w:=w) (w':=w') (c:=4) (by rw [HS4.out,if_pos (Or.inl (by rw [HQ0.out];have:(y.ev.kind==0)=false:=(by simpa using h1);rw [this];rfl))]) (by decide) (HB0.out.trans (hb.mono HB0.out.size))
      have HQ2:=hid HQ
      clear HQ
      go_wp2_with fail
      go_quiet (fail)
      have HBq:=hid (below_drewN HB.out nq)
      go_wp2_with fail
      go_ret2
      exact HQ2.out _ HBq.out
     | false =>
     cases h2:(y.ev.group != e.ev.group) with
     | true =>
      have HQ:=fun (w':World) (hb:Below wb.heap.size wb w')=>add_bad (p:=p) (C:=C) (L:=L) (e:=e) (w:=w) (w':=w') (c:=4) (by rw [HS4.out,if_pos (Or.inl (by rw [HQ0.out];have:(y.ev.group==e.ev.group)=false:=(by simpa using h2);rw [this,Bool.and_false]))]) (by decide) (HB0.out.trans (hb.mono HB0.out.size))
      have HQ2:=hid HQ
      clear HQ
      go_wp2_with fail
      go_quiet (fail)
      have HBq:=hid (below_drewN HB.out nq)
      go_wp2_with fail
      go_ret2
      exact HQ2.out _ HBq.out
     | false =>
      have HQ:Hid (refOk L e.ev.group (e.ev.target)=true):=hid (by
       have a1:(y.ev.kind==0)=true:=by simpa using h1
       have a2:(y.ev.group==e.ev.group)=true:=by simpa using h2
       rw [HQ0.out,a1,a2];rfl)
      go_wp2_with fail
      go_quiet (fail)
      have HBq:=hid (below_drewN HBr.out nq)
      go_wp2_with fail
      go_roundw
      case rel=>exact ⟨1,by omega,by first | rfl | go_num,fun _=>HQ.out,fun h=>by omega,HBq.out⟩
      case measure=>simp [intOf]
   ·clear zA0 hk2
    by_cases hm1:e.ev.quote=-1
    ·have HQ:Hid (refOk L e.ev.group (e.ev.quote)=true):=hid (by unfold refOk;simp [hm1])
     have q:(e.ev.quote != -1)=false:=by simp [hm1]
     clear hm1
     go_wp2_with fail
     go_quiet (fail)
     have HBq:=hid (below_drewN HBr.out nq)
     go_wp2_with fail
     go_roundw
     case rel=>exact ⟨2,by omega,by first | rfl | go_num,fun _=>HR1.out (by omega),fun _=>HQ.out,HBq.out⟩
     case measure=>simp [intOf]
    ·obtain ⟨m,hm⟩:∃ m:Nat,e.ev.quote=m:=⟨(e.ev.quote).toNat,by have:=HF.out.2.2.2.1.1;omega⟩
     have hml:m<C.ml.length:=by rw [HLn.out];have:=HM.out.2;omega
     obtain ⟨eb,eoff,hCA,heb,hcc⟩:=((HK.out.below HB.out).evl.rd layEvL).at_ hml
     have z3:=hcc 3 (.int .i64 C.ml[m].ev.kind) rfl
     have z4:=hcc 4 (.int .i64 C.ml[m].ev.group) rfl
     have HQ0:Hid (refOk L e.ev.group (e.ev.quote)=(C.ml[m].ev.kind==0 && C.ml[m].ev.group==e.ev.group)):=hid (by
      have hLm:L[m]?=some C.ml[m].ev:=by
       rw [← HK.out.ml,List.getElem?_map,List.getElem?_eq_getElem hml];rfl
      unfold refOk
      rw [hm,Int.toNat_natCast,hLm]
      have:((m:Int)==-1)=false:=by simp
      rw [this,Bool.false_or])
     have q:((m:Int) != -1)=true:=by simp
     have hml2:(m:Int)<(C.ml.length:Int):=by omega
     rw [hm] at zA1
     rw [hCA] at z0
     have Hm:=hid hm
     clear hm hm1 hCA hcc
     generalize C.ml[m]=y at *
     cases h1:(y.ev.kind != 0) with
     | true =>
      have HQ:=fun (w':World) (hb:Below wb.heap.size wb w')=>add_bad (p:=p) (C:=C) (L:=L) (e:=e) (w:=w) (w':=w') (c:=4) (by rw [HS4.out,if_pos (Or.inr (by rw [HQ0.out];have:(y.ev.kind==0)=false:=(by simpa using h1);rw [this];rfl))]) (by decide) (HB0.out.trans (hb.mono HB0.out.size))
      have HQ2:=hid HQ
      clear HQ
      go_wp2_with fail
      go_quiet (fail)
      have HBq:=hid (below_drewN HB.out nq)
      go_wp2_with fail
      go_ret2
      exact HQ2.out _ HBq.out
     | false =>
     cases h2:(y.ev.group != e.ev.group) with
     | true =>
      have HQ:=fun (w':World) (hb:Below wb.heap.size wb w')=>add_bad (p:=p) (C:=C) (L:=L) (e:=e) (w:=w) (w':=w') (c:=4) (by rw [HS4.out,if_pos (Or.inr (by rw [HQ0.out];have:(y.ev.group==e.ev.group)=false:=(by simpa using h2);rw [this,Bool.and_false]))]) (by decide) (HB0.out.trans (hb.mono HB0.out.size))
      have HQ2:=hid HQ
      clear HQ
      go_wp2_with fail
      go_quiet (fail)
      have HBq:=hid (below_drewN HB.out nq)
      go_wp2_with fail
      go_ret2
      exact HQ2.out _ HBq.out
     | false =>
      have HQ:Hid (refOk L e.ev.group (e.ev.quote)=true):=hid (by
       have a1:(y.ev.kind==0)=true:=by simpa using h1
       have a2:(y.ev.group==e.ev.group)=true:=by simpa using h2
       rw [HQ0.out,a1,a2];rfl)
      go_wp2_with fail
      go_quiet (fail)
      have HBq:=hid (below_drewN HBr.out nq)
      go_wp2_with fail
      go_roundw
      case rel=>exact ⟨2,by omega,by first | rfl | go_num,fun _=>HR1.out (by omega),fun _=>HQ.out,HBq.out⟩
      case measure=>simp [intOf]
   ·clear zA0 zA1 hk2 lA
    have HS5:Hid (stepC L e.ev=if delB L e.ev.target=true∨delB L e.ev.quote=true then 7 else if 100000≤L.length then 6 else 0):=hid (by
     rw [HS4.out,if_neg]
     rintro (h | h)
     ·rw [HR1.out (by omega)] at h;cases h
     ·rw [HR2.out (by omega)] at h;cases h)
    clear HR1 HR2 HS4
    go_wp2_with fail
    have hti:InInt e.ev.target:=by have:=HF.out.2.2.1;unfold InInt;omega
    have hqi:InInt e.ev.quote:=by have:=HF.out.2.2.2.1;unfold InInt;omega
    have z2:=(HK.out.below HB.out).c2
    have z5:=box_cell (HX.out wr HB.out) 5 _ rfl
    have z6:=box_cell (HX.out wr HB.out) 6 _ rfl
    have hl1:=fun n=>((HK.out.below HB.out).drewN n).lookD e.ev.target hti
    have hl2:=fun n=>((HK.out.below HB.out).drewN n).lookD e.ev.quote hqi
    cases g4:delB L e.ev.target with
    | true =>
     have HQ:Hid (∀ w',Below wb.heap.size wb w'→AddOut p L C e w (.returned (.tuple #[.int .i64 0,.int .i64 7])) w'):=hid (fun w' hb=>add_bad (p:=p) (C:=C) (L:=L) (e:=e) (w:=w) (w':=w') (c:=7) (by rw [HS5.out,if_pos (.inl g4)]) (by decide) (HB0.out.trans (hb.mono HB0.out.size)))
     rw [g4] at hl1
     go_quiet (fail)
     have HBq:=hid (below_drewN HB.out nq)
     clear hl1 hl2 z2 z5 z6
     go_wp2_with fail
     go_ret2
     exact HQ.out _ HBq.out
    | false =>
    rw [g4] at hl1
    cases g5:delB L e.ev.quote with
    | true =>
     have HQ:Hid (∀ w',Below wb.heap.size wb w'→AddOut p L C e w (.returned (.tuple #[.int .i64 0,.int .i64 7])) w'):=hid (fun w' hb=>add_bad (p:=p) (C:=C) (L:=L) (e:=e) (w:=w) (w':=w') (c:=7) (by rw [HS5.out,if_pos (.inr g5)]) (by decide) (HB0.out.trans (hb.mono HB0.out.size)))
     rw [g5] at hl2
     go_quiet (fail)
     have HBq:=hid (below_drewN HB.out nq)
     clear hl1 hl2 z2 z5 z6
     go_wp2_with fail
     go_ret2
     exact HQ.out _ HBq.out
    | false =>
    rw [g5] at hl2
    have HS6:Hid (stepC L e.ev=if 100000≤L.length then 6 else 0):=hid (by
     rw [HS5.out,if_neg]
     rintro (h | h)
     ·rw [g4] at h;cases h
     ·rw [g5] at h;cases h)
    go_quiet (fail)
    have HBq:=hid (below_drewN HB.out nq)
    clear hl1 hl2 z2 z5 z6 z0 zg el hpl HBr HB
    have HB:=HBq
    clear HBq
    generalize wr.drewN nq=w4 at *
    by_cases g6:100000≤L.length
    ·have d6:decide ((100000:Int)≤(C.ml.length:Int))=true:=by rw [HLn.out];simp;omega
     have HQ:=hid (add_bad (p:=p) (C:=C) (L:=L) (e:=e) (w:=w) (w':=w4) (c:=6) (by rw [HS6.out,if_pos g6]) (by decide) (HB0.out.trans (HB.out.mono HB0.out.size)))
     clear g6
     go_wp2_with fail
     go_ret2
     exact HQ.out
    have d6:decide ((100000:Int)≤(C.ml.length:Int))=false:=by rw [HLn.out];simp;omega
    have HS7:Hid (stepC L e.ev=0):=hid (by rw [HS6.out,if_neg g6])
    have HLl:=hid (show L.length<100000 by omega)
    clear g6 HS6 HS5 g4 g5
    go_wp2_with fail
    have hu:=Tryz.underlying40
    have hi:(Tryz.prog.info? 40).map (·.size)=some 12:=by kernel_rfl
    have HK4:=hid (HK.out.below HB.out)
    have HX4:=hid (HX.out w4 HB.out)
    have hpl:=box_lt HK4.out.box
    have hbl:=box_lt HX4.out
    refine wp_region_J (S:=fun w'=>w'.cell? ⟨p,0,none⟩=some (.slice C.A C.ml.length C.c)∧w'.rangeAt b3 0 (e.ev.cs e.cA e.cc e.fA e.fc).toList) (fun i=>i==11) (by kernel_rfl) (⟨HK4.out.c0,range_block HX4.out rfl⟩) (fun hHeld=>?_)
    refine wpAnyJ_pure (i:=0) (v:=?_) rfl (by kernel_rfl) (by kernel_rfl) (by kernel_rfl) (fun _ _ _ h=>h) (Or.inl ⟨by rfl,?_⟩) ?_
    rotate_left
    ·intro wq _
     go_simp
     try with_reducible rfl
    simp only [Act.put,sA,sB,sC]
    refine wpAnyJ_pure (i:=1) (v:=?_) rfl (by kernel_rfl) (by kernel_rfl) (by kernel_rfl) (fun _ _ _ h=>h) (Or.inl ⟨by rfl,?_⟩) ?_
    rotate_left
    ·intro wq _
     go_simp
     try with_reducible rfl
    simp only [Act.put,sA,sB,sC]
    refine wpAnyJ_pure (i:=2) (v:=?_) rfl (by kernel_rfl) (by kernel_rfl) (by kernel_rfl) (fun _ _ _ h=>h) (Or.inl ⟨by rfl,?_⟩) ?_
    rotate_left
    ·intro wq _
     go_simp
     try with_reducible rfl
    simp only [Act.put,sA,sB,sC]
    refine wpAnyJ_pure (i:=3) (v:=?_) rfl (by kernel_rfl) (by kernel_rfl) (by kernel_rfl) (fun _ _ _ h=>h) (Or.inl ⟨by rfl,?_⟩) ?_
    rotate_left
    ·intro wq _
     go_simp
     try with_reducible rfl
    simp only [Act.put,sA,sB,sC]
    refine wpAnyJ_take (i:=4) (v:=?_) rfl (by kernel_rfl) (by kernel_rfl) (by kernel_rfl) (by kernel_rfl) (fun _ _ _ h=>h) (Or.inl ⟨by rfl,?_⟩) hHeld ?_
    rotate_left
    ·intro wq hSq
     obtain ⟨s1,s2⟩:=hSq
     go_simp
     try with_reducible rfl
    simp only [Act.put,sA,sB,sC]
    refine wpAnyJ_take (i:=5) rfl (by kernel_rfl) (by kernel_rfl) (by kernel_rfl) (by kernel_rfl) (fun _ _ _ h=>h) (yieldsIf_load_mid (by rfl) _ _ rfl _ _ rfl _ _ (fun wq hq=>hq.2) hu rfl hi) hHeld ?_
    simp only [Act.put,sA,sB,sC]
    clear hu hi
    refine wpAnyJ_one (i:=6) rfl (by kernel_rfl) (fun K hK=>?_)
    go_simp
    refine (cvClone_any e _ (HE.out.now HB.out.drew) (by have:=HF.out;omega) (by have:=HF.out;omega)).mono ?_
    rintro en w7 ⟨x,rfl,hxe,hxo,hxf,hb7⟩
    go_wp2_with fail
    refine hK.out _ _ (fun _ h=>⟨(hb7.cell (p:=⟨p,0,none⟩) hpl).trans h.1,fun j v hj=>(hb7.cell (p:=⟨b3,0+j,none⟩) hbl).trans (h.2 j v hj)⟩) ?_
    clear hK K
    have hB7:Below wb.heap.size wb w7:=HB.out.drew.trans (hb7.mono HB.out.drew.size)
    have HB7:=hid hB7
    have HK7:=hid (HK.out.below hB7)
    have HX7:=hid (HX.out w7 hB7)
    have HXo:=hid hxo
    have HXe:=hid hxe
    have HXf:=hid (fun i hi=>(show w4.heap.size≤i∧i<w7.heap.size from hxf i hi))
    clear hxo hxe hxf hb7 hB7 hpl hbl
    have hpl:=box_lt HK7.out.box
    have hbl:=box_lt HX7.out
    refine wpAnyJ_one (i:=7) rfl (by kernel_rfl) (fun K hK=>?_)
    go_simp
    refine hK.out _ _ (fun _ h=>⟨(cell_old w7 _ p 0 hpl).trans h.1,fun j v hj=>(cell_old w7 _ b3 (0+j) hbl).trans (h.2 j v hj)⟩) ?_
    clear hK K
    have hcl:=HLn.out
    have hll:=HLl.out
    refine wpAnyJ_one (i:=8) rfl (by kernel_rfl) (fun K hK=>?_)
    refine step_append_l rfl (.tmp 120) (.tmp 123) rfl slEvents layEvL 0 C.ml [x] rfl rfl (HK7.out.evl.alloc _) rfl rfl ⟨_,RdL.lit layEvL w7 [x] (x.ev.cs x.cA x.cc x.fA x.fc) 40 (by simp [EvL.cs])⟩ (by simp;omega) (Nat.zero_le _) ?_
    intro A2 c2 w5 hown hg hbl2 hat
    simp only [own_blk] at hg hat
    have hg2:(w7.alloc (.cells (x.ev.cs x.cA x.cc x.fA x.fc) 40)).grownBy w5 (slBlk C.A):=⟨hg.os,hg.tape,hg.output,hg.size,hg.block⟩
    have hnb:¬ C.own p b3:=fun ho=>by have:=CvG.lt HKw.out b3 ho;have:=HB3.out;omega
    have hbp:w5.heap[p]?=w7.heap[p]?:=(hg2.block p (by simp;omega) (fun e=>(HK7.out.d2 p e.symm).1 rfl)).trans (Below.heap_alloc w7 _ p hpl)
    have hbb:w5.heap[b3]?=w7.heap[b3]?:=(hg2.block b3 (by simp;omega) (fun e=>hnb (.inr (.inr (.inr (.inl e.symm)))))).trans (Below.heap_alloc w7 _ b3 hbl)
    have hal7:Below w7.heap.size w7 (w7.alloc (.cells (x.ev.cs x.cA x.cc x.fA x.fc) 40)):=(Below.refl _ _).alloc (Nat.le_refl _) _
    have HPu:=hid (fun k hk=>CvG.push (k:=k) (HK7.out.below hal7) hown hg2 hat (HXo.out.now hal7) (fun i hi=>⟨by have:=HXf.out i hi;simp;omega,fun ho=>by have:=CvG.lt HKw.out i ho;have h1:=HXf.out i hi;have h2:=HB.out.size;have h3:=HB0.out.size;omega⟩) (by rw [HXe.out];have:=HF.out;omega) hk)
    have HXb:=hid (hbb.trans HX7.out)
    have e0:=box_cell (hbp.trans HK7.out.box) 0 _ rfl
    have ez:=box_free (hbp.trans HK7.out.box) 0
    have HNb:=hid hnb
    clear hown hg hat hg2 hbl2 hnb hal7 hcl hll
    refine hK.out _ _ (fun _ h=>⟨e0,range_block HXb.out rfl⟩) ?_
    clear hK K
    clear hHeld hbp hbb
    refine wpAnyJ_pure (i:=9) (v:=?_) rfl (by kernel_rfl) (by kernel_rfl) (by kernel_rfl) (fun _ _ _ h=>h) (Or.inl ⟨by rfl,?_⟩) ?_
    rotate_left
    ·intro wq _
     go_simp
     try with_reducible rfl
    simp only [Act.put,sA,sB,sC]
    refine wpAnyJ_pure (i:=10) (v:=?_) rfl (by kernel_rfl) (by kernel_rfl) (by kernel_rfl) (fun _ _ _ h=>h) (Or.inl ⟨by rfl,?_⟩) ?_
    rotate_left
    ·intro wq _
     go_simp
     try with_reducible rfl
    simp only [Act.put,sA,sB,sC]
    refine wpAnyJ_one (i:=11) rfl (by kernel_rfl) (fun K hK=>?_)
    go_simp
    refine hK.out _ _ (fun h=>nomatch h) ?_
    clear hK K
    refine wpAnyJ_done (by kernel_rfl) ?_ _
    clear e0 ez
    obtain ⟨hk6,ht6,ho6⟩:=HPu.out (C.ml.length+1) (by simp)
    have hTT:Turn (C.own p) w (w5.setCell ⟨p,0,none⟩ (.slice A2 (C.ml.length+1) c2)):=(Turn.below (HB0.out.trans (HB7.out.mono HB0.out.size))).trans (((Turn.refl (C.own p) w7).alloc _).trans ht6 (fun i hi=>.inl hi)) (fun i hi=>.inl hi)
    have hX6:(w5.setCell ⟨p,0,none⟩ (.slice A2 (C.ml.length+1) c2)).heap[b3]?=some (.cells (e.ev.cs e.cA e.cc e.fA e.fc) 40 (0,0)):=(ht6.block b3 (by simp;omega) HNb.out).trans ((Below.heap_alloc w7 _ b3 hbl).trans HX7.out)
    have hoo:∀ i,({C with A:=A2,c:=c2,ml:=C.ml++[x]}:CvL).own p i→C.own p i∨w.heap.size≤i:=fun i hi=>(ho6 i hi).imp id (fun h=>by have h1:=(HB0.out.trans (HB7.out.mono HB0.out.size)).size;simp at h;omega)
    have HNb6:=hid (fun (ho:({C with A:=A2,c:=c2,ml:=C.ml++[x]}:CvL).own p b3)=>(ho6 b3 ho).elim HNb.out (fun h=>by simp at h;omega))
    have HK6:=hid hk6
    have HT6:=hid hTT
    have HX6:=hid hX6
    have HO6:=hid hoo
    clear hk6 ht6 ho6 hTT hX6 hoo HPu HXb HX7 HK7 hpl hbl
    generalize w5.setCell ⟨p,0,none⟩ (.slice A2 (C.ml.length+1) c2)=w6 at *
    have hpl:=box_lt HK6.out.box
    have hbl:=box_lt HX6.out
    have HG6:Hid (OwnL w6 0 3 1 intC OA OC fs):=hid (by
     have:=HK6.out.getO e.ev.author
     rw [HFs.out] at this
     rw [← HOAe.out,← HOCe.out]
     exact this)
    go_wp2_with fail
    refine wp_region_J (S:=fun w'=>w'.cell? ⟨p,1,none⟩=some (.map (some C.ob))∧w'.cell? ⟨b3,0,none⟩=some (.int .i64 e.ev.author)) (fun i=>i==10) (by kernel_rfl) (⟨HK6.out.c1,box_cell HX6.out 0 _ rfl⟩) (fun hHeld=>?_)
    refine wpAnyJ_pure (i:=0) (v:=?_) rfl (by kernel_rfl) (by kernel_rfl) (by kernel_rfl) (fun _ _ _ h=>h) (Or.inl ⟨by rfl,?_⟩) ?_
    rotate_left
    ·intro wq _
     go_simp
     try with_reducible rfl
    simp only [Act.put,sA,sB,sC]
    refine wpAnyJ_pure (i:=1) (v:=?_) rfl (by kernel_rfl) (by kernel_rfl) (by kernel_rfl) (fun _ _ _ h=>h) (Or.inl ⟨by rfl,?_⟩) ?_
    rotate_left
    ·intro wq _
     go_simp
     try with_reducible rfl
    simp only [Act.put,sA,sB,sC]
    refine wpAnyJ_pure (i:=2) (v:=?_) rfl (by kernel_rfl) (by kernel_rfl) (by kernel_rfl) (fun _ _ _ h=>h) (Or.inl ⟨by rfl,?_⟩) ?_
    rotate_left
    ·intro wq _
     go_simp
     try with_reducible rfl
    simp only [Act.put,sA,sB,sC]
    refine wpAnyJ_take (i:=3) (v:=?_) rfl (by kernel_rfl) (by kernel_rfl) (by kernel_rfl) (by kernel_rfl) (fun _ _ _ h=>h) (Or.inl ⟨by rfl,?_⟩) hHeld ?_
    rotate_left
    ·intro wq hSq
     obtain ⟨s1,s2⟩:=hSq
     go_simp
     try with_reducible rfl
    simp only [Act.put,sA,sB,sC]
    refine wpAnyJ_pure (i:=4) (v:=?_) rfl (by kernel_rfl) (by kernel_rfl) (by kernel_rfl) (fun _ _ _ h=>h) (Or.inl ⟨by rfl,?_⟩) ?_
    rotate_left
    ·intro wq _
     go_simp
     try with_reducible rfl
    simp only [Act.put,sA,sB,sC]
    refine wpAnyJ_take (i:=5) (v:=?_) rfl (by kernel_rfl) (by kernel_rfl) (by kernel_rfl) (by kernel_rfl) (fun _ _ _ h=>h) (Or.inl ⟨by rfl,?_⟩) hHeld ?_
    rotate_left
    ·intro wq hSq
     obtain ⟨s1,s2⟩:=hSq
     go_simp
     try with_reducible rfl
    simp only [Act.put,sA,sB,sC]
    refine wpAnyJ_pure (i:=6) (v:=?_) rfl (by kernel_rfl) (by kernel_rfl) (by kernel_rfl) (fun _ _ _ h=>h) (Or.inl ⟨by rfl,?_⟩) ?_
    rotate_left
    ·intro wq _
     go_simp
     try with_reducible rfl
    simp only [Act.put,sA,sB,sC]
    refine wpAnyJ_pure (i:=7) (v:=?_) rfl (by kernel_rfl) (by kernel_rfl) (by kernel_rfl) (fun _ _ _ h=>h) (Or.inl ⟨by rfl,?_⟩) ?_
    rotate_left
    ·intro wq _
     go_simp
     try with_reducible rfl
    simp only [Act.put,sA,sB,sC]
    refine wpAnyJ_one (i:=8) rfl (by kernel_rfl) (fun K hK=>?_)
    go_simp
    refine hK.out _ _ (fun _ h=>⟨(cell_old w6 _ p 1 hpl).trans h.1,(cell_old w6 _ b3 0 hbl).trans h.2⟩) ?_
    clear hK K
    refine wpAnyJ_one (i:=9) rfl (by kernel_rfl) (fun K hK=>?_)
    refine step_append_l rfl (.tmp 133) (.tmp 135) rfl slIntE intLayV 0 fs [(C.ml.length:Int)] rfl rfl (HG6.out.alloc _) rfl rfl ⟨_,RdL.one w6 (C.ml.length:Int) #[.int .i64 (C.ml.length:Int)] 3 rfl _ rfl⟩ (by simp;omega) (Nat.zero_le _) ?_
    intro A3 c3 w8 hown hg hbl2 hat
    simp only [own_blk] at hg hat
    have hg2:(w6.alloc (.cells #[.int .i64 (C.ml.length:Int)] 3)).grownBy w8 (slBlk OA):=⟨hg.os,hg.tape,hg.output,hg.size,hg.block⟩
    have hK6a:=HK6.out.below ((Below.refl _ _).alloc (Nat.le_refl _) (.cells #[.int .i64 (C.ml.length:Int)] 3))
    have hAdd:=hK6a.addOwn e.ev.author hai (C.ml.length:Int) (A2:=A3) (c2:=c3) (w5:=w8) (by rw [HFs.out];exact hown) (by
     show (w6.alloc (.cells #[.int .i64 (C.ml.length:Int)] 3)).grownBy w8 (slBlk (C.get e.ev.author).A)
     rw [HOAe.out];exact hg2) (by
     show slBlk A3=slBlk (C.get e.ev.author).A∨_
     rw [HOAe.out];exact hat)
    have hnp:∀ i,slBlk OA=some i→i≠p∧i≠b3:=fun i hi=>by
     rw [← HOAe.out] at hi
     obtain ⟨s,hs,hsi⟩:=CvG.get_some HKw.out hi
     refine ⟨(CvG.d3 HKw.out e.ev.author s i hs hsi).1,fun e=>?_⟩
     have:=CvG.lt HKw.out i (.inr (.inr (.inr (.inr ⟨_,s,hs,hsi⟩))))
     have:=HB3.out
     omega
    have hbp:w8.heap[p]?=w6.heap[p]?:=(hg2.block p (by simp;omega) (fun e=>(hnp p e.symm).1 rfl)).trans (Below.heap_alloc w6 _ p hpl)
    have hbb:w8.heap[b3]?=w6.heap[b3]?:=(hg2.block b3 (by simp;omega) (fun e=>(hnp b3 e.symm).2 rfl)).trans (Below.heap_alloc w6 _ b3 hbl)
    have HAdd:=hid hAdd
    clear hown hg hat hg2 hbl2 hK6a hAdd hnp
    refine hK.out _ _ (fun _ _=>⟨(World.cell?_of_block hbp).trans HK6.out.c1,(World.cell?_of_block hbb).trans (box_cell HX6.out 0 _ rfl)⟩) ?_
    clear hK K
    clear hHeld hbp hbb
    obtain ⟨w9,hrun,hk9,ht9,ho9⟩:=HAdd.out
    simp only [HFs.out,List.length_append,List.length_cons,List.length_nil] at hrun
    have HK9:=hid hk9
    have HT9:=hid ((HT6.out.trans (((Turn.refl _ w6).alloc _).trans ht9 (fun i hi=>.inl hi)) HO6.out))
    have HX9:=hid ((ht9.block b3 (by simp;omega) HNb6.out).trans ((Below.heap_alloc w6 _ b3 hbl).trans HX6.out))
    have HO9:=hid (fun i (hi:({C with A:=A2,c:=c2,ml:=C.ml++[x],f:=fun y=>if y=e.ev.author then some ⟨ofL L e.ev.author++[(C.ml.length:Int)],A3,c3⟩ else C.f y}:CvL).own p i)=>(ho9 i hi).elim (HO6.out i) (fun h=>.inr (by have:=HT6.out.size;simp at h;omega)))
    have HNb9:=hid (fun (ho:({C with A:=A2,c:=c2,ml:=C.ml++[x],f:=fun y=>if y=e.ev.author then some ⟨ofL L e.ev.author++[(C.ml.length:Int)],A3,c3⟩ else C.f y}:CvL).own p b3)=>(ho9 b3 ho).elim HNb6.out (fun h=>by simp at h;omega))
    clear hk9 ht9 ho9 HAdd
    refine wpAnyJ_one (i:=10) rfl (by kernel_rfl) (fun K hK=>?_)
    go_simp
    refine hK.out _ _ (fun h=>nomatch h) ?_
    clear hK K
    refine wpAnyJ_done (by kernel_rfl) ?_ _
    clear hrun hpl hbl
    have hpl:=box_lt HK9.out.box
    have hbl:=box_lt HX9.out
    have z3:=box_cell HX9.out 3 _ rfl
    have hF:(fun y=>if y=e.ev.author then ofL L e.ev.author++[(C.ml.length:Int)] else ofL L y)=ofL (L++[e.ev]):=by
     funext y
     rw [ofL_snoc]
     by_cases hy:y=e.ev.author
     ·rw [if_pos hy,if_pos hy.symm,hy,HLn.out]
     ·rw [if_neg hy,if_neg (fun e=>hy e.symm),List.append_nil]
    cases g7:(e.ev.kind==2) with
    | false =>
     have hD:delB L=delB (L++[e.ev]):=by
      funext y
      rw [delB_snoc,g7,Bool.false_and,Bool.or_false]
     have HQ:Hid (AddOut p L C e w (.returned (.tuple #[.int .i64 (C.ml.length:Int),.int .i64 0])) w9):=hid (by
      have hk:=HK9.out
      rw [hF,HXe.out,hD] at hk
      exact ⟨_,0,rfl,fun _=>⟨by rw [HLn.out],rfl,_,⟨hk,HT9.out,HO9.out,fun i hi=>by
       obtain ⟨y,hy,hyi⟩:=hi
       rcases List.mem_append.1 hy with hy | hy
       ·exact .inl ⟨y,hy,hyi⟩
       ·rw [List.mem_singleton] at hy
        subst hy
        exact .inr (by have h1:=HXf.out i hyi;have h2:=HB.out.size;have h3:=HB0.out.size;omega)⟩⟩,fun h=>absurd HS7.out h⟩)
     clear hF hD
     go_wp2_with fail
     go_ret2
     exact HQ.out
    | true =>
     have hti2:InInt e.ev.target:=by have:=HF.out.2.2.1;unfold InInt;omega
     obtain ⟨wd,hrun,hk10,ht10⟩:=HK9.out.drew'.addDel e.ev.target hti2
     have HK10:=hid hk10
     have HT10:=hid (HT9.out.drew.trans ht10 (fun i hi=>HO9.out i hi))
     have hD:(fun y=>delB L y || y==e.ev.target)=delB (L++[e.ev]):=by
      funext y
      rw [delB_snoc,g7,Bool.true_and]
      congr 1
      rw [Bool.eq_iff_iff]
      simp only [beq_iff_eq]
      exact eq_comm
     have HQ:Hid (AddOut p L C e w (.returned (.tuple #[.int .i64 (C.ml.length:Int),.int .i64 0])) wd):=hid (by
      have hk:=HK10.out
      rw [hF,HXe.out,hD] at hk
      exact ⟨_,0,rfl,fun _=>⟨by rw [HLn.out],rfl,_,⟨hk,HT10.out,HO9.out,fun i hi=>by
       obtain ⟨y,hy,hyi⟩:=hi
       rcases List.mem_append.1 hy with hy | hy
       ·exact .inl ⟨y,hy,hyi⟩
       ·rw [List.mem_singleton] at hy
        subst hy
        exact .inr (by have h1:=HXf.out i hyi;have h2:=HB.out.size;have h3:=HB0.out.size;omega)⟩⟩,fun h=>absurd HS7.out h⟩)
     clear hF hD hk10 ht10
     go_wp2_with fail
     refine wp_region_J (S:=fun w'=>w'.cell? ⟨p,2,none⟩=some (.map (some C.db))∧w'.cell? ⟨b3,5,none⟩=some (.int .i64 e.ev.target)) (fun i=>i==6) (by kernel_rfl) (⟨HK9.out.c2,box_cell HX9.out 5 _ rfl⟩) (fun hHeld=>?_)
     refine wpAnyJ_pure (i:=0) (v:=?_) rfl (by kernel_rfl) (by kernel_rfl) (by kernel_rfl) (fun _ _ _ h=>h) (Or.inl ⟨by rfl,?_⟩) ?_
     rotate_left
     ·intro wq _
      go_simp
      try with_reducible rfl
     simp only [Act.put,sA,sB,sC]
     refine wpAnyJ_pure (i:=1) (v:=?_) rfl (by kernel_rfl) (by kernel_rfl) (by kernel_rfl) (fun _ _ _ h=>h) (Or.inl ⟨by rfl,?_⟩) ?_
     rotate_left
     ·intro wq _
      go_simp
      try with_reducible rfl
     simp only [Act.put,sA,sB,sC]
     refine wpAnyJ_pure (i:=2) (v:=?_) rfl (by kernel_rfl) (by kernel_rfl) (by kernel_rfl) (fun _ _ _ h=>h) (Or.inl ⟨by rfl,?_⟩) ?_
     rotate_left
     ·intro wq _
      go_simp
      try with_reducible rfl
     simp only [Act.put,sA,sB,sC]
     refine wpAnyJ_take (i:=3) (v:=?_) rfl (by kernel_rfl) (by kernel_rfl) (by kernel_rfl) (by kernel_rfl) (fun _ _ _ h=>h) (Or.inl ⟨by rfl,?_⟩) hHeld ?_
     rotate_left
     ·intro wq hSq
      obtain ⟨s1,s2⟩:=hSq
      go_simp
      try with_reducible rfl
     simp only [Act.put,sA,sB,sC]
     refine wpAnyJ_pure (i:=4) (v:=?_) rfl (by kernel_rfl) (by kernel_rfl) (by kernel_rfl) (fun _ _ _ h=>h) (Or.inl ⟨by rfl,?_⟩) ?_
     rotate_left
     ·intro wq _
      go_simp
      try with_reducible rfl
     simp only [Act.put,sA,sB,sC]
     refine wpAnyJ_take (i:=5) (v:=?_) rfl (by kernel_rfl) (by kernel_rfl) (by kernel_rfl) (by kernel_rfl) (fun _ _ _ h=>h) (Or.inl ⟨by rfl,?_⟩) hHeld ?_
     rotate_left
     ·intro wq hSq
      obtain ⟨s1,s2⟩:=hSq
      go_simp
      try with_reducible rfl
     simp only [Act.put,sA,sB,sC]
     refine wpAnyJ_one (i:=6) rfl (by kernel_rfl) (fun K hK=>?_)
     go_simp
     refine hK.out _ _ (fun h=>nomatch h) ?_
     clear hK K
     refine wpAnyJ_done (by kernel_rfl) ?_ _
     clear hrun
     go_wp2_with fail
     go_ret2
     exact HQ.out
/- Contract of conv.Open (layer 15). -/
abbrev evsL (l:List EvL):List EvM:=l.map (·.ev)
def OpenOut (l:List EvL) (w:World) (en:Ending) (w':World):Prop :=
 Below w.heap.size w w'∧((openC (evsL l)≠0∧en=.returned (.tuple #[.pointer none,.int .i64 (openC (evsL l))])) ∨
  (openC (evsL l)=0∧∃ p C,en=.returned (.tuple #[.pointer (some ⟨p,0,none⟩),.int .i64 0])∧CvK w' p (evsL l) C∧(∀ i,(cvOb p (evsL l) C).own i∨(cvOb p (evsL l) C).see i→w.heap.size≤i)))
theorem open_step {l:List EvL} {k:Nat} (hk:k<l.length) (h:openC (evsL l)=openGo (evsL (l.take k)) (evsL (l.drop k))) :
  (stepC (evsL (l.take k)) l[k].ev≠0→openC (evsL l)=stepC (evsL (l.take k)) l[k].ev)∧(stepC (evsL (l.take k)) l[k].ev=0→openC (evsL l)=openGo (evsL (l.take (k+1))) (evsL (l.drop (k+1)))):=by
 rw [h]
 have h1:evsL (l.drop k)=l[k].ev::evsL (l.drop (k+1)):=by rw [evsL,List.drop_eq_getElem_cons hk];rfl
 have h2:evsL (l.take (k+1))=evsL (l.take k)++[l[k].ev]:=by rw [evsL,List.take_succ_eq_append_getElem hk,List.map_append];rfl
 rw [h1,h2,openGo]
 exact ⟨fun h=>if_pos h,fun h=>if_neg (fun h'=>h' h)⟩
theorem step_len {L:List EvM} {e:EvM} (h:stepC L e=0):L.length<100000:=by
 unfold stepC at h
 by_cases h6:100000≤L.length
 ·rw [if_pos h6] at h
  repeat (first | (split at h) | omega | (cases h))
 ·omega
theorem cvOpen_any (l:List EvL) (A:Option Addr) (c:Nat) (w:World) (hr:RdL 12 EvL.cs w w.heap.size A l) (he:∀ x∈l,EvLOk w w.heap.size x) (hl:l.length≤9223372036854775807) :
  Calls Tryz.prog 12 #[.slice A l.length c] w (OpenOut l w):=by
 have HR:=hid hr
 have HE:=hid he
 clear hr he
 go_enter Tryz.func12,Tryz.ntmps12
 go_wp2_with fail
 refine (cvNew_any w).mono ?_
 rintro e w1 ⟨p,C0,rfl,hk,ho,hb⟩
 have HK:=hid hk
 have HO:=hid ho
 have HB:=hid hb
 clear hk ho hb
 go_wp2_with fail
 go_loopw [5,6,7,8,12] (fun _ _ _ _ i wr=>∃ (k:Nat) (C:CvL),k≤l.length∧i=.int .i64 k∧k≤100000∧CvK wr p (evsL (l.take k)) C∧(∀ i,(cvOb p (evsL (l.take k)) C).own i∨(cvOb p (evsL (l.take k)) C).see i→w.heap.size≤i)∧openC (evsL l)=openGo (evsL (l.take k)) (evsL (l.drop k))∧Below w.heap.size w wr) (fun _ _ _ _ i _=>l.length - (intOf i).toNat)
 case atStart=>exact ⟨0,C0,Nat.zero_le _,rfl,Nat.zero_le _,HK.out,fun i hi=>hi.elim (HO.out i) (fun ⟨x,hx,hi⟩=>by
  have h0:C0.ml.map (·.ev)=[]:=HK.out.ml
  rw [List.map_eq_nil_iff] at h0
  rw [h0] at hx
  cases hx),rfl,HB.out⟩
 case round =>
  obtain ⟨k,C,hk,rfl,hk6,hck,hof,hop,hbw⟩:=hrel
  have HCk:=hid hck
  have HOf:=hid hof
  have HOp:=hid hop
  have HBw:=hid hbw
  clear hck hof hop hbw
  by_cases hlt:k<l.length
  ·obtain ⟨b,off,rfl,hb,hcc⟩:=(HR.out.below HBw.out).at_ hlt
   have HSt:=hid (open_step hlt HOp.out)
   have HX:=hid (HE.out l[k] (List.getElem_mem hlt))
   have HTk:Hid (evsL (l.take (k+1))=evsL (l.take k)++[l[k].ev]):=hid (by rw [evsL,List.take_succ_eq_append_getElem hlt,List.map_append];rfl)
   have HLn:Hid ((evsL (l.take k)).length=k):=hid (by simp;omega)
   have HC:Hid (wr.rangeAt b (off+k * 12) l[k].cs):=hid (fun j v hj=>hcc j v hj)
   clear hcc
   generalize l[k]=x at *
   go_upto_region 5 with (first
    | ((with_reducible show wpList _ _ _ (Oper.mk _ (Op.load 40 _) _ _ _ _::_) _ _);refine wpList_load_g rfl 40 (.tmp 15) rfl b (off+k * 12) rfl (x.ev.cs x.cA x.cc x.fA x.fc).toList _ HC.out Tryz.underlying40 rfl (by kernel_rfl) ?_)
    | fail)
   change Code.wp _ _ _ _ (wr.alloc (.cells (x.ev.cs x.cA x.cc x.fA x.fc) 40))
   have hb0:Below w.heap.size w (wr.alloc (.cells (x.ev.cs x.cA x.cc x.fA x.fc) 40)):=HBw.out.alloc HBw.out.size _
   have hb1:Below wr.heap.size wr (wr.alloc (.cells (x.ev.cs x.cA x.cc x.fA x.fc) 40)):=(Below.refl _ _).alloc (Nat.le_refl _) _
   have hr3:(wr.alloc (.cells (x.ev.cs x.cA x.cc x.fA x.fc) 40)).rangeAt wr.heap.size 0 (x.ev.cs x.cA x.cc x.fA x.fc).toList:=range_block (MapKept.heap_alloc wr _).1 rfl
   have HB0:=hid hb0
   have HR3:=hid hr3
   have HCv:=hid (HCk.out.below hb1)
   have HXv:=hid (HX.out.now hb0)
   have HB1:=hid hb1
   clear hb0 hr3 hb1
   generalize wr.alloc (.cells (x.ev.cs x.cA x.cc x.fA x.fc) 40)=wv at *
   go_wp2_with (first
    | ((with_reducible show wpList _ _ _ (Oper.mk _ (Op.load 40 _) _ _ _ _::_) _ _);refine wpList_load_g rfl 40 (.tmp 6) rfl wr.heap.size 0 rfl (x.ev.cs x.cA x.cc x.fA x.fc).toList _ HR3.out Tryz.underlying40 rfl (by kernel_rfl) ?_)
    | fail)
   refine (cvAdd_any p (evsL (l.take k)) C x wv HCv.out HXv.out (by rw [HLn.out];exact hk6)).mono ?_
   rintro e w4 ⟨id,code,rfl,ha,hbad⟩
   by_cases hs:stepC (evsL (l.take k)) x.ev=0
   ·obtain ⟨rfl,rfl,C',hu⟩:=ha hs
    have HU:=hid hu
    have HS:=hid hs
    rw [HLn.out]
    clear ha hbad hu hs
    have HZ:Hid (∃ (k':Nat) (C:CvL),k'≤l.length∧(Value.int .i64 ((k:Int)+1))=.int .i64 k'∧k'≤100000∧CvK w4 p (evsL (l.take k')) C∧(∀ i,(cvOb p (evsL (l.take k')) C).own i∨(cvOb p (evsL (l.take k')) C).see i→w.heap.size≤i)∧openC (evsL l)=openGo (evsL (l.take k')) (evsL (l.drop k'))∧Below w.heap.size w w4):=hid (by
     have h1:=HU.out
     have h2:=step_len HS.out
     rw [HLn.out] at h2
     have hz:=HB0.out.size
     refine ⟨k+1,C',by omega,by simp,by omega,?_,?_,HSt.out.2 HS.out,?_⟩
     ·rw [HTk.out];exact h1.ok
     ·rw [HTk.out]
      intro i hi
      rcases hi with hi | hi
      ·rcases h1.own i hi with h | h
       ·exact HOf.out i (.inl h)
       ·omega
      ·rcases h1.see i hi with h | h
       ·exact HOf.out i (.inr h)
       ·omega
     ·exact HB0.out.trans (h1.turn.to_below hz (fun i hi=>HOf.out i (.inl hi))))
    go_wp2_with fail
    go_roundw
    case rel=>exact HZ.out
    case measure=>simp [intOf];omega
   ·obtain ⟨hc,hb4⟩:=hbad hs
    have HQ:=hid (HSt.out.1 hs)
    have HN:=hid hs
    have HB4:=hid (HB0.out.trans (hb4.mono HB0.out.size))
    clear ha hbad hb4 hs
    rcases hc with ⟨hc,rfl⟩ | ⟨h5,rfl,hidx⟩
    ·have q:((stepC (evsL (l.take k)) x.ev) != 0)=true:=by simpa using hc
     generalize stepC (evsL (l.take k)) x.ev=sc at *
     go_wp2_with fail
     go_ret2
     exact ⟨HB4.out,.inl ⟨fun h=>HN.out (HQ.out.symm.trans h),by rw [HQ.out];rfl⟩⟩
    ·rw [HLn.out] at hidx
     have q:(id != (k:Int))=true:=by simp;omega
     have HQ5:=hid (HQ.out.trans h5)
     clear h5
     go_wp2_with fail
     go_ret2
     exact ⟨HB4.out,.inl ⟨by rw [HQ5.out];decide,by rw [HQ5.out];rfl⟩⟩
  ·obtain rfl:k=l.length:=by omega
   go_wp2_with fail
   go_ret2
   refine ⟨HBw.out,.inr ⟨?_,p,C,rfl,?_,?_⟩⟩
   ·have:=HOp.out
    rw [this,List.drop_length]
    rfl
   ·have:=HCk.out
    rw [List.take_length] at this
    exact this
   ·have:=HOf.out
    rw [List.take_length] at this
    exact this
/- Lists of elements with lists of their own,which are built one by one. -/
def okEv (w:World) (x:EvL):Prop:=EvLOk w w.heap.size x∧∀ i,x.at_ i→i<w.heap.size
theorem okEv.frame {w w':World} {x:EvL} (h:okEv w x) (hb:∀ i,x.at_ i→w'.heap[i]?=w.heap[i]?) (hs:w.heap.size≤w'.heap.size):okEv w' x :=
 ⟨h.1.turn (fun i hi _=>hb i hi) hs,fun i hi=>Nat.lt_of_lt_of_le (h.2 i hi) hs⟩
structure ElOk {T:Type} (ok:World→T→Prop) (see:T→Nat→Prop):Prop where
 frame:∀ w w' x,ok w x→(∀ i,see x i→w'.heap[i]?=w.heap[i]?)→w.heap.size≤w'.heap.size→ok w' x
 lt:∀ w x i,ok w x→see x i→i<w.heap.size
theorem elEv:ElOk okEv EvL.at_:=⟨fun _ _ _ h hb hs=>h.frame hb hs,fun _ _ i h hi=>h.2 i hi⟩
structure RInv {T:Type} (lo:Nat) (w:World) (e:TypeId) (sz:Nat) (enc:T→List Value) (ok:World→T→Prop) (see:T→Nat→Prop) (A:Option Addr) (c:Nat) (out:List T):Prop where
 own:OwnL w lo e sz enc A c out
 el:∀ x∈out,ok w x∧∀ i,see x i→lo≤i∧slBlk A≠some i
section
variable {T:Type} {lo:Nat} {w w' w6:World} {e:TypeId} {sz:Nat} {enc:T→List Value} {ok:World→T→Prop} {see:T→Nat→Prop} {A A2:Option Addr} {c c2:Nat} {out:List T} {x:T}
theorem RInv.nil_:RInv lo w e sz enc ok see none 0 ([]:List T):=⟨OwnL.nil_,fun x hx=>(nomatch hx)⟩
theorem RInv.turn (E:ElOk ok see) {F:Nat→Prop} (h:RInv lo w e sz enc ok see A c out) (t:Turn F w w') (hF:∀ i,F i→i<lo):RInv lo w' e sz enc ok see A c out :=
 ⟨h.own.turn (fun i hi hl=>t.block i hl (fun hf=>by have:=hF i hf;have:=(h.own.blk_lt hi).1;omega)),
  fun x hx=>⟨E.frame _ _ x (h.el x hx).1 (fun i hi=>t.block i (E.lt _ x i (h.el x hx).1 hi) (fun hf=>by have:=hF i hf;have:=((h.el x hx).2 i hi).1;omega)) t.size,(h.el x hx).2⟩⟩
theorem RInv.push (E:ElOk ok see) (h:RInv lo w e sz enc ok see A c out) (hx:ok w x) (hs:∀ i,see x i→lo≤i∧slBlk A≠some i) (o:Obj)
  (hown:OwnL w6 lo e sz enc A2 c2 (out++[x])) (hg:(w.alloc o).grownBy w6 (slBlk A)) (hat:slBlk A2=slBlk A∨slBlk A2=some (w.alloc o).heap.size):RInv lo w6 e sz enc ok see A2 c2 (out++[x]):=by
 have hsz:(w.alloc o).heap.size=w.heap.size+1:=by simp
 have key:∀ y,ok w y→(∀ i,see y i→lo≤i∧slBlk A≠some i)→ok w6 y∧∀ i,see y i→lo≤i∧slBlk A2≠some i:=by
  intro y hy hsy
  refine ⟨E.frame _ _ y hy (fun i hi=>?_) (by have:=hg.size;omega),fun i hi=>⟨(hsy i hi).1,fun he=>?_⟩⟩
  ·have hl:=E.lt _ y i hy hi
   rw [hg.block i (by omega) (fun he=>(hsy i hi).2 he.symm)]
   exact Below.heap_alloc w o i hl
  ·rcases hat with h1 | h1
   ·exact (hsy i hi).2 (h1 ▸ he)
   ·have hl:=E.lt _ y i hy hi
    rw [he] at h1
    have:=Option.some.inj h1
    omega
 refine ⟨hown,fun y hy=>?_⟩
 rcases List.mem_append.1 hy with hy | hy
 ·exact key y (h.el y hy).1 (h.el y hy).2
 ·obtain rfl:y=x:=by simpa using hy
  exact key y hx hs
end
/- Contract of (*conv.Conv).All (layer 15). -/
def AllOut (L:List EvM) (w:World) (e:Ending) (w':World):Prop :=
 ∃ A c xs,e=.returned (.slice A xs.length c)∧evsL xs=L∧RInv w.heap.size w' 40 12 EvL.cs okEv EvL.at_ A c xs∧Below w.heap.size w w'
theorem cvAll_any (p:Nat) (L:List EvM) (C:CvL) (w:World) (h:CvK w p L C) (hl:L.length≤1000000) :
  Calls Tryz.prog 21 #[.pointer (some ⟨p,0,none⟩)] w (AllOut L w):=by
 have z0:=h.c0
 have HLl:Hid (C.ml.length≤1000000):=hid (by rw [h.len];exact hl)
 have H:=hid h
 clear h hl
 go_enter Tryz.func21,Tryz.ntmps21
 go_wp2_with fail
 clear z0
 go_loopw [3,5,11] (fun o _ i wr=>∃ (k:Nat) (A:Option Addr) (c:Nat) (xs:List EvL),k≤C.ml.length∧i=.int .i64 k∧o=.slice A xs.length c∧evsL xs=evsL (C.ml.take k)∧RInv w.heap.size wr 40 12 EvL.cs okEv EvL.at_ A c xs∧Below w.heap.size w wr) (fun _ _ i _=>C.ml.length - (intOf i).toNat)
 case atStart=>exact ⟨0,none,0,[],Nat.zero_le _,rfl,rfl,rfl,RInv.nil_,Below.refl _ _⟩
 case round =>
  obtain ⟨k,A,c,xs,hk,rfl,rfl,hev,hinv,hbw⟩:=hrel
  have HEv:=hid hev
  have HI:=hid hinv
  have HB:=hid hbw
  have HXl:Hid (xs.length=k):=hid (by
   have:=congrArg List.length hev
   simpa [Nat.min_eq_left hk] using this)
  clear hev hinv hbw
  have hk6:=HLl.out
  by_cases hlt:k<C.ml.length
  ·have HK:=hid (H.out.below HB.out)
   obtain ⟨b,off,hA,hb,hcc⟩:=(HK.out.evl.rd layEvL).at_ hlt
   have HX:=hid (HK.out.evs _ (List.getElem_mem hlt))
   have HR:=hid (HK.out.evr _ (List.getElem_mem hlt))
   have HTk:Hid (evsL (C.ml.take (k+1))=evsL (C.ml.take k)++[C.ml[k].ev]):=hid (by rw [evsL,List.take_succ_eq_append_getElem hlt,List.map_append];rfl)
   have HC:Hid (wr.rangeAt b (off+k * 12) C.ml[k].cs):=hid (fun j v hj=>hcc j v hj)
   clear hcc
   rw [hA] at *
   clear hA
   generalize hx:C.ml[k]=x at *
   clear hx
   go_upto_region 5 with (first
    | ((with_reducible show wpList _ _ _ (Oper.mk _ (Op.load 40 _) _ _ _ _::_) _ _);refine wpList_load_g rfl 40 (.tmp 13) rfl b (off+k * 12) rfl (x.ev.cs x.cA x.cc x.fA x.fc).toList _ HC.out Tryz.underlying40 rfl (by kernel_rfl) ?_)
    | fail)
   change Code.wp _ _ _ _ (wr.alloc (.cells (x.ev.cs x.cA x.cc x.fA x.fc) 40))
   have hb1:Below wr.heap.size wr (wr.alloc (.cells (x.ev.cs x.cA x.cc x.fA x.fc) 40)):=(Below.refl _ _).alloc (Nat.le_refl _) _
   have hr3:(wr.alloc (.cells (x.ev.cs x.cA x.cc x.fA x.fc) 40)).rangeAt wr.heap.size 0 (x.ev.cs x.cA x.cc x.fA x.fc).toList:=range_block (MapKept.heap_alloc wr _).1 rfl
   have HB1:=hid hb1
   have HR3:=hid hr3
   have HXv:=hid (HX.out.now hb1)
   clear hb1 hr3
   generalize wr.alloc (.cells (x.ev.cs x.cA x.cc x.fA x.fc) 40)=wv at *
   go_wp2_with (first
    | ((with_reducible show wpList _ _ _ (Oper.mk _ (Op.load 40 _) _ _ _ _::_) _ _);refine wpList_load_g rfl 40 (.tmp 5) rfl wr.heap.size 0 rfl (x.ev.cs x.cA x.cc x.fA x.fc).toList _ HR3.out Tryz.underlying40 rfl (by kernel_rfl) ?_)
    | fail)
   refine (cvClone_any x wv HXv.out (by have:=HR.out.1;omega) (by have:=HR.out.2;omega)).mono ?_
   rintro en w4 ⟨y,rfl,hy,hyo,hya,hb4⟩
   have hI4:=HI.out.turn elEv (Turn.below (F:=fun _=>False) ((HB1.out.trans (hb4.mono HB1.out.size)))) (fun _ hf=>hf.elim)
   have hB4:Below w.heap.size w w4:=HB.out.trans ((HB1.out.trans (hb4.mono HB1.out.size)).mono HB.out.size)
   have H4:=hid hI4
   have HBw:=hid hB4
   have HOk:Hid (okEv w4 y):=hid ⟨hyo,fun i hi=>(hya i hi).2⟩
   have HFr:Hid (∀ i,EvL.at_ y i→w.heap.size≤i∧slBlk A≠some i):=hid (fun i hi=>⟨Nat.le_trans (Nat.le_trans HB.out.size HB1.out.size) (hya i hi).1,fun he=>by
    have h1:=(HI.out.own.blk_lt he).2
    have h2:=(hya i hi).1
    have h3:=HB1.out.size
    omega⟩)
   have HYe:Hid (y.ev=x.ev):=hid hy
   have HBt:Hid ((xs.length+1) * 136≤140737488355328):=hid (by have:=HLl.out;have:=HXl.out;omega)
   clear hI4 hB4 hy hyo hya hb4
   go_wp2_with (at_builtin;refine wp_append_l rfl (.tmp 15) (.tmp 18) rfl slEvents layEvL w.heap.size (xs:=xs) (ys:=[y]) rfl rfl (H4.out.own.alloc _) rfl rfl (RdL.one w4 y _ _ rfl _ rfl) (by have:=HBt.out;simp;omega) (by have:=HBw.out.size;simp;omega) ?_;intro A2 c2 w6 hown hg hb2 hat;have HP:=hid (H4.out.push elEv HOk.out HFr.out _ hown (by simpa only [own_blk] using hg) (by simpa only [own_blk] using hat));have HB6:=hid (((Below.refl w.heap.size w4).alloc HBw.out.size _).trans hb2);clear hown hg hb2 hat)
   go_roundw
   case rel =>
    refine ⟨k+1,A2,c2,xs++[y],by omega,by simp,by simp,?_,HP.out,HBw.out.trans HB6.out⟩
    rw [HTk.out,← HEv.out,evsL,List.map_append,List.map_singleton,HYe.out]
   case measure=>simp [intOf];omega
  ·have hke:k=C.ml.length:=by omega
   have d1:decide (k<C.ml.length)=false:=decide_eq_false (by omega)
   have HKe:=hid hke
   clear hke hlt
   go_wp2_with fail
   go_ret
   refine ⟨A,c,xs,rfl,?_,HI.out,HB.out⟩
   rw [HEv.out,HKe.out,List.take_length]
   exact H.out.ml
/- Contract of linguaref15.Same. -/
def SameOut (xs ys:List EvL) (w:World) (e:Ending) (w':World):Prop:=∃ v:Bool,e=.returned (.bool v)∧(v=true ↔ evsL xs=evsL ys)∧Below w.heap.size w w'
theorem same_len {xs ys:List EvL} (h:¬ xs.length=ys.length):¬ evsL xs=evsL ys:=fun he=>h (by have:=congrArg List.length he;simpa using this)
theorem same_at {xs ys:List EvL} {k:Nat} (h1:k<xs.length) (h2:k<ys.length) (h:sameE xs[k].ev ys[k].ev=false):¬ evsL xs=evsL ys:=fun he=>by
 have h3:(evsL xs)[k]?=(evsL ys)[k]?:=by rw [he]
 rw [evsL,evsL,List.getElem?_map,List.getElem?_map,List.getElem?_eq_getElem h1,List.getElem?_eq_getElem h2] at h3
 have h4:xs[k].ev=ys[k].ev:=by simpa using h3
 rw [(sameE_iff _ _).2 h4] at h
 cases h
theorem same_take {xs ys:List EvL} {k:Nat} (h1:k<xs.length) (h2:k<ys.length) (h:evsL (xs.take k)=evsL (ys.take k)) (he:sameE xs[k].ev ys[k].ev=true):evsL (xs.take (k+1))=evsL (ys.take (k+1)):=by
 rw [List.take_succ_eq_append_getElem h1,List.take_succ_eq_append_getElem h2]
 unfold evsL at h ⊢
 rw [List.map_append,List.map_append,h,List.map_singleton,List.map_singleton,(sameE_iff _ _).1 he]
theorem rSameL_any (xs ys:List EvL) (A B:Option Addr) (c d:Nat) (w:World) (hx:RdL 12 EvL.cs w w.heap.size A xs) (hy:RdL 12 EvL.cs w w.heap.size B ys) (ex:∀ x∈xs,EvLOk w w.heap.size x) (ey:∀ x∈ys,EvLOk w w.heap.size x)
  (hl:xs.length≤9223372036854775807) (hm:ys.length≤9223372036854775807) :
  Calls Tryz.prog 20 #[.slice A xs.length c,.slice B ys.length d] w (SameOut xs ys w):=by
 have HX:=hid hx
 have HY:=hid hy
 have EX:=hid ex
 have EY:=hid ey
 clear hx hy ex ey
 go_enter Tryz.func20,Tryz.ntmps20
 by_cases hlen:xs.length=ys.length
 ·have HLn:=hid hlen
  have q:((xs.length:Int) != (ys.length:Int))=false:=by simp [hlen]
  have hm2:xs.length≤ys.length:=by omega
  clear hlen
  go_wp2_with fail
  go_loopw [5] (fun i wr=>∃ k:Nat,k≤xs.length∧i=.int .i64 k∧evsL (xs.take k)=evsL (ys.take k)∧Below w.heap.size w wr) (fun i _=>xs.length - (intOf i).toNat)
  case atStart=>exact ⟨0,Nat.zero_le _,rfl,by simp,Below.refl _ _⟩
  case round =>
   obtain ⟨k,hk,rfl,ha,hbw⟩:=hrel
   have HA:=hid ha
   have HBw:=hid hbw
   clear ha hbw
   by_cases hlt:k<xs.length
   ·have hlt2:k<ys.length:=by omega
    obtain ⟨b,off,rfl,hb,hcc⟩:=(HX.out.below HBw.out).at_ hlt
    obtain ⟨b2,off2,rfl,hb2,hcc2⟩:=(HY.out.below HBw.out).at_ hlt2
    have R1:=hid (fun wq (hq:Below wr.heap.size wr wq)=>show wq.rangeAt b (off+k * 12) (xs[k].ev.cs xs[k].cA xs[k].cc xs[k].fA xs[k].fc).toList from by
     obtain ⟨b',off',he,_,hcc⟩:=(HX.out.below (HBw.out.trans (hq.mono HBw.out.size))).at_ hlt
     obtain ⟨rfl,rfl⟩:b=b'∧off=off':=by simpa using he
     exact fun j v hj=>hcc j v hj)
    have R2:=hid (fun wq (hq:Below wr.heap.size wr wq)=>show wq.rangeAt b2 (off2+k * 12) (ys[k].ev.cs ys[k].cA ys[k].cc ys[k].fA ys[k].fc).toList from by
     obtain ⟨b',off',he,_,hcc⟩:=(HY.out.below (HBw.out.trans (hq.mono HBw.out.size))).at_ hlt2
     obtain ⟨rfl,rfl⟩:b2=b'∧off2=off':=by simpa using he
     exact fun j v hj=>hcc j v hj)
    have HT:=hid (fun h=>same_take hlt hlt2 HA.out h)
    have HN:=hid (fun h=>same_at hlt hlt2 h)
    have HO1:=hid ((EX.out xs[k] (List.getElem_mem hlt)).now HBw.out)
    have HO2:=hid ((EY.out ys[k] (List.getElem_mem hlt2)).now HBw.out)
    clear hcc hcc2 hb hb2
    generalize xs[k]=x at *
    generalize ys[k]=y at *
    have HU:=hid Tryz.underlying40
    have HI:Hid ((Tryz.prog.info? 40).map (·.size)=some 12):=hid (by kernel_rfl)
    go_upto_region 6 with fail
    have hu:=HU.out
    have hi:=HI.out
    refine wp_region_held_drew (S:=fun wq=>Below wr.heap.size wr wq) (by kernel_rfl) (Below.drew (Below.refl _ _)) (fun hHeld=>?_)
    refine wpAnyH_take (i:=0) (v:=(Value.slice (some ⟨b,off,none⟩) xs.length c)) rfl (by kernel_rfl) (by kernel_rfl) (by kernel_rfl) (fun _ _ _ h=>h) (Or.inl ⟨by rfl,(fun wq hSw=>(by go_simp))⟩) (by assumption) ?_
    refine wpAnyH_take (i:=1) (v:=(Value.int .i64 k)) rfl (by kernel_rfl) (by kernel_rfl) (by kernel_rfl) (fun _ _ _ h=>h) (Or.inl ⟨by rfl,(fun wq hSw=>(by go_simp))⟩) (by assumption) ?_
    refine wpAnyH_take (i:=2) (v:=(Value.pointer (some ⟨b,off+k * 12,none⟩))) rfl (by kernel_rfl) (by kernel_rfl) (by kernel_rfl) (fun _ _ _ h=>h) (Or.inl ⟨by rfl,(fun wq hSw=>(by go_simp))⟩) (by assumption) ?_
    refine' wpAnyH_take (i:=3) rfl (by kernel_rfl) (by kernel_rfl) (by kernel_rfl) (fun _ _ _ h=>h) (yieldsIf_load_mid (by rfl) _ _ rfl _ _ rfl _ _ R1.out hu rfl hi) (by assumption) ?_
    simp only [Act.put,sA,sB,sC,sD,sE,sF]
    refine wpAnyH_take (i:=4) (v:=(Value.slice (some ⟨b2,off2,none⟩) ys.length d)) rfl (by kernel_rfl) (by kernel_rfl) (by kernel_rfl) (fun _ _ _ h=>h) (Or.inl ⟨by rfl,(fun wq hSw=>(by go_simp))⟩) (by assumption) ?_
    refine wpAnyH_take (i:=5) (v:=(Value.int .i64 k)) rfl (by kernel_rfl) (by kernel_rfl) (by kernel_rfl) (fun _ _ _ h=>h) (Or.inl ⟨by rfl,(fun wq hSw=>(by go_simp))⟩) (by assumption) ?_
    refine wpAnyH_take (i:=6) (v:=(Value.pointer (some ⟨b2,off2+k * 12,none⟩))) rfl (by kernel_rfl) (by kernel_rfl) (by kernel_rfl) (fun _ _ _ h=>h) (Or.inl ⟨by rfl,(fun wq hSw=>(by go_simp))⟩) (by assumption) ?_
    refine' wpAnyH_take (i:=7) rfl (by kernel_rfl) (by kernel_rfl) (by kernel_rfl) (fun _ _ _ h=>h) (yieldsIf_load_mid (by rfl) _ _ rfl _ _ rfl _ _ R2.out hu rfl hi) (by assumption) ?_
    simp only [Act.put,sA,sB,sC,sD,sE,sF]
    clear hu hi
    refine wpAnyH_ready (rs:=[8]) (by kernel_rfl) (by simp) ?_
    refine AllReadyH.cons rfl (fun K hK=>?_) AllReadyH.nil
    go_simp
    refine (rSameE_any x.ev y.ev x.cA x.cc x.fA x.fc y.cA y.cc y.fA y.fc _ (HO1.out.now hHeld).ok (HO2.out.now hHeld).ok).mono ?_
    rintro en w3 ⟨rfl,hb3⟩
    have hs1:=hHeld.trans (hb3.mono hHeld.size)
    clear hb3
    go_wp2_with fail
    refine hK.out _ _ hs1 ?_
    clear hK K hHeld hs1
    intro hHeld
    generalize hq:sameE x.ev y.ev=q2
    have HQ:=hid hq
    clear hq
    refine wpAnyH_ready (rs:=[9]) (by kernel_rfl) (by simp) ?_
    refine AllReadyH.cons rfl (fun K hK=>?_) AllReadyH.nil
    go_simp
    refine hK.out _ _ hHeld ?_
    clear hK K
    intro _
    refine wpAnyH_done (by kernel_rfl) ?_ _
    have HF:=hid (HBw.out.trans (hHeld.mono HBw.out.size))
    clear hHeld
    cases q2 with
    | false =>
     have HG:=hid (HN.out HQ.out)
     go_wp2_with fail
     go_ret
     exact ⟨false,rfl,⟨(fun h=>nomatch h),fun h=>absurd h HG.out⟩,HF.out⟩
    | true =>
     have HG:=hid (HT.out HQ.out)
     go_wp2_with fail
     go_roundw
     case rel=>exact ⟨k+1,by omega,by go_num,HG.out,HF.out⟩
     case measure=>simp [intOf];omega
   ·obtain rfl:k=xs.length:=by omega
    have HF:Hid (evsL xs=evsL ys):=hid (by
     have h1:=HA.out
     rw [List.take_length,HLn.out,List.take_length] at h1
     exact h1)
    go_wp2_with fail
    go_ret
    exact ⟨true,rfl,⟨fun _=>HF.out,fun _=>rfl⟩,HBw.out⟩
 ·have HN:=hid (same_len hlen)
  have q:((xs.length:Int) != (ys.length:Int))=true:=by simp;omega
  clear hlen
  go_wp2_with fail
  go_ret
  exact ⟨false,rfl,⟨(fun h=>nomatch h),fun h=>absurd h HN.out⟩,Below.refl _ _⟩
/- Contracts of linguaref14.Few,FewAll. -/
def fewE (e:EvM):Bool:=decide ((e.causes.length:Int)≤10) && (decide ((e.files.length:Int)≤10) && decide ((e.text.size:Int)≤300))
theorem rFewE_any (e:EvM) (cA:Option Addr) (cc:Nat) (fA:Option Addr) (fc:Nat) (w:World):Calls Tryz.prog 35 #[e.v cA cc fA fc] w fun en w'=>en=.returned (.bool (fewE e))∧Below w.heap.size w w':=by
 have HG:Hid (fewE e=(decide ((e.causes.length:Int)≤10) && (decide ((e.files.length:Int)≤10) && decide ((e.text.size:Int)≤300)))):=hid rfl
 have HB:=hid ((Below.refl w.heap.size w).alloc (Nat.le_refl _) (.cells (e.cs cA cc fA fc) 40))
 go_enter Tryz.func35,Tryz.ntmps35
 cases a0:decide ((e.causes.length:Int)≤10) with
 | false =>
  go_wp2_with fail
  go_ret
  exact ⟨ret_bool (by rw [HG.out];simp [a0]),HB.out⟩
 | true =>
  cases a1:decide ((e.files.length:Int)≤10) with
  | false =>
   go_wp2_with fail
   go_ret
   exact ⟨ret_bool (by rw [HG.out];simp [a0,a1]),HB.out⟩
  | true =>
   cases a2:decide ((e.text.size:Int)≤300) with
   | false =>
    go_wp2_with fail
    go_ret
    exact ⟨ret_bool (by rw [HG.out];simp [a0,a1,a2]),HB.out⟩
   | true =>
    go_wp2_with fail
    go_ret
    exact ⟨ret_bool (by rw [HG.out];simp [a0,a1,a2]),HB.out⟩
def fewAllB (l:List EvL) (n:Int):Bool:=decide ((l.length:Int)≤n) && l.all (fun x=>fewE x.ev)
theorem fewAll_no {l:List EvL} {n:Int} {k:Nat} (hk:k<l.length) (h:fewE l[k].ev=false):fewAllB l n=false:=by
 unfold fewAllB
 rw [List.all_eq_false.2 ⟨l[k],List.getElem_mem hk,by rw [h];simp⟩,Bool.and_false]
theorem rFewAll_any (l:List EvL) (n:Int) (A:Option Addr) (c:Nat) (w:World) (hr:RdL 12 EvL.cs w w.heap.size A l) (hl:l.length≤9223372036854775807) :
  Calls Tryz.prog 10 #[.slice A l.length c,.int .i64 n] w fun en w'=>en=.returned (.bool (fewAllB l n))∧Below w.heap.size w w':=by
 have HR:=hid hr
 clear hr
 go_enter Tryz.func10,Tryz.ntmps10
 go_wp2_with fail
 go_loopw [5] (fun i wr=>∃ k:Nat,k≤l.length∧i=.int .i64 k∧(l.take k).all (fun x=>fewE x.ev)=true∧Below w.heap.size w wr) (fun i _=>l.length - (intOf i).toNat)
 case atStart=>exact ⟨0,Nat.zero_le _,rfl,by simp,Below.refl _ _⟩
 case round =>
  obtain ⟨k,hk,rfl,ha,hbw⟩:=hrel
  have HA:=hid ha
  have HBw:=hid hbw
  clear ha hbw
  by_cases hlt:k<l.length
  ·obtain ⟨b,off,rfl,hb,hcc⟩:=(HR.out.below HBw.out).at_ hlt
   have HC:Hid (wr.rangeAt b (off+k * 12) l[k].cs):=hid (fun j v hj=>hcc j v hj)
   have HT:=hid (all_take (fun x:EvL=>fewE x.ev) l k hlt HA.out)
   have HN:=hid (fun (h:fewE l[k].ev=false)=>fewAll_no (n:=n) hlt h)
   clear hcc
   generalize l[k]=x at *
   cases g:decide ((k:Int)≤n) with
   | false =>
    have HF:Hid (decide ((l.length:Int)≤n)=fewAllB l n):=hid (by
     have h1:decide ((l.length:Int)≤n)=false:=by simp at g ⊢;omega
     unfold fewAllB;rw [h1];rfl)
    go_wp2_with fail
    go_ret
    exact ⟨ret_bool HF.out,HBw.out⟩
   | true =>
    go_wp2_with (first
     | ((with_reducible show wpList _ _ _ (Oper.mk _ (Op.load 40 _) _ _ _ _::_) _ _);refine wpList_load_g rfl 40 (.tmp 19) rfl b (off+k * 12) rfl (x.ev.cs x.cA x.cc x.fA x.fc).toList _ HC.out Tryz.underlying40 rfl (by kernel_rfl) ?_)
     | fail)
    refine (rFewE_any x.ev x.cA x.cc x.fA x.fc _).mono ?_
    rintro e w1 ⟨rfl,hb1⟩
    have HB1:=hid (HBw.out.trans (hb1.mono HBw.out.size))
    clear hb1
    cases q:fewE x.ev with
    | false =>
     have HQ:=hid (HN.out q)
     clear q
     go_wp2_with fail
     go_ret
     exact ⟨by rw [HQ.out];rfl,HB1.out⟩
    | true =>
     have HQ:=hid (HT.out q)
     clear q
     go_wp2_with fail
     go_roundw
     case rel=>exact ⟨k+1,by omega,by go_num,HQ.out,HB1.out⟩
     case measure=>simp [intOf];omega
  ·obtain rfl:k=l.length:=by omega
   have HF:Hid (decide ((l.length:Int)≤n)=fewAllB l n):=hid (by
    have h1:=HA.out
    rw [List.take_length] at h1
    unfold fewAllB;rw [h1,Bool.and_true])
   go_wp2_with fail
   go_ret
   exact ⟨ret_bool HF.out,HBw.out⟩
end Go.Proofs.YtlnnjdibkbabiaaGreatDoor
