/- Contracts and plain laws, joined: TlNames. -/
import Derived.Test.YtlnnjdibkbabiaaGreatDoorQbr
import Derived.Test.YtlnnjdibkbabiaaGreatDoorQbl
/- The walk of TripNames (layer 24). -/
set_option linter.unusedSimpArgs false
set_option linter.unusedVariables false
namespace Go.Proofs.YtlnnjdibkbabiaaGreatDoor
open _root_.Go.Lib (hid)
open Go.RowKit
set_option maxRecDepth 100000
theorem trip_none {p:Prof} {E:List EvM} (h:(tripP p E).1≠0):(tripP p E).2=([],[]):=by
 unfold tripP at h ⊢
 split
 ·rfl
 split
 ·rfl
 split
 ·rfl
 split
 ·rfl
 ·rename_i h1 h2 h3 h4
  rw [if_neg h1,if_neg h2,if_neg h3,if_neg h4] at h
  exact absurd rfl h
set_option maxHeartbeats 8000000 in
theorem tripNames_i {B:Nat} (p:Prof) (pA:Option Addr) (pc:Nat) (E:List EvL) (A:Option Addr) (c:Nat) (w:World) (hV:Vs B w) (hp:ProfOk w w.heap.size pA p) (hpc:p.types.length≤pc) (hr:RdL 12 EvL.cs w w.heap.size A E) (he:∀ x∈E,EvLOk w w.heap.size x) (hl:E.length≤9223372036854775807) :
  Calls Tryz.prog 5 #[p.v pA pc,.slice A E.length c] w fun e w'=>e=.returned (.bool true)∧Below w.heap.size w w':=by
 have hb1:Below w.heap.size w (w.alloc (.cells (p.cs pA pc) 24)):=(Below.refl _ _).alloc (Nat.le_refl _) _
 have HRg:Hid (∀ wq,Below (w.alloc (.cells (p.cs pA pc) 24)).heap.size (w.alloc (.cells (p.cs pA pc) 24)) wq→wq.rangeAt w.heap.size 0 (p.cs pA pc).toList):=hid (fun wq hq=>boxRange w (p.cs pA pc) 24 hq)
 have HV:=hid (fun wq (hq:Below w.heap.size w wq)=>hV.now hq)
 have HP:=hid (fun wq (hq:Below w.heap.size w wq)=>hp.now hq)
 have HR:=hid (fun wq (hq:Below w.heap.size w wq)=>hr.now hq)
 have HE:=hid (fun wq (hq:Below w.heap.size w wq)=>fun x hx=>(he x hx).now hq)
 have HB:=hid hb1
 clear hb1 hV hp hr he
 go_enter Tryz.func5,Tryz.ntmps5
 go_upto_region 1 with fail
 change Code.wp _ _ _ _ (w.alloc (.cells (p.cs pA pc) 24))
 obtain ⟨b,hb⟩:∃ y,y=w.heap.size:=⟨_,rfl⟩
 rw [← hb] at HRg ⊢
 have HBq:=hid hb
 clear hb
 generalize w.alloc (.cells (p.cs pA pc) 24)=w0 at *
 go_wp2_with fail
 refine (lSmall24_any w0 (HV.out w0 HB.out)).mono ?_
 rintro e1 w1 ⟨rfl,hb1⟩
 have HB1:=hid (HB.out.trans (hb1.mono HB.out.size))
 have HG1:=hid (fun wq (hq:Below w1.heap.size w1 wq)=>HRg.out wq (hb1.trans (hq.mono hb1.size)))
 clear hb1 HB HRg
 go_wp2_with (first
  | ((with_reducible show wpList _ _ _ (Oper.mk _ (Op.load 24 _) _ _ _ _::_) _ _);refine wpList_load_g (by rfl) 24 _ rfl b 0 rfl (p.cs pA pc).toList _ (HG1.out w1 (Below.refl _ _)) Tryz.underlying24 rfl (by kernel_rfl) ?_)
  | fail)
 refine (few_anyV p pA pc w1 (HP.out w1 HB1.out)).mono ?_
 rintro e2 w2 ⟨⟨q,rfl,_⟩,hb2⟩
 have HB2:=hid (HB1.out.trans (hb2.mono HB1.out.size))
 have HG2:=hid (fun wq (hq:Below w2.heap.size w2 wq)=>HG1.out wq (hb2.trans (hq.mono hb2.size)))
 clear hb2 HB1 HG1
 cases q
 ·go_wp2_with fail
  go_ret
  exact ⟨rfl,HB2.out⟩
 go_wp2_with fail
 refine (rFew16_any E A c w2 (HR.out w2 HB2.out) hl).mono ?_
 rintro e3 w3 ⟨rfl,rfl⟩
 cases hf:few16B (evsL E) 20
 ·go_wp2_with fail
  go_ret
  exact ⟨rfl,HB2.out⟩
 have HF:=hid hf
 have hl20:E.length≤20:=by simpa using (few16_len hf)
 clear hf
 go_wp2_with (first
  | ((with_reducible show wpList _ _ _ (Oper.mk _ (Op.load 24 _) _ _ _ _::_) _ _);refine wpList_load_g (by rfl) 24 _ rfl b 0 rfl (p.cs pA pc).toList _ (HG2.out w2 (Below.refl _ _)) Tryz.underlying24 rfl (by kernel_rfl) ?_)
  | fail)
 refine (pCheck_any p pA pc w2 (HP.out w2 HB2.out) hpc).mono ?_
 rintro e4 w4 ⟨rfl,hb4⟩
 have HBw:=hid (HB2.out.trans (hb4.mono HB2.out.size))
 have HG4:=hid (fun wq (hq:Below w4.heap.size w4 wq)=>HG2.out wq (hb4.trans (hq.mono hb4.size)))
 clear hb4 HB2 HG2
 by_cases hck:profCheck p=0
 rotate_left
 ·have hc2:(profCheck p != 0)=true:=by simp [hck]
  clear hck
  go_wp2_with fail
  go_ret
  exact ⟨rfl,HBw.out⟩
 have hc2:(profCheck p != 0)=false:=by simp [hck]
 have HCk:=hid hck
 clear hck
 go_wp2_with (first
  | ((with_reducible show wpList _ _ _ (Oper.mk _ (Op.load 24 _) _ _ _ _::_) _ _);refine wpList_load_g (by rfl) 24 _ rfl b 0 rfl (p.cs pA pc).toList _ (HG4.out w4 (Below.refl _ _)) Tryz.underlying24 rfl (by kernel_rfl) ?_)
  | fail)
 refine (trip_any p pA pc E A c w4 (HV.out w4 HBw.out) (HP.out w4 HBw.out) hpc (HR.out w4 HBw.out) (HE.out w4 HBw.out) (by omega)).mono ?_
 rintro e7 w7 ⟨A7,c7,xs,D7,d7,rfl,hx7,hr7,hk7,hl7,hb7⟩
 have HB7:=hid (HBw.out.trans (hb7.mono HBw.out.size))
 have HX7:=hid hx7
 have HR7:=hid hr7
 have HK7:=hid hk7
 have HL7:=hid hl7
 clear hb7 HBw HG4 hx7 hr7 hk7 hl7
 obtain ⟨r,hr⟩:∃ r,r=tripP p (evsL E):=⟨_,rfl⟩
 rw [← hr] at HX7 HL7 ⊢
 have HRq:=hid hr
 clear hr
 by_cases h0:r.1=0
 rotate_left
 ·have hq0:(r.1 != 0)=true:=by simp [h0]
  have HN:=hid (show r.2=([],[]) by rw [HRq.out];exact trip_none (by rw [← HRq.out];exact h0))
  have HXl:Hid (xs.length=0):=hid (by
   have:=congrArg List.length HX7.out
   rw [HN.out] at this
   simpa using this)
  have HRl:Hid (r.2.2.length=0):=hid (by rw [HN.out];rfl)
  clear h0
  generalize xs.length=nx at *
  generalize r.2.2.length=nr at *
  obtain rfl:=HXl.out
  obtain rfl:=HRl.out
  go_wp2_with fail
  go_ret
  exact ⟨rfl,HB7.out⟩
 have hq0:(r.1 != 0)=false:=by simp [h0]
 have HP0:Hid ((tripP p (evsL E)).1=0):=hid (by rw [← HRq.out];exact h0)
 clear h0
 have HNm:=hid (trip_names HCk.out HP0.out)
 have HOc:=hid (trip_cases HCk.out HP0.out).1
 have HLs:Hid (r.2.2.length≤9):=hid (by
  have h1:=(trip_take HCk.out HP0.out (k:=0) (Nat.zero_le _)).2.2.2.length_le
  have h3:(certL (wayL p)).length≤9:=certGo_len (wayL p) 0
  rw [← HRq.out] at h1
  omega)
 have HLe:Hid (xs.length=E.length):=hid (by
  have h1:=HNm.out.1
  rw [← HRq.out,← HX7.out] at h1
  simpa using h1)
 have HAt:Hid (∀ (m:Nat) (hm:m<E.length) (hx:m<xs.length),xs[m].ev=E[m].ev∨namesP r.2.2 E[m].ev (ofE (evsL E) E[m].ev)=true):=hid (fun m hm hx=>by
  have h1:=HNm.out.2 m (by simpa using hm)
  rw [← HRq.out,← HX7.out,ev_at hm] at h1
  rcases h1 with h1 | h1
  ·left
   simp only [evsL,List.getElem?_map,List.getElem?_eq_getElem hx,Option.map_some,Option.some.injEq] at h1
   exact h1
  ·exact .inr h1)
 have e1:((xs.length:Int) != (E.length:Int))=false:=by have:=HLe.out;simp [this]
 go_wp2_with fail
 clear e1
 go_loopw [9,10] (fun i _ wx=>∃ m:Nat,m≤E.length∧i=.int .i64 m∧Below w7.heap.size w7 wx) (fun i _ _=>E.length - (intOf i).toNat)
 case atStart=>exact ⟨0,Nat.zero_le _,rfl,Below.refl _ _⟩
 case round =>
  obtain ⟨m,hm,rfl,hbm⟩:=hrel
  have HBm:=hid hbm
  clear hbm
  by_cases hlt:m<E.length
  ·have hlx:m<xs.length:=by have:=HLe.out;omega
   obtain ⟨g1,o1,rfl,hg1,hc1⟩:=(HR.out w7 HB7.out).at_ hlt
   obtain ⟨g2,o2,rfl,hg2,hc2⟩:=HR7.out.at_ hlx
   have HEv:Hid (∀ (wq:World),Below w7.heap.size w7 wq→∀ (k:Nat) (hk:k<E.length),wq.rangeAt g1 (o1+k * 12) E[k].cs):=hid (fun wq hq k hk j v hj=>by
    obtain ⟨g9,o9,e9,_,hc9⟩:=(HR.out w7 HB7.out).at_ hk
    injection e9 with e9
    injection e9 with e9 e8
    subst e9 e8
    exact (hq.cell (p:=⟨g1,o1+k * 12+j,none⟩) hg1).trans (hc9 j v hj))
   have HXv:Hid (∀ (wq:World),Below w7.heap.size w7 wq→wq.rangeAt g2 (o2+m * 12) xs[m].cs):=hid (fun wq hq j v hj=>(hq.cell (p:=⟨g2,o2+m * 12+j,none⟩) hg2).trans (hc2 j v hj))
   have HEo:=hid (HE.out w7 HB7.out _ (List.getElem_mem hlt))
   have HXo:=hid (HK7.out _ (List.getElem_mem hlx))
   have HA:=hid (HAt.out m hlt hlx)
   have HEm:=hid (HEv.out wr HBm.out m hlt)
   have HKi:Hid (E[m].ev.kind=1→0≤E[m].ev.target∧E[m].ev.target<m):=hid (fun hk1=>by
    have hC:=conv_at HOc.out (id:=m) (by simpa using hlt)
    have h2:=msgB_at (edit_msg hC (by rw [ev_at hlt];exact hk1))
    rw [ev_at hlt] at h2
    exact ⟨h2.1,h2.2.1⟩)
   have HOf:Hid (∀ j:Nat,E[m].ev.target=j→∀ hj:j<E.length,ofE (evsL E) E[m].ev=if E[m].ev.kind=1 then E[j].ev else E[m].ev):=hid (fun j hj hjl=>by
    unfold ofE
    split
    ·rw [hj,Int.toNat_natCast,ev_at hjl]
    ·rfl)
   have HOf0:Hid (E[m].ev.kind≠1→ofE (evsL E) E[m].ev=E[m].ev):=hid (fun h=>by unfold ofE;rw [if_neg h])
   clear hc1 hc2
   generalize hae:E[m]=a at *
   generalize xs[m]=x at *
   have HEa:Hid (∀ (wq:World),Below w7.heap.size w7 wq→wq.rangeAt g1 (o1+m * 12) a.cs):=hid (fun wq hq=>hae ▸ HEv.out wq hq m hlt)
   clear hae
   go_upto_region 13 with (first
    | ((with_reducible show wpList _ _ _ (Oper.mk _ (Op.load 40 _) _ _ _ _::_) _ _);refine wpList_load_g rfl 40 _ rfl g1 (o1+m * 12) rfl (a.ev.cs a.cA a.cc a.fA a.fc).toList _ HEm.out Tryz.underlying40 rfl (by kernel_rfl) ?_)
    | fail)
   change Code.wp _ _ _ _ (wr.alloc (.cells (a.ev.cs a.cA a.cc a.fA a.fc) 40))
   have hb1:Below w7.heap.size w7 (wr.alloc (.cells (a.ev.cs a.cA a.cc a.fA a.fc) 40)):=HBm.out.alloc HBm.out.size _
   have hx1:(wr.alloc (.cells (a.ev.cs a.cA a.cc a.fA a.fc) 40)).heap[wr.heap.size]?=some (.cells (a.ev.cs a.cA a.cc a.fA a.fc) 40 (0,0)):=(MapKept.heap_alloc wr _).1
   have HB1:=hid hb1
   have HBx:=hid hx1
   have hmb:=HBm.out.size
   clear hb1 hx1 HEm
   obtain ⟨mb,hq1⟩:∃ y,y=wr.heap.size:=⟨_,rfl⟩
   rw [← hq1] at HBx hmb ⊢
   have HMb:=hid hmb
   clear hq1 hmb
   obtain ⟨wu,hwu⟩:∃ y,y=wr.alloc (.cells (a.ev.cs a.cA a.cc a.fA a.fc) 40):=⟨_,rfl⟩
   rw [← hwu] at HB1 HBx ⊢
   clear hwu
   obtain ⟨k1,hk1⟩:∃ z:Bool,z=(a.ev.kind==1):=⟨_,rfl⟩
   have HK1:=hid hk1
   clear hk1
   have y3:=box_cell HBx.out 3 (.int .i64 a.ev.kind) rfl
   have y5:=box_cell HBx.out 5 (.int .i64 a.ev.target) rfl
   go_cut [72] (fun v wx=>v=.bool k1∧wx=wu)
   case first=>as_aux_lemma =>
    cases q1:a.ev.kind==1
    ·have HQ:Hid (k1=false):=hid (by rw [HK1.out,q1])
     go_wp2_with fail
     go_meet
     exact ⟨by rw [HQ.out],rfl⟩
    ·have HQ:Hid (k1=true):=hid (by rw [HK1.out,q1])
     have ht:=HKi.out (by simpa using q1)
     have t0:decide (0≤a.ev.target)=true:=decide_eq_true ht.1
     have t1:decide (a.ev.target<(m:Int))=true:=decide_eq_true ht.2
     clear ht
     go_wp2_with fail
     go_meet
     exact ⟨by rw [HQ.out],rfl⟩
   case rest =>
    obtain ⟨rfl,rfl⟩:=hcut
    obtain ⟨wv,hwv⟩:∃ y,y=wc:=⟨_,rfl⟩
    subst hwv
    go_upto_if 72 with fail
    go_cut [] (fun wx=>∃ mL:EvL,wx.rangeAt mb 0 mL.cs∧mL.ev=ofE (evsL E) a.ev∧Below w7.heap.size w7 wx)
    case first=>as_aux_lemma =>
     cases k1
     ·have hk:a.ev.kind≠1:=fun h=>by have:=HK1.out;rw [h] at this;cases this
      have HO:=hid (HOf0.out hk)
      clear hk
      go_wp2_with fail
      go_meet
      exact ⟨a,range_block HBx.out rfl,HO.out.symm,HB1.out⟩
     ·have hk:a.ev.kind=1:=by have:=HK1.out;simpa using this.symm
      have ht:=HKi.out hk
      obtain ⟨j,hj⟩:∃ j:Nat,a.ev.target=j:=⟨a.ev.target.toNat,by omega⟩
      have hjl:j<E.length:=by omega
      have HO:=hid (HOf.out j hj hjl)
      have HHk:=hid hk
      have HEj:=hid (HEv.out _ HB1.out j hjl)
      rw [hj] at y5
      have HTh:=hid (there_row HBx.out)
      generalize E[j]=z at *
      clear hk ht hj
      go_wp2_with (first
       | ((with_reducible show wpList _ _ _ (Oper.mk _ (Op.load 40 _) _ _ _ _::_) _ _);refine wpList_load_g rfl 40 _ rfl g1 (o1+j * 12) rfl (z.ev.cs z.cA z.cc z.fA z.fc).toList _ HEj.out Tryz.underlying40 rfl (by kernel_rfl) ?_)
       | ((with_reducible show wpList _ _ _ (Oper.mk _ (Op.store 40 _ _) _ _ _ _::_) _ _);refine wpList_store_box rfl 40 _ _ rfl mb (z.ev.cs z.cA z.cc z.fA z.fc) rfl rfl HTh.out (by kernel_rfl) (evOne _ _ _ _ _) ?_;intro wS hrS htS hgS;have HRS:=hid hrS;have HGS:=hid hgS;clear hrS htS hgS)
       | fail)
      go_meet
      exact ⟨z,HRS.out,by rw [HO.out,if_pos HHk.out],HB1.out.grown HGS.out HB1.out.size (fun k hk=>by injection hk with hk;have:=HMb.out;omega)⟩
    case rest =>
     obtain ⟨mL,hmr,hme,hmb⟩:=hcut
     have HMr:=hid hmr
     have HMe:=hid hme
     have HBc:=hid hmb
     have hmlt:mb<wc.heap.size:=by
      rcases Nat.lt_or_ge mb wc.heap.size with h | h
      ·exact h
      ·exfalso
       have h2:=hmr 0 (.int .i64 mL.ev.author) rfl
       unfold World.cell? at h2
       simp [Array.getElem?_eq_none h] at h2
     have HMq:Hid (∀ wq,Below wc.heap.size wc wq→wq.rangeAt mb 0 mL.cs):=hid (fun wq hq j v hj=>(hq.cell (p:=⟨mb,0+j,none⟩) hmlt).trans (hmr j v hj))
     clear hmr hme hmb hmlt y3 y5 HBx
     go_upto_region 15 with fail
     go_cut [97] (fun v wx=>v=.bool false∧Below w7.heap.size w7 wx)
     case first=>as_aux_lemma =>
      have HAl:Hid (∀ wq,Below w7.heap.size w7 wq→Calls Tryz.prog 27 #[x.v,a.v] wq fun en w'=>∃ v:Bool,en=.returned (.bool v)∧(x.ev=a.ev→v=true)∧Below wq.heap.size wq w'):=hid (fun wq hq=>lAlike_any x a wq (HXo.out.now hq) (HEo.out.now hq))
      have HNa:Hid (∀ wq,Below w7.heap.size w7 wq→Calls Tryz.prog 28 #[.slice D7 r.2.2.length d7,a.v,mL.v] wq fun en w'=>en=.returned (.bool (namesP r.2.2 a.ev mL.ev))∧Below wq.heap.size wq w'):=hid (fun wq hq=>lNames_any r.2.2 D7 d7 a mL wq (HL7.out.now hq) (by have:=HLs.out;omega))
      refine wp_region_J (S:=fun w'=>Below wc.heap.size wc w') (fun _=>false) (by kernel_rfl) ((Below.refl _ _).drew) (fun hHeld=>?_)
      refine wpAnyJ_pure (i:=0) (v:=?_) rfl (by kernel_rfl) (by kernel_rfl) (by kernel_rfl) (fun _ _ _ h=>h) (Or.inl ⟨by rfl,?_⟩) ?_
      rotate_left
      ·intro wq _
       go_simp
       try with_reducible rfl
      simp only [Act.put,sA,sB,sC]
      refine wpAnyJ_pure (i:=1) (v:=?_) rfl (by kernel_rfl) (by kernel_rfl) (by kernel_rfl) (fun _ _ _ h=>h) (Or.inl ⟨by rfl,?_⟩) ?_
      rotate_left
      ·intro wq _
       go_simp
       try with_reducible rfl
      simp only [Act.put,sA,sB,sC]
      try simp only [List.getElem_toArray,List.getElem_cons_zero,List.getElem_cons_succ,Act.put,List.setIfInBounds_toArray,List.set_cons_zero,List.set_cons_succ]
      refine wpAnyJ_pure (i:=2) (v:=?_) rfl (by kernel_rfl) (by kernel_rfl) (by kernel_rfl) (fun _ _ _ h=>h) (Or.inl ⟨by rfl,?_⟩) ?_
      rotate_left
      ·intro wq _
       go_simp
       try with_reducible rfl
      simp only [Act.put,sA,sB,sC]
      try simp only [List.getElem_toArray,List.getElem_cons_zero,List.getElem_cons_succ,Act.put,List.setIfInBounds_toArray,List.set_cons_zero,List.set_cons_succ]
      refine' wpAnyJ_take (i:=3) rfl (by kernel_rfl) (by kernel_rfl) (by kernel_rfl) (by kernel_rfl) (fun _ _ _ h=>h) (yieldsIf_load_mid (by rfl) _ _ rfl (g2) (o2+m * 12) rfl (x.cs) _ (fun wq hq=>HXv.out wq (HBc.out.trans (hq.mono HBc.out.size))) Tryz.underlying40 rfl (by kernel_rfl)) hHeld ?_
      try simp only [List.getElem_toArray,List.getElem_cons_zero,List.getElem_cons_succ,Act.put,List.setIfInBounds_toArray,List.set_cons_zero,List.set_cons_succ]
      refine wpAnyJ_pure (i:=4) (v:=?_) rfl (by kernel_rfl) (by kernel_rfl) (by kernel_rfl) (fun _ _ _ h=>h) (Or.inl ⟨by rfl,?_⟩) ?_
      rotate_left
      ·intro wq _
       go_simp
       try with_reducible rfl
      simp only [Act.put,sA,sB,sC]
      refine wpAnyJ_pure (i:=5) (v:=?_) rfl (by kernel_rfl) (by kernel_rfl) (by kernel_rfl) (fun _ _ _ h=>h) (Or.inl ⟨by rfl,?_⟩) ?_
      rotate_left
      ·intro wq _
       go_simp
       try with_reducible rfl
      simp only [Act.put,sA,sB,sC]
      try simp only [List.getElem_toArray,List.getElem_cons_zero,List.getElem_cons_succ,Act.put,List.setIfInBounds_toArray,List.set_cons_zero,List.set_cons_succ]
      refine wpAnyJ_pure (i:=6) (v:=?_) rfl (by kernel_rfl) (by kernel_rfl) (by kernel_rfl) (fun _ _ _ h=>h) (Or.inl ⟨by rfl,?_⟩) ?_
      rotate_left
      ·intro wq _
       go_simp
       try with_reducible rfl
      simp only [Act.put,sA,sB,sC]
      try simp only [List.getElem_toArray,List.getElem_cons_zero,List.getElem_cons_succ,Act.put,List.setIfInBounds_toArray,List.set_cons_zero,List.set_cons_succ]
      refine' wpAnyJ_take (i:=7) rfl (by kernel_rfl) (by kernel_rfl) (by kernel_rfl) (by kernel_rfl) (fun _ _ _ h=>h) (yieldsIf_load_mid (by rfl) _ _ rfl (g1) (o1+m * 12) rfl (a.cs) _ (fun wq hq=>HEa.out wq (HBc.out.trans (hq.mono HBc.out.size))) Tryz.underlying40 rfl (by kernel_rfl)) hHeld ?_
      try simp only [List.getElem_toArray,List.getElem_cons_zero,List.getElem_cons_succ,Act.put,List.setIfInBounds_toArray,List.set_cons_zero,List.set_cons_succ]
      refine wpAnyJ_one (i:=8) rfl (by kernel_rfl) (fun K hK=>?_)
      go_simp
      refine (HAl.out wc.drew (HBc.out.drew)).mono ?_
      rintro e8 w8 ⟨v,rfl,hv,hb8⟩
      go_wp2_with fail
      refine hK.out _ _ (fun _ h=>h.trans (hb8.mono h.size)) ?_
      clear hK K
      have HB8:=hid (HBc.out.drew.trans (hb8.mono HBc.out.drew.size))
      have HS8:=hid ((Below.refl wc.heap.size wc).drew.trans hb8)
      have HVv:=hid hv
      clear hb8 hv hHeld
      try simp only [List.getElem_toArray,List.getElem_cons_zero,List.getElem_cons_succ,Act.put,List.setIfInBounds_toArray,List.set_cons_zero,List.set_cons_succ]
      cases v
      ·have HNt:Hid (namesP r.2.2 a.ev mL.ev=true):=hid (by
        rcases HA.out with h | h
        ·exact absurd (HVv.out h) (by simp)
        ·rw [HMe.out];exact h)
       have hHeld:Below wc.heap.size wc w8:=HS8.out
       refine wpAnyJ_pure (i:=9) (v:=?_) rfl (by kernel_rfl) (by kernel_rfl) (by kernel_rfl) (fun _ _ _ h=>h) (Or.inl ⟨by rfl,?_⟩) ?_
       rotate_left
       ·intro wq _
        go_simp
        try with_reducible rfl
       simp only [Act.put,sA,sB,sC]
       try simp only [List.getElem_toArray,List.getElem_cons_zero,List.getElem_cons_succ,Act.put,List.setIfInBounds_toArray,List.set_cons_zero,List.set_cons_succ]
       refine wpAnyJ_pure (i:=10) (v:=?_) rfl (by kernel_rfl) (by kernel_rfl) (by kernel_rfl) (fun _ _ _ h=>h) (Or.inl ⟨by rfl,?_⟩) ?_
       rotate_left
       ·intro wq _
        go_simp
        try with_reducible rfl
       simp only [Act.put,sA,sB,sC]
       try simp only [List.getElem_toArray,List.getElem_cons_zero,List.getElem_cons_succ,Act.put,List.setIfInBounds_toArray,List.set_cons_zero,List.set_cons_succ]
       refine wpAnyJ_pure (i:=11) (v:=?_) rfl (by kernel_rfl) (by kernel_rfl) (by kernel_rfl) (fun _ _ _ h=>h) (Or.inl ⟨by rfl,?_⟩) ?_
       rotate_left
       ·intro wq _
        go_simp
        try with_reducible rfl
       simp only [Act.put,sA,sB,sC]
       refine wpAnyJ_pure (i:=12) (v:=?_) rfl (by kernel_rfl) (by kernel_rfl) (by kernel_rfl) (fun _ _ _ h=>h) (Or.inl ⟨by rfl,?_⟩) ?_
       rotate_left
       ·intro wq _
        go_simp
        try with_reducible rfl
       simp only [Act.put,sA,sB,sC]
       refine wpAnyJ_pure (i:=13) (v:=?_) rfl (by kernel_rfl) (by kernel_rfl) (by kernel_rfl) (fun _ _ _ h=>h) (Or.inl ⟨by rfl,?_⟩) ?_
       rotate_left
       ·intro wq _
        go_simp
        try with_reducible rfl
       simp only [Act.put,sA,sB,sC]
       try simp only [List.getElem_toArray,List.getElem_cons_zero,List.getElem_cons_succ,Act.put,List.setIfInBounds_toArray,List.set_cons_zero,List.set_cons_succ]
       refine wpAnyJ_pure (i:=14) (v:=?_) rfl (by kernel_rfl) (by kernel_rfl) (by kernel_rfl) (fun _ _ _ h=>h) (Or.inl ⟨by rfl,?_⟩) ?_
       rotate_left
       ·intro wq _
        go_simp
        try with_reducible rfl
       simp only [Act.put,sA,sB,sC]
       try simp only [List.getElem_toArray,List.getElem_cons_zero,List.getElem_cons_succ,Act.put,List.setIfInBounds_toArray,List.set_cons_zero,List.set_cons_succ]
       refine' wpAnyJ_take (i:=15) rfl (by kernel_rfl) (by kernel_rfl) (by kernel_rfl) (by kernel_rfl) (fun _ _ _ h=>h) (yieldsIf_load_mid (by rfl) _ _ rfl (g1) (o1+m * 12) rfl (a.cs) _ (fun wq hq=>HEa.out wq (HBc.out.trans (hq.mono HBc.out.size))) Tryz.underlying40 rfl (by kernel_rfl)) hHeld ?_
       try simp only [List.getElem_toArray,List.getElem_cons_zero,List.getElem_cons_succ,Act.put,List.setIfInBounds_toArray,List.set_cons_zero,List.set_cons_succ]
       refine' wpAnyJ_take (i:=16) rfl (by kernel_rfl) (by kernel_rfl) (by kernel_rfl) (by kernel_rfl) (fun _ _ _ h=>h) (yieldsIf_load_mid (by rfl) _ _ rfl (mb) (0) rfl (mL.cs) _ (HMq.out) Tryz.underlying40 rfl (by kernel_rfl)) hHeld ?_
       try simp only [List.getElem_toArray,List.getElem_cons_zero,List.getElem_cons_succ,Act.put,List.setIfInBounds_toArray,List.set_cons_zero,List.set_cons_succ]
       refine wpAnyJ_one (i:=17) rfl (by kernel_rfl) (fun K hK=>?_)
       go_simp
       refine (HNa.out w8 HB8.out).mono ?_
       rintro e9 w9 ⟨rfl,hb9⟩
       rw [HNt.out]
       go_wp2_with fail
       refine hK.out _ _ (fun _ h=>h.trans (hb9.mono h.size)) ?_
       clear hK K
       have HB9:=hid (HB8.out.trans (hb9.mono HB8.out.size))
       clear hb9 hHeld
       try simp only [List.getElem_toArray,List.getElem_cons_zero,List.getElem_cons_succ,Act.put,List.setIfInBounds_toArray,List.set_cons_zero,List.set_cons_succ]
       refine wpAnyJ_pure (i:=18) (v:=?_) rfl (by kernel_rfl) (by kernel_rfl) (by kernel_rfl) (fun _ _ _ h=>h) (Or.inl ⟨by rfl,?_⟩) ?_
       rotate_left
       ·intro wq _
        go_simp
        try with_reducible rfl
       simp only [Act.put,sA,sB,sC]
       try simp only [List.getElem_toArray,List.getElem_cons_zero,List.getElem_cons_succ,Act.put,List.setIfInBounds_toArray,List.set_cons_zero,List.set_cons_succ]
       refine wpAnyJ_pure (i:=19) (v:=?_) rfl (by kernel_rfl) (by kernel_rfl) (by kernel_rfl) (fun _ _ _ h=>h) (Or.inl ⟨by rfl,?_⟩) ?_
       rotate_left
       ·intro wq _
        go_simp
        try with_reducible rfl
       simp only [Act.put,sA,sB,sC]
       try simp only [List.getElem_toArray,List.getElem_cons_zero,List.getElem_cons_succ,Act.put,List.setIfInBounds_toArray,List.set_cons_zero,List.set_cons_succ]
       refine wpAnyJ_done (by kernel_rfl) ?_ _
       go_wp2_with fail
       go_meet
       exact ⟨rfl,HB9.out⟩
      ·have hHeld:Below wc.heap.size wc w8:=HS8.out
       refine wpAnyJ_pure (i:=9) (v:=?_) rfl (by kernel_rfl) (by kernel_rfl) (by kernel_rfl) (fun _ _ _ h=>h) (Or.inl ⟨by rfl,?_⟩) ?_
       rotate_left
       ·intro wq _
        go_simp
        try with_reducible rfl
       simp only [Act.put,sA,sB,sC]
       try simp only [List.getElem_toArray,List.getElem_cons_zero,List.getElem_cons_succ,Act.put,List.setIfInBounds_toArray,List.set_cons_zero,List.set_cons_succ]
       refine wpAnyJ_pure (i:=10) (v:=?_) rfl (by kernel_rfl) (by kernel_rfl) (by kernel_rfl) (fun _ _ _ h=>h) (Or.inl ⟨by rfl,?_⟩) ?_
       rotate_left
       ·intro wq _
        go_simp
        try with_reducible rfl
       simp only [Act.put,sA,sB,sC]
       try simp only [List.getElem_toArray,List.getElem_cons_zero,List.getElem_cons_succ,Act.put,List.setIfInBounds_toArray,List.set_cons_zero,List.set_cons_succ]
       refine wpAnyJ_pure (i:=11) (v:=undef) rfl (by kernel_rfl) (by kernel_rfl) (by kernel_rfl) (fun _ _ _ h=>h) (Or.inr ⟨by rfl,rfl⟩) ?_
       simp only [Act.put,sA,sB,sC]
       try simp only [List.getElem_toArray,List.getElem_cons_zero,List.getElem_cons_succ,Act.put,List.setIfInBounds_toArray,List.set_cons_zero,List.set_cons_succ]
       refine wpAnyJ_pure (i:=12) (v:=undef) rfl (by kernel_rfl) (by kernel_rfl) (by kernel_rfl) (fun _ _ _ h=>h) (Or.inr ⟨by rfl,rfl⟩) ?_
       simp only [Act.put,sA,sB,sC]
       try simp only [List.getElem_toArray,List.getElem_cons_zero,List.getElem_cons_succ,Act.put,List.setIfInBounds_toArray,List.set_cons_zero,List.set_cons_succ]
       refine wpAnyJ_pure (i:=13) (v:=undef) rfl (by kernel_rfl) (by kernel_rfl) (by kernel_rfl) (fun _ _ _ h=>h) (Or.inr ⟨by rfl,rfl⟩) ?_
       simp only [Act.put,sA,sB,sC]
       try simp only [List.getElem_toArray,List.getElem_cons_zero,List.getElem_cons_succ,Act.put,List.setIfInBounds_toArray,List.set_cons_zero,List.set_cons_succ]
       refine wpAnyJ_pure (i:=14) (v:=undef) rfl (by kernel_rfl) (by kernel_rfl) (by kernel_rfl) (fun _ _ _ h=>h) (Or.inr ⟨by rfl,rfl⟩) ?_
       simp only [Act.put,sA,sB,sC]
       try simp only [List.getElem_toArray,List.getElem_cons_zero,List.getElem_cons_succ,Act.put,List.setIfInBounds_toArray,List.set_cons_zero,List.set_cons_succ]
       refine wpAnyJ_pure (i:=15) (v:=undef) rfl (by kernel_rfl) (by kernel_rfl) (by kernel_rfl) (fun _ _ _ h=>h) (Or.inr ⟨by rfl,rfl⟩) ?_
       simp only [Act.put,sA,sB,sC]
       try simp only [List.getElem_toArray,List.getElem_cons_zero,List.getElem_cons_succ,Act.put,List.setIfInBounds_toArray,List.set_cons_zero,List.set_cons_succ]
       refine wpAnyJ_pure (i:=16) (v:=undef) rfl (by kernel_rfl) (by kernel_rfl) (by kernel_rfl) (fun _ _ _ h=>h) (Or.inr ⟨by rfl,rfl⟩) ?_
       simp only [Act.put,sA,sB,sC]
       try simp only [List.getElem_toArray,List.getElem_cons_zero,List.getElem_cons_succ,Act.put,List.setIfInBounds_toArray,List.set_cons_zero,List.set_cons_succ]
       refine wpAnyJ_pure (i:=17) (v:=undef) rfl (by kernel_rfl) (by kernel_rfl) (by kernel_rfl) (fun _ _ _ h=>h) (Or.inr ⟨by rfl,rfl⟩) ?_
       simp only [Act.put,sA,sB,sC]
       try simp only [List.getElem_toArray,List.getElem_cons_zero,List.getElem_cons_succ,Act.put,List.setIfInBounds_toArray,List.set_cons_zero,List.set_cons_succ]
       refine wpAnyJ_pure (i:=18) (v:=undef) rfl (by kernel_rfl) (by kernel_rfl) (by kernel_rfl) (fun _ _ _ h=>h) (Or.inr ⟨by rfl,rfl⟩) ?_
       simp only [Act.put,sA,sB,sC]
       try simp only [List.getElem_toArray,List.getElem_cons_zero,List.getElem_cons_succ,Act.put,List.setIfInBounds_toArray,List.set_cons_zero,List.set_cons_succ]
       refine wpAnyJ_pure (i:=19) (v:=?_) rfl (by kernel_rfl) (by kernel_rfl) (by kernel_rfl) (fun _ _ _ h=>h) (Or.inl ⟨by rfl,?_⟩) ?_
       rotate_left
       ·intro wq _
        go_simp
        try with_reducible rfl
       simp only [Act.put,sA,sB,sC]
       try simp only [List.getElem_toArray,List.getElem_cons_zero,List.getElem_cons_succ,Act.put,List.setIfInBounds_toArray,List.set_cons_zero,List.set_cons_succ]
       refine wpAnyJ_done (by kernel_rfl) ?_ _
       go_wp2_with fail
       go_meet
       exact ⟨rfl,HB8.out⟩
     case rest =>
      obtain ⟨rfl,hbz⟩:=hcut
      have HBz:=hid hbz
      clear hbz
      go_wp2_with fail
      go_roundw
      case rel=>exact ⟨m+1,by omega,by go_num,HBz.out⟩
      case measure=>simp [intOf];omega
  ·have hme:m=E.length:=by omega
   have d9:decide (m<E.length)=false:=decide_eq_false (by omega)
   clear hme hlt
   have HBw:=hid (HB7.out.trans (HBm.out.mono HB7.out.size))
   by_cases hls:r.2.2=[]
   ·have HSm:Hid (Calls Tryz.prog 20 #[.slice A7 xs.length c7,.slice A E.length c] wr fun e w'=>e=.returned (.bool true)∧Below wr.heap.size wr w'):=hid (by
     refine (rSameL_any xs E A7 A c7 c wr (HR7.out.now HBm.out) (HR.out wr HBw.out) (fun x hx=>(HK7.out x hx).now HBm.out) (HE.out wr HBw.out) (by have:=HLe.out;omega) hl).mono ?_
     rintro e w' ⟨v,rfl,hv,hb⟩
     have hw:=trip_whole HCk.out HP0.out (by rw [← HRq.out];exact hls)
     rw [← HRq.out,← HX7.out] at hw
     rw [hv.2 hw]
     exact ⟨rfl,hb⟩)
    have HZ:Hid (r.2.2.length=0):=hid (by rw [hls];rfl)
    clear hls
    generalize r.2.2.length=nr at *
    obtain rfl:=HZ.out
    go_wp2_with fail
    refine HSm.out.mono ?_
    rintro e9 w9 ⟨rfl,hb9⟩
    go_wp2_with fail
    go_ret
    exact ⟨rfl,HBw.out.trans (hb9.mono HBw.out.size)⟩
   ·have hlp:decide (0<r.2.2.length)=true:=decide_eq_true (List.length_pos_iff.2 hls)
    clear hls
    generalize r.2.2.length=nr at *
    go_wp2_with fail
    go_ret
    exact ⟨rfl,HBw.out⟩
end Go.Proofs.YtlnnjdibkbabiaaGreatDoor
