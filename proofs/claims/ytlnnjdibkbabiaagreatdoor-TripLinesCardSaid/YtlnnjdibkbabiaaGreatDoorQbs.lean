/- Contracts and plain laws, joined: TlLines. -/
import Derived.Test.YtlnnjdibkbabiaaGreatDoorQbr
/- The walk of TripLines (layer 24). -/
set_option linter.unusedSimpArgs false
set_option linter.unusedVariables false
namespace Go.Proofs.YtlnnjdibkbabiaaGreatDoor
open _root_.Go.Lib (hid)
open Go.RowKit
set_option maxRecDepth 100000
set_option maxHeartbeats 8000000 in
theorem tripLines_i {B:Nat} (p:Prof) (pA:Option Addr) (pc:Nat) (E:List EvL) (A:Option Addr) (c:Nat) (n:Int) (w:World) (hV:Vs B w) (hp:ProfOk w w.heap.size pA p) (hpc:p.types.length≤pc) (hr:RdL 12 EvL.cs w w.heap.size A E) (he:∀ x∈E,EvLOk w w.heap.size x) (hl:E.length≤9223372036854775807) (hlc:E.length≤c) (hn:0≤n∧n≤255) :
  Calls Tryz.prog 6 #[p.v pA pc,.slice A E.length c,.int .u8 n] w fun e w'=>e=.returned (.bool true)∧Below w.heap.size w w':=by
 have hb1:Below w.heap.size w (w.alloc (.cells (p.cs pA pc) 24)):=(Below.refl _ _).alloc (Nat.le_refl _) _
 have HRg:Hid (∀ wq,Below (w.alloc (.cells (p.cs pA pc) 24)).heap.size (w.alloc (.cells (p.cs pA pc) 24)) wq→wq.rangeAt w.heap.size 0 (p.cs pA pc).toList):=hid (fun wq hq=>boxRange w (p.cs pA pc) 24 hq)
 have HV:=hid (fun wq (hq:Below w.heap.size w wq)=>hV.now hq)
 have HP:=hid (fun wq (hq:Below w.heap.size w wq)=>hp.now hq)
 have HR:=hid (fun wq (hq:Below w.heap.size w wq)=>hr.now hq)
 have HE:=hid (fun wq (hq:Below w.heap.size w wq)=>fun x hx=>(he x hx).now hq)
 have HB:=hid hb1
 clear hb1 hV hp hr he
 go_enter Tryz.func6,Tryz.ntmps6
 go_upto_region 1 with fail
 change Code.wp _ _ _ _ (w.alloc (.cells (p.cs pA pc) 24))
 obtain ⟨b,hb⟩:∃ y,y=w.heap.size:=⟨_,rfl⟩
 rw [← hb] at HRg ⊢
 have HBq:=hid hb
 clear hb
 generalize w.alloc (.cells (p.cs pA pc) 24)=w0 at *
 go_wp2_with fail
 refine (lSmall24_any w0 (HV.out w0 HB.out)).mono ?_
 rintro e1 w1 ⟨rfl,hb1⟩
 have HB1:=hid (HB.out.trans (hb1.mono HB.out.size))
 have HG1:=hid (fun wq (hq:Below w1.heap.size w1 wq)=>HRg.out wq (hb1.trans (hq.mono hb1.size)))
 clear hb1 HB HRg
 go_wp2_with (first
  | ((with_reducible show wpList _ _ _ (Oper.mk _ (Op.load 24 _) _ _ _ _::_) _ _);refine wpList_load_g (by rfl) 24 _ rfl b 0 rfl (p.cs pA pc).toList _ (HG1.out w1 (Below.refl _ _)) Tryz.underlying24 rfl (by kernel_rfl) ?_)
  | fail)
 refine (few_anyV p pA pc w1 (HP.out w1 HB1.out)).mono ?_
 rintro e2 w2 ⟨⟨q,rfl,_⟩,hb2⟩
 have HB2:=hid (HB1.out.trans (hb2.mono HB1.out.size))
 have HG2:=hid (fun wq (hq:Below w2.heap.size w2 wq)=>HG1.out wq (hb2.trans (hq.mono hb2.size)))
 clear hb2 HB1 HG1
 cases q
 ·go_wp2_with fail
  go_ret
  exact ⟨rfl,HB2.out⟩
 go_wp2_with fail
 refine (rFew16_any E A c w2 (HR.out w2 HB2.out) hl).mono ?_
 rintro e3 w3 ⟨rfl,rfl⟩
 cases hf:few16B (evsL E) 20
 ·go_wp2_with fail
  go_ret
  exact ⟨rfl,HB2.out⟩
 have HF:=hid hf
 have hl20:E.length≤20:=by simpa using (few16_len hf)
 clear hf
 go_wp2_with (first
  | ((with_reducible show wpList _ _ _ (Oper.mk _ (Op.load 24 _) _ _ _ _::_) _ _);refine wpList_load_g (by rfl) 24 _ rfl b 0 rfl (p.cs pA pc).toList _ (HG2.out w2 (Below.refl _ _)) Tryz.underlying24 rfl (by kernel_rfl) ?_)
  | fail)
 refine (pCheck_any p pA pc w2 (HP.out w2 HB2.out) hpc).mono ?_
 rintro e4 w4 ⟨rfl,hb4⟩
 have HBw:=hid (HB2.out.trans (hb4.mono HB2.out.size))
 have HG4:=hid (fun wq (hq:Below w4.heap.size w4 wq)=>HG2.out wq (hb4.trans (hq.mono hb4.size)))
 clear hb4 HB2 HG2
 by_cases hck:profCheck p=0
 rotate_left
 ·have hc2:(profCheck p != 0)=true:=by simp [hck]
  clear hck
  go_wp2_with fail
  go_ret
  exact ⟨rfl,HBw.out⟩
 have hc2:(profCheck p != 0)=false:=by simp [hck]
 have HCk:=hid hck
 clear hck
 have HQ:Hid (waysOf p=wayL p):=hid (by unfold waysOf;rw [if_pos HCk.out])
 go_wp2_with (first
  | ((with_reducible show wpList _ _ _ (Oper.mk _ (Op.load 24 _) _ _ _ _::_) _ _);refine wpList_load_g (by rfl) 24 _ rfl b 0 rfl (p.cs pA pc).toList _ (HG4.out w4 (Below.refl _ _)) Tryz.underlying24 rfl (by kernel_rfl) ?_)
  | fail)
 refine (pCompile_any p pA pc w4 (HP.out w4 HBw.out) hpc).mono ?_
 rintro e5 w5 ⟨hb5,wA,wc,rfl,hw5⟩
 rw [HQ.out] at hw5 ⊢
 have HB5:=hid (HBw.out.trans (hb5.mono HBw.out.size))
 have HG5:=hid (fun wq (hq:Below w5.heap.size w5 wq)=>HG4.out wq (hb5.trans (hq.mono hb5.size)))
 have HW5:=hid hw5
 clear hb5 HBw HG4 hw5 HQ
 go_wp2_with (first
  | ((with_reducible show wpList _ _ _ (Oper.mk _ (Op.load 24 _) _ _ _ _::_) _ _);refine wpList_load_g (by rfl) 24 _ rfl b 0 rfl (p.cs pA pc).toList _ (HG5.out w5 (Below.refl _ _)) Tryz.underlying24 rfl (by kernel_rfl) ?_)
  | fail)
 refine (loCert_any p pA pc (wayL p) wA wc w5 (HP.out w5 HB5.out) hpc HCk.out HW5.out rfl).mono ?_
 rintro e6 w6 ⟨cA,cc,rfl,ho6,hb6⟩
 have HB6:=hid (HB5.out.trans (hb6.mono HB5.out.size))
 have HG6:=hid (fun wq (hq:Below w6.heap.size w6 wq)=>HG5.out wq (hb6.trans (hq.mono hb6.size)))
 have HC6:=hid (ho6.rd layLoss)
 clear hb6 ho6 HB5 HG5 HW5
 go_wp2_with (first
  | ((with_reducible show wpList _ _ _ (Oper.mk _ (Op.load 24 _) _ _ _ _::_) _ _);refine wpList_load_g (by rfl) 24 _ rfl b 0 rfl (p.cs pA pc).toList _ (HG6.out w6 (Below.refl _ _)) Tryz.underlying24 rfl (by kernel_rfl) ?_)
  | fail)
 refine (trip_any2 p pA pc E A c w6 (HV.out w6 HB6.out) (HP.out w6 HB6.out) hpc (HR.out w6 HB6.out) (HE.out w6 HB6.out) (by omega)).mono ?_
 rintro e7 w7 ⟨A7,c7,xs,D7,d7,rfl,hx7,hr7,hk7,hl7,hb7,hcap7⟩
 have HB7:=hid (HB6.out.trans (hb7.mono HB6.out.size))
 have HG7:=hid (fun wq (hq:Below w7.heap.size w7 wq)=>HG6.out wq (hb7.trans (hq.mono hb7.size)))
 have HC7:=hid (HC6.out.now hb7)
 have HX7:=hid hx7
 have HR7:=hid hr7
 have HK7:=hid hk7
 have HL7:=hid hl7
 clear hb7 HB6 HG6 HC6 hx7 hr7 hk7 hl7
 obtain ⟨r,hr⟩:∃ r,r=tripP p (evsL E):=⟨_,rfl⟩
 rw [← hr] at HX7 HL7 ⊢
 have HRq:=hid hr
 clear hr
 by_cases h0:r.1=0
 rotate_left
 ·have hq0:(r.1 != 0)=true:=by simp [h0]
  clear h0
  go_wp2_with fail
  go_ret
  exact ⟨rfl,HB7.out⟩
 have hq0:(r.1 != 0)=false:=by simp [h0]
 have HP0:Hid ((tripP p (evsL E)).1=0):=hid (by rw [← HRq.out];exact h0)
 clear h0
 obtain ⟨k,hk⟩:∃ k:Nat,(k:Int)=n % ((E.length:Int)+1):=⟨(n % ((E.length:Int)+1)).toNat,by have:=Int.emod_nonneg n (b:=(E.length:Int)+1) (by omega);omega⟩
 have hkl:k≤E.length:=by have:=Int.emod_lt_of_pos n (b:=(E.length:Int)+1) (by omega);omega
 have HKn:=hid hk
 clear hk
 have HTk:=hid (trip_take HCk.out HP0.out (k:=k) (by simpa using hkl))
 have hwn:IntKind.i64.wrap n=n:=by rw [IntKind.wrap_i64];omega
 go_upto_region 11 with fail
 go_upto_region 12 with fail
 rw [← HKn.out]
 clear hwn
 have hkc:k≤c:=by omega
 have HT2:Hid (∀ wq,Below w7.heap.size w7 wq→Calls Tryz.prog 24 #[p.v pA pc,.slice A k c] wq (TripOut (tripP p ((evsL E).take k)) wq)):=hid (fun wq hq=>by
  have hb:=HB7.out.trans (hq.mono HB7.out.size)
  have:=trip_any p pA pc (E.take k) A c wq (HV.out wq hb) (HP.out wq hb) hpc ((HR.out wq hb).takeI k) (fun x hx=>HE.out wq hb x (List.mem_of_mem_take hx)) (by rw [List.length_take];omega)
  rw [List.length_take,Nat.min_eq_left hkl,evsL_take] at this
  exact this)
 refine wp_region_J (S:=fun w'=>Below w7.heap.size w7 w') (fun _=>false) (by kernel_rfl) ((Below.refl _ _).drew) (fun hHeld=>?_)
 refine' wpAnyJ_take (i:=0) rfl (by kernel_rfl) (by kernel_rfl) (by kernel_rfl) (by kernel_rfl) (fun _ _ _ h=>h) (yieldsIf_load_mid (by rfl) _ _ rfl b 0 rfl _ _ HG7.out Tryz.underlying24 rfl (by kernel_rfl)) hHeld ?_
 try simp only [List.getElem_toArray,List.getElem_cons_zero,List.getElem_cons_succ,Act.put,List.setIfInBounds_toArray,List.set_cons_zero,List.set_cons_succ]
 refine wpAnyJ_pure (i:=1) (v:=?_) rfl (by kernel_rfl) (by kernel_rfl) (by kernel_rfl) (fun _ _ _ h=>h) (Or.inl ⟨by rfl,?_⟩) ?_
 rotate_left
 ·intro wq _
  go_simp
  try with_reducible rfl
 simp only [Act.put,sA,sB,sC]
 refine wpAnyJ_pure (i:=2) (v:=?_) rfl (by kernel_rfl) (by kernel_rfl) (by kernel_rfl) (fun _ _ _ h=>h) (Or.inl ⟨by rfl,?_⟩) ?_
 rotate_left
 ·intro wq _
  go_simp
  try with_reducible rfl
 simp only [Act.put,sA,sB,sC]
 try simp only [List.getElem_toArray,List.getElem_cons_zero,List.getElem_cons_succ,Act.put,List.setIfInBounds_toArray,List.set_cons_zero,List.set_cons_succ]
 refine wpAnyJ_pure (i:=3) (v:=?_) rfl (by kernel_rfl) (by kernel_rfl) (by kernel_rfl) (fun _ _ _ h=>h) (Or.inl ⟨by rfl,?_⟩) ?_
 rotate_left
 ·intro wq _
  go_simp
  try with_reducible rfl
 simp only [Act.put,sA,sB,sC]
 try simp only [List.getElem_toArray,List.getElem_cons_zero,List.getElem_cons_succ,Act.put,List.setIfInBounds_toArray,List.set_cons_zero,List.set_cons_succ]
 refine wpAnyJ_one (i:=4) rfl (by kernel_rfl) (fun K hK=>?_)
 go_simp
 refine (HT2.out w7.drew (Below.refl _ _).drew).mono ?_
 rintro e8 w8 ⟨A8,c8,ys,D8,d8,rfl,hx8,hr8,hk8,hl8,hb8⟩
 go_wp2_with fail
 refine hK.out _ _ (fun _ h=>h.trans (hb8.mono h.size)) ?_
 clear hK K
 try simp only [List.getElem_toArray,List.getElem_cons_zero,List.getElem_cons_succ,Act.put,List.setIfInBounds_toArray,List.set_cons_zero,List.set_cons_succ]
 refine wpAnyJ_pure (i:=5) (v:=?_) rfl (by kernel_rfl) (by kernel_rfl) (by kernel_rfl) (fun _ _ _ h=>h) (Or.inl ⟨by rfl,?_⟩) ?_
 rotate_left
 ·intro wq _
  go_simp
  try with_reducible rfl
 simp only [Act.put,sA,sB,sC]
 try simp only [List.getElem_toArray,List.getElem_cons_zero,List.getElem_cons_succ,Act.put,List.setIfInBounds_toArray,List.set_cons_zero,List.set_cons_succ]
 refine wpAnyJ_pure (i:=6) (v:=?_) rfl (by kernel_rfl) (by kernel_rfl) (by kernel_rfl) (fun _ _ _ h=>h) (Or.inl ⟨by rfl,?_⟩) ?_
 rotate_left
 ·intro wq _
  go_simp
  try with_reducible rfl
 simp only [Act.put,sA,sB,sC]
 refine wpAnyJ_pure (i:=7) (v:=?_) rfl (by kernel_rfl) (by kernel_rfl) (by kernel_rfl) (fun _ _ _ h=>h) (Or.inl ⟨by rfl,?_⟩) ?_
 rotate_left
 ·intro wq _
  go_simp
  try with_reducible rfl
 simp only [Act.put,sA,sB,sC]
 refine wpAnyJ_pure (i:=8) (v:=?_) rfl (by kernel_rfl) (by kernel_rfl) (by kernel_rfl) (fun _ _ _ h=>h) (Or.inl ⟨by rfl,?_⟩) ?_
 rotate_left
 ·intro wq _
  go_simp
  try with_reducible rfl
 simp only [Act.put,sA,sB,sC]
 try simp only [List.getElem_toArray,List.getElem_cons_zero,List.getElem_cons_succ,Act.put,List.setIfInBounds_toArray,List.set_cons_zero,List.set_cons_succ]
 refine wpAnyJ_pure (i:=9) (v:=?_) rfl (by kernel_rfl) (by kernel_rfl) (by kernel_rfl) (fun _ _ _ h=>h) (Or.inl ⟨by rfl,?_⟩) ?_
 rotate_left
 ·intro wq _
  go_simp
  try with_reducible rfl
 simp only [Act.put,sA,sB,sC]
 refine wpAnyJ_pure (i:=10) (v:=?_) rfl (by kernel_rfl) (by kernel_rfl) (by kernel_rfl) (fun _ _ _ h=>h) (Or.inl ⟨by rfl,?_⟩) ?_
 rotate_left
 ·intro wq _
  go_simp
  try with_reducible rfl
 simp only [Act.put,sA,sB,sC]
 refine wpAnyJ_pure (i:=11) (v:=?_) rfl (by kernel_rfl) (by kernel_rfl) (by kernel_rfl) (fun _ _ _ h=>h) (Or.inl ⟨by rfl,?_⟩) ?_
 rotate_left
 ·intro wq _
  go_simp
  try with_reducible rfl
 simp only [Act.put,sA,sB,sC]
 refine wpAnyJ_done (by kernel_rfl) ?_ _
 try simp only [List.getElem_toArray,List.getElem_cons_zero,List.getElem_cons_succ,Act.put,List.setIfInBounds_toArray,List.set_cons_zero,List.set_cons_succ]
 have HB78:=hid ((Below.refl w7.heap.size w7).drew.trans hb8)
 have HB8:=hid (HB7.out.trans (HB78.out.mono HB7.out.size))
 have HX8:Hid (evsL ys=(evsL xs).take k):=hid (by rw [hx8,HTk.out.2.1,HX7.out,← HRq.out])
 have HR8:=hid hr8
 have HK8:=hid hk8
 have HL8:=hid hl8
 have HL78:=hid (HL7.out.now HB78.out)
 have HC8:=hid (HC7.out.now HB78.out)
 have HR78:=hid (HR7.out.now HB78.out)
 have HK78:=hid (fun x hx=>(HK7.out x hx).now HB78.out)
 clear hb8 hx8 hr8 hk8 hl8 hHeld HT2 HC7 HR7 HK7 HL7
 have hq8:((tripP p ((evsL E).take k)).1 != 0)=false:=by rw [HTk.out.1];rfl
 have HWi1:Hid (withinP r.2.2 (certL (wayL p))=true):=hid (by rw [HRq.out];exact within_of HTk.out.2.2.2)
 have HWi2:Hid (withinP (tripP p ((evsL E).take k)).2.2 r.2.2=true):=hid (by rw [HRq.out];exact within_of HTk.out.2.2.1)
 have HLe:Hid (xs.length=E.length∧ys.length=k):=hid (by
  have h1:=(trip_names HCk.out HP0.out).1
  rw [← HRq.out,← HX7.out] at h1
  have h2:=congrArg List.length HX8.out
  simp at h1 h2
  omega)
 have HLs:Hid (r.2.2.length≤9∧(tripP p ((evsL E).take k)).2.2.length≤9∧(certL (wayL p)).length≤9):=hid (by
  have h1:=HTk.out.2.2.2.length_le
  have h2:=HTk.out.2.2.1.length_le
  have h3:(certL (wayL p)).length≤9:=certGo_len (wayL p) 0
  rw [← HRq.out] at h1 h2
  omega)
 have HHd:Hid (∀ (m:Nat) (hm:m<E.length) (hx:m<xs.length),xs[m].ev.author=E[m].ev.author∧xs[m].ev.seq=E[m].ev.seq∧xs[m].ev.causes=E[m].ev.causes∧xs[m].ev.group=E[m].ev.group∧xs[m].ev.step=E[m].ev.step):=hid (fun m hm hx=>by
  obtain ⟨x,h1,h2⟩:=trip_head HCk.out HP0.out m (by simpa using hm)
  rw [← HRq.out,← HX7.out] at h1
  rw [ev_at hm] at h2
  simp only [evsL,List.getElem?_map,List.getElem?_eq_getElem hx,Option.map_some,Option.some.injEq] at h1
  rw [h1]
  exact h2)
 have e1:((xs.length:Int) != (E.length:Int))=false:=by have:=HLe.out.1;simp [this]
 have e2:((ys.length:Int) != (k:Int))=false:=by have:=HLe.out.2;simp [this]
 generalize tripP p ((evsL E).take k)=r2 at *
 generalize certL (wayL p)=LL at *
 go_wp2_with fail
 refine (lWithin_any r.2.2 LL D7 cA d7 cc w8 HL78.out HC8.out (by have:=HLs.out;omega) (by have:=HLs.out;omega)).mono ?_
 rintro e9 w9 ⟨rfl,hb9⟩
 have HB89:=hid hb9
 clear hb9
 rw [HWi1.out]
 go_wp2_with fail
 refine (lWithin_any r2.2.2 r.2.2 D8 D7 d8 d7 w9 (HL8.out.now HB89.out) (HL78.out.now HB89.out) (by have:=HLs.out;omega) (by have:=HLs.out;omega)).mono ?_
 rintro e10 w10 ⟨rfl,hb10⟩
 have HB10:=hid (HB89.out.trans (hb10.mono HB89.out.size))
 clear hb10
 rw [HWi2.out]
 go_wp2_with fail
 go_loopw [19,20,21] (fun i _ _ wx=>∃ m:Nat,m≤E.length∧i=.int .i64 m∧Below w8.heap.size w8 wx) (fun i _ _ _=>E.length - (intOf i).toNat)
 case atStart=>exact ⟨0,Nat.zero_le _,rfl,HB10.out⟩
 case round =>
  obtain ⟨m,hm,rfl,hbm⟩:=hrel
  have HBm:=hid hbm
  clear hbm
  by_cases hlt:m<E.length
  ·have hlx:m<xs.length:=by have:=HLe.out.1;omega
   have HBmw:=hid (HB8.out.trans (HBm.out.mono HB8.out.size))
   obtain ⟨g1,o1,rfl,hg1,hc1⟩:=(HR.out wr HBmw.out).at_ hlt
   obtain ⟨g2,o2,rfl,hg2,hc2⟩:=(HR78.out.now HBm.out).at_ hlx
   have HX1:=hid (HE.out wr HBmw.out _ (List.getElem_mem hlt))
   have HX2:=hid ((HK78.out _ (List.getElem_mem hlx)).now HBm.out)
   have HRa:Hid (wr.rangeAt g1 (o1+m * 12) E[m].cs):=hid (fun j v hj=>hc1 j v hj)
   have HRb:Hid (wr.rangeAt g2 (o2+m * 12) xs[m].cs):=hid (fun j v hj=>hc2 j v hj)
   have hh:=HHd.out m hlt hlx
   clear hc1 hc2
   generalize E[m]=a at *
   generalize xs[m]=x at *
   have HH:=hid hh
   clear hh
   go_upto_region 19 with (first
    | ((with_reducible show wpList _ _ _ (Oper.mk _ (Op.load 40 _) _ _ _ _::_) _ _);refine wpList_load_g rfl 40 _ rfl g1 (o1+m * 12) rfl (a.ev.cs a.cA a.cc a.fA a.fc).toList _ HRa.out Tryz.underlying40 rfl (by kernel_rfl) ?_)
    | fail)
   change Code.wp _ _ _ _ (wr.alloc (.cells (a.ev.cs a.cA a.cc a.fA a.fc) 40))
   have hb1:Below wr.heap.size wr (wr.alloc (.cells (a.ev.cs a.cA a.cc a.fA a.fc) 40)):=(Below.refl _ _).alloc (Nat.le_refl _) _
   have hx1:(wr.alloc (.cells (a.ev.cs a.cA a.cc a.fA a.fc) 40)).heap[wr.heap.size]?=some (.cells (a.ev.cs a.cA a.cc a.fA a.fc) 40 (0,0)):=(MapKept.heap_alloc wr _).1
   have HB1:=hid hb1
   have HBox1:=hid hx1
   have HRb1:Hid ((wr.alloc (.cells (a.ev.cs a.cA a.cc a.fA a.fc) 40)).rangeAt g2 (o2+m * 12) x.cs):=hid (fun j v hj=>(hb1.cell (p:=⟨g2,o2+m * 12+j,none⟩) hg2).trans (HRb.out j v hj))
   clear hb1 hx1 HRa HRb
   obtain ⟨b1,hq1⟩:∃ y,y=wr.heap.size:=⟨_,rfl⟩
   rw [← hq1] at HBox1 ⊢
   clear hq1
   obtain ⟨wu,hwu⟩:∃ y,y=wr.alloc (.cells (a.ev.cs a.cA a.cc a.fA a.fc) 40):=⟨_,rfl⟩
   rw [← hwu] at HB1 HBox1 HRb1 ⊢
   clear hwu
   go_upto_region 20 with (first
    | ((with_reducible show wpList _ _ _ (Oper.mk _ (Op.load 40 _) _ _ _ _::_) _ _);refine wpList_load_g rfl 40 _ rfl g2 (o2+m * 12) rfl (x.ev.cs x.cA x.cc x.fA x.fc).toList _ HRb1.out Tryz.underlying40 rfl (by kernel_rfl) ?_)
    | fail)
   change Code.wp _ _ _ _ (wu.alloc (.cells (x.ev.cs x.cA x.cc x.fA x.fc) 40))
   have hb2:Below wu.heap.size wu (wu.alloc (.cells (x.ev.cs x.cA x.cc x.fA x.fc) 40)):=(Below.refl _ _).alloc (Nat.le_refl _) _
   have hx2:(wu.alloc (.cells (x.ev.cs x.cA x.cc x.fA x.fc) 40)).heap[wu.heap.size]?=some (.cells (x.ev.cs x.cA x.cc x.fA x.fc) 40 (0,0)):=(MapKept.heap_alloc wu _).1
   have HB2:=hid (HB1.out.trans (hb2.mono HB1.out.size))
   have HBox2:=hid hx2
   have HBox1:=hid ((hb2.block b1 (box_lt HBox1.out)).trans HBox1.out)
   clear hb2 hx2 HRb1 HB1
   obtain ⟨b2,hq2⟩:∃ y,y=wu.heap.size:=⟨_,rfl⟩
   rw [← hq2] at HBox2 ⊢
   clear hq2
   obtain ⟨wv,hwv⟩:∃ y,y=wu.alloc (.cells (x.ev.cs x.cA x.cc x.fA x.fc) 40):=⟨_,rfl⟩
   rw [← hwv] at HB2 HBox1 HBox2 ⊢
   clear hwv
   have y0:=box_cell HBox1.out 0 (.int .i64 a.ev.author) rfl
   have y1:=box_cell HBox1.out 1 (.int .i64 a.ev.seq) rfl
   have y2:=box_cell HBox1.out 2 (.slice a.cA a.ev.causes.length a.cc) rfl
   have z0:=box_cell HBox2.out 0 (.int .i64 x.ev.author) rfl
   have z1:=box_cell HBox2.out 1 (.int .i64 x.ev.seq) rfl
   have z2:=box_cell HBox2.out 2 (.slice x.cA x.ev.causes.length x.cc) rfl
   have HIn:Hid (Calls Tryz.prog 31 #[.slice a.cA a.ev.causes.length a.cc,.slice x.cA a.ev.causes.length x.cc] wv fun e w'=>e=.returned (.bool true)∧Below wv.heap.size wv w'):=hid (by
    have h3:=HH.out.2.2.1
    have:=ints16_any a.ev.causes x.ev.causes a.cA x.cA a.cc x.cc wv (HX1.out.now HB2.out).ok.ca (HX2.out.now HB2.out).ok.ca HX1.out.ok.cl HX2.out.ok.cl
    rw [h3] at this
    simpa using this)
   rw [HH.out.1] at z0
   rw [HH.out.2.1] at z1
   rw [HH.out.2.2.1] at z2
   go_wp2_with fail
   refine HIn.out.mono ?_
   rintro e12 w12 ⟨rfl,hb12⟩
   have HC1:=hid ((hb12.block b1 (box_lt HBox1.out)).trans HBox1.out)
   have HC2:=hid ((hb12.block b2 (box_lt HBox2.out)).trans HBox2.out)
   have y4:=box_cell HC1.out 4 (.int .i64 a.ev.group) rfl
   have y11:=box_cell HC1.out 11 (.int .i64 a.ev.step) rfl
   have z4:=box_cell HC2.out 4 (.int .i64 x.ev.group) rfl
   have z11:=box_cell HC2.out 11 (.int .i64 x.ev.step) rfl
   rw [HH.out.2.2.2.1] at z4
   rw [HH.out.2.2.2.2] at z11
   clear y0 y1 y2 z0 z1 z2
   go_wp2_with fail
   go_roundw
   case rel=>exact ⟨m+1,by omega,by go_num,HBm.out.trans ((HB2.out.trans (hb12.mono HB2.out.size)).mono HBm.out.size)⟩
   case measure=>simp [intOf];omega
  ·have hme:m=E.length:=by omega
   have d9:decide (m<E.length)=false:=decide_eq_false (by omega)
   clear hme hlt
   have HBw:=hid (HB8.out.trans (HBm.out.mono HB8.out.size))
   have hkc7:k≤c7:=by have:=HLe.out.1;omega
   have HS:Hid (Calls Tryz.prog 20 #[.slice A8 ys.length c8,.slice A7 k c7] wr fun e w'=>e=.returned (.bool true)∧Below wr.heap.size wr w'):=hid (by
    have hxk:(xs.take k).length=k:=by rw [List.length_take];have:=HLe.out.1;omega
    have:=rSameL_any ys (xs.take k) A8 A7 c8 c7 wr (HR8.out.now HBm.out) ((HR78.out.now HBm.out).takeI k) (fun x hx=>(HK8.out x hx).now HBm.out) (fun x hx=>(HK78.out x (List.mem_of_mem_take hx)).now HBm.out) (by have:=HLe.out;omega) (by rw [hxk];omega)
    rw [hxk] at this
    refine this.mono ?_
    rintro e w' ⟨v,rfl,hv,hb⟩
    rw [hv.2 (by rw [evsL_take];exact HX8.out)]
    exact ⟨rfl,hb⟩)
   clear e1 e2
   go_wp2_with fail
   refine HS.out.mono ?_
   rintro e11 w11 ⟨rfl,hb11⟩
   go_wp2_with fail
   go_ret
   exact ⟨rfl,HBw.out.trans (hb11.mono HBw.out.size)⟩
end Go.Proofs.YtlnnjdibkbabiaaGreatDoor
