/- Contracts and plain laws, joined: StRd. -/
import Derived.Test.YthlpehhlhebhbaaGreatDoorQbi
import Derived.Laws.EntriesVeiled
/- Contract of state.Read (layer 46;written by genrd.py). -/
set_option linter.unusedSimpArgs false
set_option linter.unusedVariables false
namespace Go.Proofs.YthlpehhlhebhbaaGreatDoor
open Lib (hid)
open Go.RowKit
set_option maxRecDepth 100000
theorem StBox.set' {b:Nat} {s:Stt} {a:StAd} {w:World} (h:StBox b s a w) (b2 j:Nat) (v:Value) (hne:b≠b2):StBox b s a (w.setCell ⟨b2,j,none⟩ v):=(heap_setCell_other w ⟨b2,j,none⟩ b v hne).trans h
theorem i64_of {n:Int} (h:InInt n):i64ok n:=by
 unfold InInt at h
 unfold i64ok
 simp [Lit.wf,IntKind.min,IntKind.max,IntKind.bits,IntKind.signed]
 omega
theorem rawP_facts (t:List UInt8) (ht:t.length≤1000000):NumsP (rawP ⟨t,false⟩).1∧∀ x∈(rawP ⟨t,false⟩).1.pairs.map prD,x.wf:=by
 have hs:(⟨t,false⟩:RS).rest.length≤1000000:=ht
 unfold rawP
 generalize (⟨t,false⟩:RS)=s at hs
 have k0:(rdN s).2.rest.length≤1000000:=Nat.le_trans (rNum_rest 59 0 s) hs
 simp only
 generalize (rdN s).2=s0 at *
 have e1:=rdLs_len oneE_eats s0
 generalize rdLs oneE s0=r1 at *
 obtain ⟨n1,s1⟩:=r1
 simp only at e1  ⊢
 have e2:=rdLs_len one4_eats s1
 generalize rdLs one4 s1=r2 at *
 obtain ⟨n2,s2⟩:=r2
 simp only at e2  ⊢
 have e3:=rdLs_len one3_eats s2
 generalize rdLs one3 s2=r3 at *
 obtain ⟨n3,s3⟩:=r3
 simp only at e3  ⊢
 have e4:=rdLs_len one2_eats s3
 generalize rdLs one2 s3=r4 at *
 obtain ⟨n4,s4⟩:=r4
 simp only at e4  ⊢
 have e5:=rdLs_len one4_eats s4
 have hpa:=rdLs_all one4 (fun x=>InInt x.a∧InInt x.b∧InInt x.c∧InInt x.d) (fun s=>by simp only [one4];exact ⟨rNum_in _ _ _,rNum_in _ _ _,rNum_in _ _ _,rNum_in _ _ _⟩) s4
 generalize rdLs one4 s4=r5 at *
 obtain ⟨n5,s5⟩:=r5
 simp only at e5 hpa ⊢
 have e6:=rdLs_len one3_eats s5
 generalize rdLs one3 s5=r6 at *
 obtain ⟨n6,s6⟩:=r6
 simp only at e6  ⊢
 have e7:=rdLs_len rdL5_eats s6
 generalize rdLs (rdLs one5) s6=r7 at *
 obtain ⟨n7,s7⟩:=r7
 simp only at e7  ⊢
 have e8:=rdLs_len oneB_eats s7
 generalize rdLs oneB s7=r8 at *
 obtain ⟨n8,s8⟩:=r8
 simp only at e8  ⊢
 have e9:=rdLs_len oneH_eats s8
 have hho:=rdLs_all oneH (fun x=>x.a≤9223372036854775807∧x.b≤9223372036854775807) (fun s=>by simp only [oneH];exact ⟨(rNum_in _ _ _).2,(rNum_in _ _ _).2⟩) s8
 generalize rdLs oneH s8=r9 at *
 obtain ⟨n9,s9⟩:=r9
 simp only at e9 hho ⊢
 have e10:=rdLs_len one4_eats s9
 generalize rdLs one4 s9=r10 at *
 obtain ⟨n10,s10⟩:=r10
 simp only at e10  ⊢
 have e11:=rdLs_len one3_eats s10
 have hse:=rdLs_all one3 (fun x=>x.c≤9223372036854775807) (fun s=>by simp only [one3];exact (rNum_in _ _ _).2) s10
 generalize rdLs one3 s10=r11 at *
 obtain ⟨n11,s11⟩:=r11
 simp only at e11 hse ⊢
 have e12:=rdLs_len one2_eats s11
 generalize rdLs one2 s11=r12 at *
 obtain ⟨n12,s12⟩:=r12
 simp only at e12  ⊢
 refine ⟨⟨by simp only;omega,hse,hho,by simp only;omega,by simp only;omega,by simp only;omega,by simp only;omega,by simp only;omega,by simp only;omega,by simp only;omega,by simp only;omega,by simp only;omega,by simp only;omega,by simp only;omega⟩,fun x hx=>?_⟩
 obtain ⟨y,hy,rfl⟩:=List.mem_map.1 hx
 have h:=hpa y hy
 exact ⟨i64_of h.1,i64_of h.2.1,i64_of h.2.2.1,i64_of h.2.2.2⟩
theorem RdSt.lower {w:World} {lo lo':Nat} {s:Stt} {a:StAd} (h:RdSt w lo s a) (hl:lo'≤lo):RdSt w lo' s a :=
 ⟨⟨h.ke.rd,h.ke.len,h.ke.cap,fun i hi=>Nat.le_trans hl (h.ke.lo i hi)⟩,⟨h.kq.rd,h.kq.len,h.kq.cap,fun i hi=>Nat.le_trans hl (h.kq.lo i hi)⟩,⟨h.ks.rd,h.ks.len,h.ks.cap,fun i hi=>Nat.le_trans hl (h.ks.lo i hi)⟩,⟨h.kr.rd,h.kr.len,h.kr.cap,fun i hi=>Nat.le_trans hl (h.kr.lo i hi)⟩,⟨h.kp.rd,h.kp.len,h.kp.cap,fun i hi=>Nat.le_trans hl (h.kp.lo i hi)⟩,⟨h.kf.rd,h.kf.len,h.kf.cap,fun i hi=>Nat.le_trans hl (h.kf.lo i hi)⟩,⟨h.kn.rd,h.kn.len,h.kn.cap,fun i hi=>Nat.le_trans hl (h.kn.lo i hi)⟩,⟨h.kb.rd,h.kb.len,h.kb.cap,fun i hi=>Nat.le_trans hl (h.kb.lo i hi)⟩,⟨h.kh.rd,h.kh.len,h.kh.cap,fun i hi=>Nat.le_trans hl (h.kh.lo i hi)⟩,⟨h.ko.rd,h.ko.len,h.ko.cap,fun i hi=>Nat.le_trans hl (h.ko.lo i hi)⟩,⟨h.kx.rd,h.kx.len,h.kx.cap,fun i hi=>Nat.le_trans hl (h.kx.lo i hi)⟩,⟨h.kd.rd,h.kd.len,h.kd.cap,fun i hi=>Nat.le_trans hl (h.kd.lo i hi)⟩,fun x hx=>⟨(h.evs x hx).1,fun i hi=>Nat.le_trans hl ((h.evs x hx).2 i hi)⟩,fun x hx=>⟨(h.nos x hx).1,fun i hi=>Nat.le_trans hl ((h.nos x hx).2 i hi)⟩⟩
def StReadOut (l:List UInt8) (w:World) (en:Ending) (w':World):Prop :=
 ∃ (s:Stt) (a:StAd),en=.returned (.tuple #[s.v a,.int .i64 (readP l).2])∧s.pl=(readP l).1∧RdSt w' w.heap.size s a∧Below w.heap.size w w'
set_option maxHeartbeats 16000000 in
theorem stRead_any {B:Nat} (l:List UInt8) (w:World) (hV:Vs B w) (hl:l.length≤1000000):Calls Tryz.prog 10 #[.string (bs l)] w (StReadOut l w):=by
 have HRaw:Hid (rawP ⟨l,false⟩=(⟨(rNum 59 0 ⟨l,false⟩).1,(rdLs oneE (rNum 59 0 ⟨l,false⟩).2).1,(rdLs one4 (rdLs oneE (rNum 59 0 ⟨l,false⟩).2).2).1,(rdLs one3 (rdLs one4 (rdLs oneE (rNum 59 0 ⟨l,false⟩).2).2).2).1,(rdLs one2 (rdLs one3 (rdLs one4 (rdLs oneE (rNum 59 0 ⟨l,false⟩).2).2).2).2).1,(rdLs one4 (rdLs one2 (rdLs one3 (rdLs one4 (rdLs oneE (rNum 59 0 ⟨l,false⟩).2).2).2).2).2).1,(rdLs one3 (rdLs one4 (rdLs one2 (rdLs one3 (rdLs one4 (rdLs oneE (rNum 59 0 ⟨l,false⟩).2).2).2).2).2).2).1,(rdLs (rdLs one5) (rdLs one3 (rdLs one4 (rdLs one2 (rdLs one3 (rdLs one4 (rdLs oneE (rNum 59 0 ⟨l,false⟩).2).2).2).2).2).2).2).1,(rdLs oneB (rdLs (rdLs one5) (rdLs one3 (rdLs one4 (rdLs one2 (rdLs one3 (rdLs one4 (rdLs oneE (rNum 59 0 ⟨l,false⟩).2).2).2).2).2).2).2).2).1,(rdLs oneH (rdLs oneB (rdLs (rdLs one5) (rdLs one3 (rdLs one4 (rdLs one2 (rdLs one3 (rdLs one4 (rdLs oneE (rNum 59 0 ⟨l,false⟩).2).2).2).2).2).2).2).2).2).1,(rdLs one4 (rdLs oneH (rdLs oneB (rdLs (rdLs one5) (rdLs one3 (rdLs one4 (rdLs one2 (rdLs one3 (rdLs one4 (rdLs oneE (rNum 59 0 ⟨l,false⟩).2).2).2).2).2).2).2).2).2).2).1,(rdLs one3 (rdLs one4 (rdLs oneH (rdLs oneB (rdLs (rdLs one5) (rdLs one3 (rdLs one4 (rdLs one2 (rdLs one3 (rdLs one4 (rdLs oneE (rNum 59 0 ⟨l,false⟩).2).2).2).2).2).2).2).2).2).2).2).1,(rdLs one2 (rdLs one3 (rdLs one4 (rdLs oneH (rdLs oneB (rdLs (rdLs one5) (rdLs one3 (rdLs one4 (rdLs one2 (rdLs one3 (rdLs one4 (rdLs oneE (rNum 59 0 ⟨l,false⟩).2).2).2).2).2).2).2).2).2).2).2).2).1⟩,(rdLs one2 (rdLs one3 (rdLs one4 (rdLs oneH (rdLs oneB (rdLs (rdLs one5) (rdLs one3 (rdLs one4 (rdLs one2 (rdLs one3 (rdLs one4 (rdLs oneE (rNum 59 0 ⟨l,false⟩).2).2).2).2).2).2).2).2).2).2).2).2).2)):=hid (by simp only [rawP])
 have HRd:Hid (readP l=if rDone (rawP ⟨l,false⟩).2=true∧l≠[]∧textP (rawP ⟨l,false⟩).1=l then ((rawP ⟨l,false⟩).1,0) else (zStP,2)):=hid (by rw [readP])
 have HFa:=hid (rawP_facts l hl)
 have HL:=hid (show (⟨l,false⟩:RS).rest.length≤1000000000000 from Nat.le_trans hl (by omega))
 have hw0:Below w.heap.size w (w.alloc (.cells ((sttZ 0).arr adZ) 34)):=by repeat (first | with_reducible exact Below.refl _ _ | with_reducible assumption | with_reducible refine Below.drew ?_ | with_reducible refine Below.alloc ?_ (by first | omega | (simp;done) | (simp;omega)) _)
 have HW0:=hid hw0
 have HO0:Hid (StBox w.heap.size (sttZ 0) adZ (w.alloc (.cells ((sttZ 0).arr adZ) 34))):=hid (StBox.zero w)
 have HS0:Hid ((w.alloc (.cells ((sttZ 0).arr adZ) 34)).heap.size=w.heap.size+1):=hid (by simp)
 have HV0:=hid (hV.now hw0)
 have HBw:=hid hV.le
 clear hw0 hV hl
 go_enter Tryz.func10,Tryz.ntmps10
 go_upto_region 1 with fail
 change Code.wp _ _ _ _ (w.alloc (.cells ((sttZ 0).arr adZ) 34))
 generalize w.alloc (.cells ((sttZ 0).arr adZ) 34)=wa at *
 obtain ⟨bO,hbO⟩:∃ bO,bO=w.heap.size:=⟨_,rfl⟩
 rw [← hbO] at HO0 HS0 ⊢
 have HbO:=hid hbO
 clear hbO
 go_wp2_with fail
 refine (open_any l wa).mono ?_
 rintro en wb ⟨rfl,hA,hb⟩
 obtain ⟨b,hbb⟩:∃ b,b=wa.heap.size:=⟨_,rfl⟩
 rw [← hbb] at hA ⊢
 have HA:=hid hA
 have HB:=hid (HW0.out.trans (hb.mono HW0.out.size))
 have HO:=hid (HO0.out.on (B:=wa.heap.size) hb (by have:=HS0.out;omega))
 have HV:=hid (HV0.out.now hb)
 have Hlb:Hid (bO<b∧b<wb.heap.size∧w.heap.size≤bO):=hid ⟨by have:=HS0.out;omega,hA.lt,by have:=HbO.out;omega⟩
 clear hbb hA hb HW0 HO0 HS0 HV0
 have hX3:∀ wx:World,wx=((wb.alloc (.cells #[.pointer (some ⟨b,0,none⟩)] 71)).alloc (.cells #[.func (.func 28) #[] #[.pointer (some ⟨wb.heap.size,0,none⟩)]] 75)).alloc (.cells ((sttZ 0).arr adZ) 34) →
   Below wb.heap.size wb wx∧wx.cell? ⟨wb.heap.size,0,none⟩=some (.pointer (some ⟨b,0,none⟩))∧wx.cell? ⟨wb.heap.size+1,0,none⟩=some (.func (.func 28) #[] #[.pointer (some ⟨wb.heap.size,0,none⟩)])∧StBox (wb.heap.size+1+1) (sttZ 0) adZ wx∧wx.heap.size=wb.heap.size+3:=by
  rintro wx rfl
  refine ⟨(((Below.refl _ _).alloc (Nat.le_refl _) _).alloc (by simp) _).alloc (by first | (simp;done) | (simp;omega)) _,?_,?_,?_,by simp⟩
  ·exact (cell_old _ _ _ _ (by simp;omega)).trans ((cell_old _ _ _ _ (by simp)).trans (cell_new1 wb _ _ _ rfl))
  ·exact (cell_old _ _ _ _ (by simp)).trans (cell_new1 (wb.alloc (.cells #[.pointer (some ⟨b,0,none⟩)] 71)) _ _ _ (by simp))
  have:=(MapKept.heap_alloc ((wb.alloc (.cells #[.pointer (some ⟨b,0,none⟩)] 71)).alloc (.cells #[.func (.func 28) #[] #[.pointer (some ⟨wb.heap.size,0,none⟩)]] 75)) (.cells ((sttZ 0).arr adZ) 34)).1
  simpa [StBox] using this
 go_upto_region 5 with fail
 change Code.wp _ _ _ _ (((wb.alloc (.cells #[.pointer (some ⟨b,0,none⟩)] 71)).alloc (.cells #[.func (.func 28) #[] #[.pointer (some ⟨wb.heap.size,0,none⟩)]] 75)).alloc (.cells ((sttZ 0).arr adZ) 34))
 obtain ⟨w0,hw0⟩:∃ wx,wx=((wb.alloc (.cells #[.pointer (some ⟨b,0,none⟩)] 71)).alloc (.cells #[.func (.func 28) #[] #[.pointer (some ⟨wb.heap.size,0,none⟩)]] 75)).alloc (.cells ((sttZ 0).arr adZ) 34):=⟨_,rfl⟩
 obtain ⟨hb0,hrb,hnb,hsb,hsz⟩:=hX3 w0 hw0
 rw [← hw0]
 clear hw0 hX3
 have hlb:=Hlb.out
 have HA:=hid (HA.out.now hb0)
 have HB:=hid (HB.out.trans (hb0.mono HB.out.size))
 have HO:=hid (HO.out.on (B:=wb.heap.size) hb0 (by omega))
 have HV:=hid (HV.out.now hb0)
 obtain ⟨rb,hrbe⟩:∃ rb,rb=wb.heap.size:=⟨_,rfl⟩
 obtain ⟨nb,hnbe⟩:∃ nb,nb=wb.heap.size+1:=⟨_,rfl⟩
 obtain ⟨sb,hsbe⟩:∃ sb,sb=wb.heap.size+1+1:=⟨_,rfl⟩
 rw [← hsbe] at hsb ⊢
 rw [← hnbe] at hnb ⊢
 rw [← hrbe] at hrb hnb ⊢
 obtain ⟨lo,hlo⟩:∃ lo,lo=w0.heap.size:=⟨_,rfl⟩
 have Hlb:Hid (bO<b∧b<rb∧rb<nb∧nb<sb∧sb<lo∧w.heap.size≤bO):=hid ⟨by omega,by omega,by omega,by omega,by omega,by omega⟩
 have HLo:Hid (lo≤w0.heap.size):=hid (by omega)
 have HBB:Hid (B≤b):=hid (by have:=HBw.out;omega)
 have HRb:=hid hrb
 have HNb:=hid hnb
 have HX:=hid hsb
 have HS:=hid (RdSt.zero w0 lo 0)
 clear hb0 hrb hnb hsb hsz hrbe hnbe hsbe hlo hlb
 have zrb:=HRb.out
 go_wp2_with fail
 clear zrb
 have hle:=rNum_rest 59 0 ⟨l,false⟩
 refine (rdNum_any b ⟨l,false⟩ w0 HV.out HBB.out HA.out HL.out).mono ?_
 rintro en w1 ⟨rfl,ha,ht⟩
 have HA:=hid ha
 have HT:=hid ht
 have HX:=hid (show StBox sb (sttZ 0) adZ _ from (ht.block sb (by have:=Hlb.out;have:=HLo.out;omega) (by have:=Hlb.out;unfold One;omega)).trans HX.out)
 clear ha ht
 have HB:=hid (HB.out.trans ((HT.out).to_below HB.out.size (fun i hi=>by have:=Hlb.out;unfold One at hi;omega)))
 have HO:=hid (show StBox bO (sttZ 0) adZ _ from ((HT.out).block bO (by have:=Hlb.out;have:=HLo.out;omega) (by have:=Hlb.out;unfold One;omega)).trans HO.out)
 have HRb:=hid (cell_turn (HT.out) (by have:=Hlb.out;have:=HLo.out;omega) (by have:=Hlb.out;unfold One;omega) HRb.out)
 have HNb:=hid (cell_turn (HT.out) (by have:=Hlb.out;have:=HLo.out;omega) (by have:=Hlb.out;unfold One;omega) HNb.out)
 have HS:=hid (HS.out.turn (HT.out) (fun i hi=>by have:=Hlb.out;unfold One at hi;omega))
 have HV:=hid (HV.out.on ((HT.out).to_below HV.out.le (fun i hi=>by have:=HBB.out;have:=Hlb.out;unfold One at hi;omega)))
 have HLo:=hid (Nat.le_trans HLo.out (HT.out).size)
 have HL:=hid (Nat.le_trans hle HL.out)
 clear hle HT
 generalize rNum 59 0 ⟨l,false⟩=r0 at *
 obtain ⟨n0,s0⟩:=r0
 simp only at HRaw HA HL ⊢
 have z:=HX.out.st
 have zk:=box_cell HX.out 0 _ rfl
 have fz:=fun j=>box_free HX.out j
 have zrb:=HRb.out
 go_upto_region 6 with fail
 clear z zk fz zrb
 have HT:=hid ((Turn.refl (One sb) w1).set sb 0 (.int .i64 n0) (.inl rfl))
 have HA:=hid (HA.out.set sb 0 (.int .i64 n0) (by have:=Hlb.out;omega))
 have HX:=hid (HX.out.set_st n0)
 have HB:=hid (HB.out.trans ((HT.out).to_below HB.out.size (fun i hi=>by have:=Hlb.out;unfold One at hi;omega)))
 have HO:=hid (show StBox bO (sttZ 0) adZ _ from ((HT.out).block bO (by have:=Hlb.out;have:=HLo.out;omega) (by have:=Hlb.out;unfold One;omega)).trans HO.out)
 have HRb:=hid (cell_turn (HT.out) (by have:=Hlb.out;have:=HLo.out;omega) (by have:=Hlb.out;unfold One;omega) HRb.out)
 have HNb:=hid (cell_turn (HT.out) (by have:=Hlb.out;have:=HLo.out;omega) (by have:=Hlb.out;unfold One;omega) HNb.out)
 have HS:=hid (HS.out.turn (HT.out) (fun i hi=>by have:=Hlb.out;unfold One at hi;omega))
 have HV:=hid (HV.out.on ((HT.out).to_below HV.out.le (fun i hi=>by have:=HBB.out;have:=Hlb.out;unfold One at hi;omega)))
 have HLo:=hid (Nat.le_trans HLo.out (HT.out).size)
 change Code.wp _ _ _ _ (World.setCell w1 ⟨sb,0,none⟩ (.int .i64 n0))
 clear HT
 generalize (World.setCell w1 ⟨sb,0,none⟩ (.int .i64 n0))=w2 at *
 have HS:=hid (HS.out.step n0)
 have zrb:=HRb.out
 go_wp2_with fail
 clear zrb
 have hle:=rdLs_rest oneE_eats s0
 have hlen:=rdLs_len oneE_eats s0
 refine (reEvent_any b s0 ⟨30,#[],#[.pointer (some ⟨rb,0,none⟩)]⟩ oneE w2 HV.out HBB.out HA.out HL.out oneE_eats (rc3_fun HV.out HBB.out HRb.out (by have:=Hlb.out;have:=HLo.out;omega) (by have:=Hlb.out;omega))).mono ?_
 rintro en w3 ⟨A1,c1,xs1,rfl,hmap,hinv,ha,ht⟩
 have HA:=hid ha
 have HT:=hid ht
 have HX:=hid (show StBox sb _ _ _ from (ht.block sb (by have:=Hlb.out;have:=HLo.out;omega) (by have:=Hlb.out;unfold One;omega)).trans HX.out)
 have HIn:=hid hinv
 have HLo':=HLo
 clear ha ht hinv
 have HB:=hid (HB.out.trans ((HT.out).to_below HB.out.size (fun i hi=>by have:=Hlb.out;unfold One at hi;omega)))
 have HO:=hid (show StBox bO (sttZ 0) adZ _ from ((HT.out).block bO (by have:=Hlb.out;have:=HLo.out;omega) (by have:=Hlb.out;unfold One;omega)).trans HO.out)
 have HRb:=hid (cell_turn (HT.out) (by have:=Hlb.out;have:=HLo.out;omega) (by have:=Hlb.out;unfold One;omega) HRb.out)
 have HNb:=hid (cell_turn (HT.out) (by have:=Hlb.out;have:=HLo.out;omega) (by have:=Hlb.out;unfold One;omega) HNb.out)
 have HS:=hid (HS.out.turn (HT.out) (fun i hi=>by have:=Hlb.out;unfold One at hi;omega))
 have HV:=hid (HV.out.on ((HT.out).to_below HV.out.le (fun i hi=>by have:=HBB.out;have:=Hlb.out;unfold One at hi;omega)))
 have HLo:=hid (Nat.le_trans HLo.out (HT.out).size)
 have hl2:=HL.out
 have hxl:xs1.length≤9223372036854775807:=by have h1:=congrArg List.length hmap;rw [List.length_map] at h1;omega
 have HL:=hid (Nat.le_trans hle HL.out)
 have HHl:Hid (HeldL 12 EvL.cs w3 lo (A1,c1) xs1):=hid ⟨HIn.out.own.rd layEvL,hxl,HIn.out.own.len_le,fun i hi=>Nat.le_trans HLo'.out (HIn.out.own.blk_lt hi).1⟩
 have HS:=hid (HS.out.events HHl.out (fun x hx=>⟨(HIn.out.el x hx).1,fun i hi=>Nat.le_trans HLo'.out ((HIn.out.el x hx).2 i hi).1⟩))
 clear hle hlen HT hl2 hxl HHl HIn HLo'
 generalize rdLs oneE s0=r1 at *
 obtain ⟨n1,s1⟩:=r1
 simp only at HRaw HA HL hmap ⊢
 subst hmap
 have z:=HX.out.st
 have zk:=box_cell HX.out 1 _ rfl
 have fz:=fun j=>box_free HX.out j
 have zrb:=HRb.out
 go_upto_region 7 with fail
 clear z zk fz zrb
 have HT:=hid ((Turn.refl (One sb) w3).set sb 1 (.slice A1 xs1.length c1) (.inl rfl))
 have HA:=hid (HA.out.set sb 1 (.slice A1 xs1.length c1) (by have:=Hlb.out;omega))
 have HX:=hid (HX.out.set_ke xs1 A1 c1)
 have HB:=hid (HB.out.trans ((HT.out).to_below HB.out.size (fun i hi=>by have:=Hlb.out;unfold One at hi;omega)))
 have HO:=hid (show StBox bO (sttZ 0) adZ _ from ((HT.out).block bO (by have:=Hlb.out;have:=HLo.out;omega) (by have:=Hlb.out;unfold One;omega)).trans HO.out)
 have HRb:=hid (cell_turn (HT.out) (by have:=Hlb.out;have:=HLo.out;omega) (by have:=Hlb.out;unfold One;omega) HRb.out)
 have HNb:=hid (cell_turn (HT.out) (by have:=Hlb.out;have:=HLo.out;omega) (by have:=Hlb.out;unfold One;omega) HNb.out)
 have HS:=hid (HS.out.turn (HT.out) (fun i hi=>by have:=Hlb.out;unfold One at hi;omega))
 have HV:=hid (HV.out.on ((HT.out).to_below HV.out.le (fun i hi=>by have:=HBB.out;have:=Hlb.out;unfold One at hi;omega)))
 have HLo:=hid (Nat.le_trans HLo.out (HT.out).size)
 change Code.wp _ _ _ _ (World.setCell w3 ⟨sb,1,none⟩ (.slice A1 xs1.length c1))
 clear HT
 generalize (World.setCell w3 ⟨sb,1,none⟩ (.slice A1 xs1.length c1))=w4 at *
 have zrb:=HRb.out
 go_wp2_with fail
 clear zrb
 have hle:=rdLs_rest one4_eats s1
 have hlen:=rdLs_len one4_eats s1
 refine (reWaiting_any b s1 ⟨34,#[],#[.pointer (some ⟨rb,0,none⟩)]⟩ one4 w4 HV.out HBB.out HA.out HL.out one4_eats (rc4_fun HV.out HBB.out HRb.out (by have:=Hlb.out;have:=HLo.out;omega) (by have:=Hlb.out;omega))).mono ?_
 rintro en w5 ⟨A2,c2,xs2,rfl,hmap,hinv,ha,ht⟩
 have HA:=hid ha
 have HT:=hid ht
 have HX:=hid (show StBox sb _ _ _ from (ht.block sb (by have:=Hlb.out;have:=HLo.out;omega) (by have:=Hlb.out;unfold One;omega)).trans HX.out)
 have HIn:=hid hinv
 have HLo':=HLo
 clear ha ht hinv
 have HB:=hid (HB.out.trans ((HT.out).to_below HB.out.size (fun i hi=>by have:=Hlb.out;unfold One at hi;omega)))
 have HO:=hid (show StBox bO (sttZ 0) adZ _ from ((HT.out).block bO (by have:=Hlb.out;have:=HLo.out;omega) (by have:=Hlb.out;unfold One;omega)).trans HO.out)
 have HRb:=hid (cell_turn (HT.out) (by have:=Hlb.out;have:=HLo.out;omega) (by have:=Hlb.out;unfold One;omega) HRb.out)
 have HNb:=hid (cell_turn (HT.out) (by have:=Hlb.out;have:=HLo.out;omega) (by have:=Hlb.out;unfold One;omega) HNb.out)
 have HS:=hid (HS.out.turn (HT.out) (fun i hi=>by have:=Hlb.out;unfold One at hi;omega))
 have HV:=hid (HV.out.on ((HT.out).to_below HV.out.le (fun i hi=>by have:=HBB.out;have:=Hlb.out;unfold One at hi;omega)))
 have HLo:=hid (Nat.le_trans HLo.out (HT.out).size)
 have hl2:=HL.out
 have hxl:xs2.length≤9223372036854775807:=by have h1:=congrArg List.length hmap;rw [List.length_map] at h1;omega
 have HL:=hid (Nat.le_trans hle HL.out)
 have HHl:Hid (HeldL 4 D4.cs w5 lo (A2,c2) xs2):=hid ⟨HIn.out.own.rd layD4,hxl,HIn.out.own.len_le,fun i hi=>Nat.le_trans HLo'.out (HIn.out.own.blk_lt hi).1⟩
 have HS:=hid (HS.out.queue HHl.out)
 clear hle hlen HT hl2 hxl HHl HIn HLo'
 generalize rdLs one4 s1=r2 at *
 obtain ⟨n2,s2⟩:=r2
 simp only at HRaw HA HL hmap ⊢
 rw [List.map_id'] at hmap
 subst hmap
 have z:=HX.out.st
 have zk:=box_cell HX.out 2 _ rfl
 have fz:=fun j=>box_free HX.out j
 have zrb:=HRb.out
 go_upto_region 8 with fail
 clear z zk fz zrb
 have HT:=hid ((Turn.refl (One sb) w5).set sb 2 (.slice A2 xs2.length c2) (.inl rfl))
 have HA:=hid (HA.out.set sb 2 (.slice A2 xs2.length c2) (by have:=Hlb.out;omega))
 have HX:=hid (HX.out.set_kq xs2 A2 c2)
 have HB:=hid (HB.out.trans ((HT.out).to_below HB.out.size (fun i hi=>by have:=Hlb.out;unfold One at hi;omega)))
 have HO:=hid (show StBox bO (sttZ 0) adZ _ from ((HT.out).block bO (by have:=Hlb.out;have:=HLo.out;omega) (by have:=Hlb.out;unfold One;omega)).trans HO.out)
 have HRb:=hid (cell_turn (HT.out) (by have:=Hlb.out;have:=HLo.out;omega) (by have:=Hlb.out;unfold One;omega) HRb.out)
 have HNb:=hid (cell_turn (HT.out) (by have:=Hlb.out;have:=HLo.out;omega) (by have:=Hlb.out;unfold One;omega) HNb.out)
 have HS:=hid (HS.out.turn (HT.out) (fun i hi=>by have:=Hlb.out;unfold One at hi;omega))
 have HV:=hid (HV.out.on ((HT.out).to_below HV.out.le (fun i hi=>by have:=HBB.out;have:=Hlb.out;unfold One at hi;omega)))
 have HLo:=hid (Nat.le_trans HLo.out (HT.out).size)
 change Code.wp _ _ _ _ (World.setCell w5 ⟨sb,2,none⟩ (.slice A2 xs2.length c2))
 clear HT
 generalize (World.setCell w5 ⟨sb,2,none⟩ (.slice A2 xs2.length c2))=w6 at *
 have zrb:=HRb.out
 go_wp2_with fail
 clear zrb
 have hle:=rdLs_rest one3_eats s2
 have hlen:=rdLs_len one3_eats s2
 refine (reSent_any b s2 ⟨36,#[],#[.pointer (some ⟨rb,0,none⟩)]⟩ one3 w6 HV.out HBB.out HA.out HL.out one3_eats (rc5_fun HV.out HBB.out HRb.out (by have:=Hlb.out;have:=HLo.out;omega) (by have:=Hlb.out;omega))).mono ?_
 rintro en w7 ⟨A3,c3,xs3,rfl,hmap,hinv,ha,ht⟩
 have HA:=hid ha
 have HT:=hid ht
 have HX:=hid (show StBox sb _ _ _ from (ht.block sb (by have:=Hlb.out;have:=HLo.out;omega) (by have:=Hlb.out;unfold One;omega)).trans HX.out)
 have HIn:=hid hinv
 have HLo':=HLo
 clear ha ht hinv
 have HB:=hid (HB.out.trans ((HT.out).to_below HB.out.size (fun i hi=>by have:=Hlb.out;unfold One at hi;omega)))
 have HO:=hid (show StBox bO (sttZ 0) adZ _ from ((HT.out).block bO (by have:=Hlb.out;have:=HLo.out;omega) (by have:=Hlb.out;unfold One;omega)).trans HO.out)
 have HRb:=hid (cell_turn (HT.out) (by have:=Hlb.out;have:=HLo.out;omega) (by have:=Hlb.out;unfold One;omega) HRb.out)
 have HNb:=hid (cell_turn (HT.out) (by have:=Hlb.out;have:=HLo.out;omega) (by have:=Hlb.out;unfold One;omega) HNb.out)
 have HS:=hid (HS.out.turn (HT.out) (fun i hi=>by have:=Hlb.out;unfold One at hi;omega))
 have HV:=hid (HV.out.on ((HT.out).to_below HV.out.le (fun i hi=>by have:=HBB.out;have:=Hlb.out;unfold One at hi;omega)))
 have HLo:=hid (Nat.le_trans HLo.out (HT.out).size)
 have hl2:=HL.out
 have hxl:xs3.length≤9223372036854775807:=by have h1:=congrArg List.length hmap;rw [List.length_map] at h1;omega
 have HL:=hid (Nat.le_trans hle HL.out)
 have HHl:Hid (HeldL 3 D3.cs w7 lo (A3,c3) xs3):=hid ⟨HIn.out.own.rd layD3,hxl,HIn.out.own.len_le,fun i hi=>Nat.le_trans HLo'.out (HIn.out.own.blk_lt hi).1⟩
 have HS:=hid (HS.out.sent HHl.out)
 clear hle hlen HT hl2 hxl HHl HIn HLo'
 generalize rdLs one3 s2=r3 at *
 obtain ⟨n3,s3⟩:=r3
 simp only at HRaw HA HL hmap ⊢
 rw [List.map_id'] at hmap
 subst hmap
 have z:=HX.out.st
 have zk:=box_cell HX.out 3 _ rfl
 have fz:=fun j=>box_free HX.out j
 have zrb:=HRb.out
 go_upto_region 9 with fail
 clear z zk fz zrb
 have HT:=hid ((Turn.refl (One sb) w7).set sb 3 (.slice A3 xs3.length c3) (.inl rfl))
 have HA:=hid (HA.out.set sb 3 (.slice A3 xs3.length c3) (by have:=Hlb.out;omega))
 have HX:=hid (HX.out.set_ks xs3 A3 c3)
 have HB:=hid (HB.out.trans ((HT.out).to_below HB.out.size (fun i hi=>by have:=Hlb.out;unfold One at hi;omega)))
 have HO:=hid (show StBox bO (sttZ 0) adZ _ from ((HT.out).block bO (by have:=Hlb.out;have:=HLo.out;omega) (by have:=Hlb.out;unfold One;omega)).trans HO.out)
 have HRb:=hid (cell_turn (HT.out) (by have:=Hlb.out;have:=HLo.out;omega) (by have:=Hlb.out;unfold One;omega) HRb.out)
 have HNb:=hid (cell_turn (HT.out) (by have:=Hlb.out;have:=HLo.out;omega) (by have:=Hlb.out;unfold One;omega) HNb.out)
 have HS:=hid (HS.out.turn (HT.out) (fun i hi=>by have:=Hlb.out;unfold One at hi;omega))
 have HV:=hid (HV.out.on ((HT.out).to_below HV.out.le (fun i hi=>by have:=HBB.out;have:=Hlb.out;unfold One at hi;omega)))
 have HLo:=hid (Nat.le_trans HLo.out (HT.out).size)
 change Code.wp _ _ _ _ (World.setCell w7 ⟨sb,3,none⟩ (.slice A3 xs3.length c3))
 clear HT
 generalize (World.setCell w7 ⟨sb,3,none⟩ (.slice A3 xs3.length c3))=w8 at *
 have zrb:=HRb.out
 go_wp2_with fail
 clear zrb
 have hle:=rdLs_rest one2_eats s3
 have hlen:=rdLs_len one2_eats s3
 refine (reDebt_any b s3 ⟨26,#[],#[.pointer (some ⟨rb,0,none⟩)]⟩ one2 w8 HV.out HBB.out HA.out HL.out one2_eats (rc1_fun HV.out HBB.out HRb.out (by have:=Hlb.out;have:=HLo.out;omega) (by have:=Hlb.out;omega))).mono ?_
 rintro en w9 ⟨A4,c4,xs4,rfl,hmap,hinv,ha,ht⟩
 have HA:=hid ha
 have HT:=hid ht
 have HX:=hid (show StBox sb _ _ _ from (ht.block sb (by have:=Hlb.out;have:=HLo.out;omega) (by have:=Hlb.out;unfold One;omega)).trans HX.out)
 have HIn:=hid hinv
 have HLo':=HLo
 clear ha ht hinv
 have HB:=hid (HB.out.trans ((HT.out).to_below HB.out.size (fun i hi=>by have:=Hlb.out;unfold One at hi;omega)))
 have HO:=hid (show StBox bO (sttZ 0) adZ _ from ((HT.out).block bO (by have:=Hlb.out;have:=HLo.out;omega) (by have:=Hlb.out;unfold One;omega)).trans HO.out)
 have HRb:=hid (cell_turn (HT.out) (by have:=Hlb.out;have:=HLo.out;omega) (by have:=Hlb.out;unfold One;omega) HRb.out)
 have HNb:=hid (cell_turn (HT.out) (by have:=Hlb.out;have:=HLo.out;omega) (by have:=Hlb.out;unfold One;omega) HNb.out)
 have HS:=hid (HS.out.turn (HT.out) (fun i hi=>by have:=Hlb.out;unfold One at hi;omega))
 have HV:=hid (HV.out.on ((HT.out).to_below HV.out.le (fun i hi=>by have:=HBB.out;have:=Hlb.out;unfold One at hi;omega)))
 have HLo:=hid (Nat.le_trans HLo.out (HT.out).size)
 have hl2:=HL.out
 have hxl:xs4.length≤9223372036854775807:=by have h1:=congrArg List.length hmap;rw [List.length_map] at h1;omega
 have HL:=hid (Nat.le_trans hle HL.out)
 have HHl:Hid (HeldL 2 D2.cs w9 lo (A4,c4) xs4):=hid ⟨HIn.out.own.rd layD2,hxl,HIn.out.own.len_le,fun i hi=>Nat.le_trans HLo'.out (HIn.out.own.blk_lt hi).1⟩
 have HS:=hid (HS.out.refused HHl.out)
 clear hle hlen HT hl2 hxl HHl HIn HLo'
 generalize rdLs one2 s3=r4 at *
 obtain ⟨n4,s4⟩:=r4
 simp only at HRaw HA HL hmap ⊢
 rw [List.map_id'] at hmap
 subst hmap
 have z:=HX.out.st
 have zk:=box_cell HX.out 4 _ rfl
 have fz:=fun j=>box_free HX.out j
 have zrb:=HRb.out
 go_upto_region 10 with fail
 clear z zk fz zrb
 have HT:=hid ((Turn.refl (One sb) w9).set sb 4 (.slice A4 xs4.length c4) (.inl rfl))
 have HA:=hid (HA.out.set sb 4 (.slice A4 xs4.length c4) (by have:=Hlb.out;omega))
 have HX:=hid (HX.out.set_kr xs4 A4 c4)
 have HB:=hid (HB.out.trans ((HT.out).to_below HB.out.size (fun i hi=>by have:=Hlb.out;unfold One at hi;omega)))
 have HO:=hid (show StBox bO (sttZ 0) adZ _ from ((HT.out).block bO (by have:=Hlb.out;have:=HLo.out;omega) (by have:=Hlb.out;unfold One;omega)).trans HO.out)
 have HRb:=hid (cell_turn (HT.out) (by have:=Hlb.out;have:=HLo.out;omega) (by have:=Hlb.out;unfold One;omega) HRb.out)
 have HNb:=hid (cell_turn (HT.out) (by have:=Hlb.out;have:=HLo.out;omega) (by have:=Hlb.out;unfold One;omega) HNb.out)
 have HS:=hid (HS.out.turn (HT.out) (fun i hi=>by have:=Hlb.out;unfold One at hi;omega))
 have HV:=hid (HV.out.on ((HT.out).to_below HV.out.le (fun i hi=>by have:=HBB.out;have:=Hlb.out;unfold One at hi;omega)))
 have HLo:=hid (Nat.le_trans HLo.out (HT.out).size)
 change Code.wp _ _ _ _ (World.setCell w9 ⟨sb,4,none⟩ (.slice A4 xs4.length c4))
 clear HT
 generalize (World.setCell w9 ⟨sb,4,none⟩ (.slice A4 xs4.length c4))=w10 at *
 have zrb:=HRb.out
 go_wp2_with fail
 clear zrb
 have hle:=rdLs_rest one4_eats s4
 have hlen:=rdLs_len one4_eats s4
 refine (rePair_any b s4 ⟨39,#[],#[.pointer (some ⟨rb,0,none⟩)]⟩ one4 w10 HV.out HBB.out HA.out HL.out one4_eats (rc6_fun HV.out HBB.out HRb.out (by have:=Hlb.out;have:=HLo.out;omega) (by have:=Hlb.out;omega))).mono ?_
 rintro en w11 ⟨A5,c5,xs5,rfl,hmap,hinv,ha,ht⟩
 have HA:=hid ha
 have HT:=hid ht
 have HX:=hid (show StBox sb _ _ _ from (ht.block sb (by have:=Hlb.out;have:=HLo.out;omega) (by have:=Hlb.out;unfold One;omega)).trans HX.out)
 have HIn:=hid hinv
 have HLo':=HLo
 clear ha ht hinv
 have HB:=hid (HB.out.trans ((HT.out).to_below HB.out.size (fun i hi=>by have:=Hlb.out;unfold One at hi;omega)))
 have HO:=hid (show StBox bO (sttZ 0) adZ _ from ((HT.out).block bO (by have:=Hlb.out;have:=HLo.out;omega) (by have:=Hlb.out;unfold One;omega)).trans HO.out)
 have HRb:=hid (cell_turn (HT.out) (by have:=Hlb.out;have:=HLo.out;omega) (by have:=Hlb.out;unfold One;omega) HRb.out)
 have HNb:=hid (cell_turn (HT.out) (by have:=Hlb.out;have:=HLo.out;omega) (by have:=Hlb.out;unfold One;omega) HNb.out)
 have HS:=hid (HS.out.turn (HT.out) (fun i hi=>by have:=Hlb.out;unfold One at hi;omega))
 have HV:=hid (HV.out.on ((HT.out).to_below HV.out.le (fun i hi=>by have:=HBB.out;have:=Hlb.out;unfold One at hi;omega)))
 have HLo:=hid (Nat.le_trans HLo.out (HT.out).size)
 have hl2:=HL.out
 have hxl:xs5.length≤9223372036854775807:=by have h1:=congrArg List.length hmap;rw [List.length_map] at h1;omega
 have HL:=hid (Nat.le_trans hle HL.out)
 have HHl:Hid (HeldL 4 D4.cs w11 lo (A5,c5) xs5):=hid ⟨HIn.out.own.rd layD4,hxl,HIn.out.own.len_le,fun i hi=>Nat.le_trans HLo'.out (HIn.out.own.blk_lt hi).1⟩
 have HS:=hid (HS.out.pairs HHl.out)
 clear hle hlen HT hl2 hxl HHl HIn HLo'
 generalize rdLs one4 s4=r5 at *
 obtain ⟨n5,s5⟩:=r5
 simp only at HRaw HA HL hmap ⊢
 rw [List.map_id'] at hmap
 subst hmap
 have z:=HX.out.st
 have zk:=box_cell HX.out 5 _ rfl
 have fz:=fun j=>box_free HX.out j
 have zrb:=HRb.out
 go_upto_region 11 with fail
 clear z zk fz zrb
 have HT:=hid ((Turn.refl (One sb) w11).set sb 5 (.slice A5 xs5.length c5) (.inl rfl))
 have HA:=hid (HA.out.set sb 5 (.slice A5 xs5.length c5) (by have:=Hlb.out;omega))
 have HX:=hid (HX.out.set_kp xs5 A5 c5)
 have HB:=hid (HB.out.trans ((HT.out).to_below HB.out.size (fun i hi=>by have:=Hlb.out;unfold One at hi;omega)))
 have HO:=hid (show StBox bO (sttZ 0) adZ _ from ((HT.out).block bO (by have:=Hlb.out;have:=HLo.out;omega) (by have:=Hlb.out;unfold One;omega)).trans HO.out)
 have HRb:=hid (cell_turn (HT.out) (by have:=Hlb.out;have:=HLo.out;omega) (by have:=Hlb.out;unfold One;omega) HRb.out)
 have HNb:=hid (cell_turn (HT.out) (by have:=Hlb.out;have:=HLo.out;omega) (by have:=Hlb.out;unfold One;omega) HNb.out)
 have HS:=hid (HS.out.turn (HT.out) (fun i hi=>by have:=Hlb.out;unfold One at hi;omega))
 have HV:=hid (HV.out.on ((HT.out).to_below HV.out.le (fun i hi=>by have:=HBB.out;have:=Hlb.out;unfold One at hi;omega)))
 have HLo:=hid (Nat.le_trans HLo.out (HT.out).size)
 change Code.wp _ _ _ _ (World.setCell w11 ⟨sb,5,none⟩ (.slice A5 xs5.length c5))
 clear HT
 generalize (World.setCell w11 ⟨sb,5,none⟩ (.slice A5 xs5.length c5))=w12 at *
 have zrb:=HRb.out
 go_wp2_with fail
 clear zrb
 have hle:=rdLs_rest one3_eats s5
 have hlen:=rdLs_len one3_eats s5
 refine (reProof_any b s5 ⟨41,#[],#[.pointer (some ⟨rb,0,none⟩)]⟩ one3 w12 HV.out HBB.out HA.out HL.out one3_eats (rc7_fun HV.out HBB.out HRb.out (by have:=Hlb.out;have:=HLo.out;omega) (by have:=Hlb.out;omega))).mono ?_
 rintro en w13 ⟨A6,c6,xs6,rfl,hmap,hinv,ha,ht⟩
 have HA:=hid ha
 have HT:=hid ht
 have HX:=hid (show StBox sb _ _ _ from (ht.block sb (by have:=Hlb.out;have:=HLo.out;omega) (by have:=Hlb.out;unfold One;omega)).trans HX.out)
 have HIn:=hid hinv
 have HLo':=HLo
 clear ha ht hinv
 have HB:=hid (HB.out.trans ((HT.out).to_below HB.out.size (fun i hi=>by have:=Hlb.out;unfold One at hi;omega)))
 have HO:=hid (show StBox bO (sttZ 0) adZ _ from ((HT.out).block bO (by have:=Hlb.out;have:=HLo.out;omega) (by have:=Hlb.out;unfold One;omega)).trans HO.out)
 have HRb:=hid (cell_turn (HT.out) (by have:=Hlb.out;have:=HLo.out;omega) (by have:=Hlb.out;unfold One;omega) HRb.out)
 have HNb:=hid (cell_turn (HT.out) (by have:=Hlb.out;have:=HLo.out;omega) (by have:=Hlb.out;unfold One;omega) HNb.out)
 have HS:=hid (HS.out.turn (HT.out) (fun i hi=>by have:=Hlb.out;unfold One at hi;omega))
 have HV:=hid (HV.out.on ((HT.out).to_below HV.out.le (fun i hi=>by have:=HBB.out;have:=Hlb.out;unfold One at hi;omega)))
 have HLo:=hid (Nat.le_trans HLo.out (HT.out).size)
 have hl2:=HL.out
 have hxl:xs6.length≤9223372036854775807:=by have h1:=congrArg List.length hmap;rw [List.length_map] at h1;omega
 have HL:=hid (Nat.le_trans hle HL.out)
 have HHl:Hid (HeldL 3 D3.cs w13 lo (A6,c6) xs6):=hid ⟨HIn.out.own.rd layD3,hxl,HIn.out.own.len_le,fun i hi=>Nat.le_trans HLo'.out (HIn.out.own.blk_lt hi).1⟩
 have HS:=hid (HS.out.proofs HHl.out)
 clear hle hlen HT hl2 hxl HHl HIn HLo'
 generalize rdLs one3 s5=r6 at *
 obtain ⟨n6,s6⟩:=r6
 simp only at HRaw HA HL hmap ⊢
 rw [List.map_id'] at hmap
 subst hmap
 have z:=HX.out.st
 have zk:=box_cell HX.out 6 _ rfl
 have fz:=fun j=>box_free HX.out j
 have zrb:=HRb.out
 go_upto_region 12 with fail
 clear z zk fz zrb
 have HT:=hid ((Turn.refl (One sb) w13).set sb 6 (.slice A6 xs6.length c6) (.inl rfl))
 have HA:=hid (HA.out.set sb 6 (.slice A6 xs6.length c6) (by have:=Hlb.out;omega))
 have HX:=hid (HX.out.set_kf xs6 A6 c6)
 have HB:=hid (HB.out.trans ((HT.out).to_below HB.out.size (fun i hi=>by have:=Hlb.out;unfold One at hi;omega)))
 have HO:=hid (show StBox bO (sttZ 0) adZ _ from ((HT.out).block bO (by have:=Hlb.out;have:=HLo.out;omega) (by have:=Hlb.out;unfold One;omega)).trans HO.out)
 have HRb:=hid (cell_turn (HT.out) (by have:=Hlb.out;have:=HLo.out;omega) (by have:=Hlb.out;unfold One;omega) HRb.out)
 have HNb:=hid (cell_turn (HT.out) (by have:=Hlb.out;have:=HLo.out;omega) (by have:=Hlb.out;unfold One;omega) HNb.out)
 have HS:=hid (HS.out.turn (HT.out) (fun i hi=>by have:=Hlb.out;unfold One at hi;omega))
 have HV:=hid (HV.out.on ((HT.out).to_below HV.out.le (fun i hi=>by have:=HBB.out;have:=Hlb.out;unfold One at hi;omega)))
 have HLo:=hid (Nat.le_trans HLo.out (HT.out).size)
 change Code.wp _ _ _ _ (World.setCell w13 ⟨sb,6,none⟩ (.slice A6 xs6.length c6))
 clear HT
 generalize (World.setCell w13 ⟨sb,6,none⟩ (.slice A6 xs6.length c6))=w14 at *
 have zrb:=HRb.out
 go_wp2_with fail
 clear zrb
 have hle:=rdLs_rest rdL5_eats s6
 have hlen:=rdLs_len rdL5_eats s6
 refine (reNotes_any b s6 ⟨43,#[],#[.pointer (some ⟨rb,0,none⟩),.pointer (some ⟨nb,0,none⟩)]⟩ (rdLs one5) w14 HV.out HBB.out HA.out HL.out rdL5_eats (rc8_fun HV.out HBB.out HRb.out (by have:=Hlb.out;have:=HLo.out;omega) (by have:=Hlb.out;omega) HNb.out (by have:=Hlb.out;have:=HLo.out;omega) (by have:=Hlb.out;omega))).mono ?_
 rintro en w15 ⟨A7,c7,xs7,rfl,hmap,hinv,ha,ht⟩
 have HA:=hid ha
 have HT:=hid ht
 have HX:=hid (show StBox sb _ _ _ from (ht.block sb (by have:=Hlb.out;have:=HLo.out;omega) (by have:=Hlb.out;unfold One;omega)).trans HX.out)
 have HIn:=hid hinv
 have HLo':=HLo
 clear ha ht hinv
 have HB:=hid (HB.out.trans ((HT.out).to_below HB.out.size (fun i hi=>by have:=Hlb.out;unfold One at hi;omega)))
 have HO:=hid (show StBox bO (sttZ 0) adZ _ from ((HT.out).block bO (by have:=Hlb.out;have:=HLo.out;omega) (by have:=Hlb.out;unfold One;omega)).trans HO.out)
 have HRb:=hid (cell_turn (HT.out) (by have:=Hlb.out;have:=HLo.out;omega) (by have:=Hlb.out;unfold One;omega) HRb.out)
 have HNb:=hid (cell_turn (HT.out) (by have:=Hlb.out;have:=HLo.out;omega) (by have:=Hlb.out;unfold One;omega) HNb.out)
 have HS:=hid (HS.out.turn (HT.out) (fun i hi=>by have:=Hlb.out;unfold One at hi;omega))
 have HV:=hid (HV.out.on ((HT.out).to_below HV.out.le (fun i hi=>by have:=HBB.out;have:=Hlb.out;unfold One at hi;omega)))
 have HLo:=hid (Nat.le_trans HLo.out (HT.out).size)
 have hl2:=HL.out
 have hxl:xs7.length≤9223372036854775807:=by have h1:=congrArg List.length hmap;rw [List.length_map] at h1;omega
 have HL:=hid (Nat.le_trans hle HL.out)
 have HHl:Hid (HeldL 1 NL.cs w15 lo (A7,c7) xs7):=hid ⟨HIn.out.own.rd layNL,hxl,HIn.out.own.len_le,fun i hi=>Nat.le_trans HLo'.out (HIn.out.own.blk_lt hi).1⟩
 have HS:=hid (HS.out.notes HHl.out (fun x hx=>⟨(HIn.out.el x hx).1,fun i hi=>Nat.le_trans HLo'.out ((HIn.out.el x hx).2 i hi).1⟩))
 clear hle hlen HT hl2 hxl HHl HIn HLo'
 generalize rdLs (rdLs one5) s6=r7 at *
 obtain ⟨n7,s7⟩:=r7
 simp only at HRaw HA HL hmap ⊢
 subst hmap
 have z:=HX.out.st
 have zk:=box_cell HX.out 7 _ rfl
 have fz:=fun j=>box_free HX.out j
 have zrb:=HRb.out
 go_upto_region 13 with fail
 clear z zk fz zrb
 have HT:=hid ((Turn.refl (One sb) w15).set sb 7 (.slice A7 xs7.length c7) (.inl rfl))
 have HA:=hid (HA.out.set sb 7 (.slice A7 xs7.length c7) (by have:=Hlb.out;omega))
 have HX:=hid (HX.out.set_kn xs7 A7 c7)
 have HB:=hid (HB.out.trans ((HT.out).to_below HB.out.size (fun i hi=>by have:=Hlb.out;unfold One at hi;omega)))
 have HO:=hid (show StBox bO (sttZ 0) adZ _ from ((HT.out).block bO (by have:=Hlb.out;have:=HLo.out;omega) (by have:=Hlb.out;unfold One;omega)).trans HO.out)
 have HRb:=hid (cell_turn (HT.out) (by have:=Hlb.out;have:=HLo.out;omega) (by have:=Hlb.out;unfold One;omega) HRb.out)
 have HNb:=hid (cell_turn (HT.out) (by have:=Hlb.out;have:=HLo.out;omega) (by have:=Hlb.out;unfold One;omega) HNb.out)
 have HS:=hid (HS.out.turn (HT.out) (fun i hi=>by have:=Hlb.out;unfold One at hi;omega))
 have HV:=hid (HV.out.on ((HT.out).to_below HV.out.le (fun i hi=>by have:=HBB.out;have:=Hlb.out;unfold One at hi;omega)))
 have HLo:=hid (Nat.le_trans HLo.out (HT.out).size)
 change Code.wp _ _ _ _ (World.setCell w15 ⟨sb,7,none⟩ (.slice A7 xs7.length c7))
 clear HT
 generalize (World.setCell w15 ⟨sb,7,none⟩ (.slice A7 xs7.length c7))=w16 at *
 have zrb:=HRb.out
 go_wp2_with fail
 clear zrb
 have hle:=rdLs_rest oneB_eats s7
 have hlen:=rdLs_len oneB_eats s7
 refine (reVerdict_any b s7 ⟨46,#[],#[.pointer (some ⟨rb,0,none⟩)]⟩ oneB w16 HV.out HBB.out HA.out HL.out oneB_eats (rc9_fun HV.out HBB.out HRb.out (by have:=Hlb.out;have:=HLo.out;omega) (by have:=Hlb.out;omega))).mono ?_
 rintro en w17 ⟨A8,c8,xs8,rfl,hmap,hinv,ha,ht⟩
 have HA:=hid ha
 have HT:=hid ht
 have HX:=hid (show StBox sb _ _ _ from (ht.block sb (by have:=Hlb.out;have:=HLo.out;omega) (by have:=Hlb.out;unfold One;omega)).trans HX.out)
 have HIn:=hid hinv
 have HLo':=HLo
 clear ha ht hinv
 have HB:=hid (HB.out.trans ((HT.out).to_below HB.out.size (fun i hi=>by have:=Hlb.out;unfold One at hi;omega)))
 have HO:=hid (show StBox bO (sttZ 0) adZ _ from ((HT.out).block bO (by have:=Hlb.out;have:=HLo.out;omega) (by have:=Hlb.out;unfold One;omega)).trans HO.out)
 have HRb:=hid (cell_turn (HT.out) (by have:=Hlb.out;have:=HLo.out;omega) (by have:=Hlb.out;unfold One;omega) HRb.out)
 have HNb:=hid (cell_turn (HT.out) (by have:=Hlb.out;have:=HLo.out;omega) (by have:=Hlb.out;unfold One;omega) HNb.out)
 have HS:=hid (HS.out.turn (HT.out) (fun i hi=>by have:=Hlb.out;unfold One at hi;omega))
 have HV:=hid (HV.out.on ((HT.out).to_below HV.out.le (fun i hi=>by have:=HBB.out;have:=Hlb.out;unfold One at hi;omega)))
 have HLo:=hid (Nat.le_trans HLo.out (HT.out).size)
 have hl2:=HL.out
 have hxl:xs8.length≤9223372036854775807:=by have h1:=congrArg List.length hmap;rw [List.length_map] at h1;omega
 have HL:=hid (Nat.le_trans hle HL.out)
 have HHl:Hid (HeldL 3 E3.cs w17 lo (A8,c8) xs8):=hid ⟨HIn.out.own.rd layE3,hxl,HIn.out.own.len_le,fun i hi=>Nat.le_trans HLo'.out (HIn.out.own.blk_lt hi).1⟩
 have HS:=hid (HS.out.bad HHl.out)
 clear hle hlen HT hl2 hxl HHl HIn HLo'
 generalize rdLs oneB s7=r8 at *
 obtain ⟨n8,s8⟩:=r8
 simp only at HRaw HA HL hmap ⊢
 rw [List.map_id'] at hmap
 subst hmap
 have z:=HX.out.st
 have zk:=box_cell HX.out 8 _ rfl
 have fz:=fun j=>box_free HX.out j
 have zrb:=HRb.out
 go_upto_region 14 with fail
 clear z zk fz zrb
 have HT:=hid ((Turn.refl (One sb) w17).set sb 8 (.slice A8 xs8.length c8) (.inl rfl))
 have HA:=hid (HA.out.set sb 8 (.slice A8 xs8.length c8) (by have:=Hlb.out;omega))
 have HX:=hid (HX.out.set_kb xs8 A8 c8)
 have HB:=hid (HB.out.trans ((HT.out).to_below HB.out.size (fun i hi=>by have:=Hlb.out;unfold One at hi;omega)))
 have HO:=hid (show StBox bO (sttZ 0) adZ _ from ((HT.out).block bO (by have:=Hlb.out;have:=HLo.out;omega) (by have:=Hlb.out;unfold One;omega)).trans HO.out)
 have HRb:=hid (cell_turn (HT.out) (by have:=Hlb.out;have:=HLo.out;omega) (by have:=Hlb.out;unfold One;omega) HRb.out)
 have HNb:=hid (cell_turn (HT.out) (by have:=Hlb.out;have:=HLo.out;omega) (by have:=Hlb.out;unfold One;omega) HNb.out)
 have HS:=hid (HS.out.turn (HT.out) (fun i hi=>by have:=Hlb.out;unfold One at hi;omega))
 have HV:=hid (HV.out.on ((HT.out).to_below HV.out.le (fun i hi=>by have:=HBB.out;have:=Hlb.out;unfold One at hi;omega)))
 have HLo:=hid (Nat.le_trans HLo.out (HT.out).size)
 change Code.wp _ _ _ _ (World.setCell w17 ⟨sb,8,none⟩ (.slice A8 xs8.length c8))
 clear HT
 generalize (World.setCell w17 ⟨sb,8,none⟩ (.slice A8 xs8.length c8))=w18 at *
 have zrb:=HRb.out
 go_wp2_with fail
 clear zrb
 have hle:=rdLs_rest oneH_eats s8
 have hlen:=rdLs_len oneH_eats s8
 refine (reHold_any b s8 ⟨48,#[],#[.pointer (some ⟨rb,0,none⟩)]⟩ oneH w18 HV.out HBB.out HA.out HL.out oneH_eats (rc10_fun HV.out HBB.out HRb.out (by have:=Hlb.out;have:=HLo.out;omega) (by have:=Hlb.out;omega))).mono ?_
 rintro en w19 ⟨A9,c9,xs9,rfl,hmap,hinv,ha,ht⟩
 have HA:=hid ha
 have HT:=hid ht
 have HX:=hid (show StBox sb _ _ _ from (ht.block sb (by have:=Hlb.out;have:=HLo.out;omega) (by have:=Hlb.out;unfold One;omega)).trans HX.out)
 have HIn:=hid hinv
 have HLo':=HLo
 clear ha ht hinv
 have HB:=hid (HB.out.trans ((HT.out).to_below HB.out.size (fun i hi=>by have:=Hlb.out;unfold One at hi;omega)))
 have HO:=hid (show StBox bO (sttZ 0) adZ _ from ((HT.out).block bO (by have:=Hlb.out;have:=HLo.out;omega) (by have:=Hlb.out;unfold One;omega)).trans HO.out)
 have HRb:=hid (cell_turn (HT.out) (by have:=Hlb.out;have:=HLo.out;omega) (by have:=Hlb.out;unfold One;omega) HRb.out)
 have HNb:=hid (cell_turn (HT.out) (by have:=Hlb.out;have:=HLo.out;omega) (by have:=Hlb.out;unfold One;omega) HNb.out)
 have HS:=hid (HS.out.turn (HT.out) (fun i hi=>by have:=Hlb.out;unfold One at hi;omega))
 have HV:=hid (HV.out.on ((HT.out).to_below HV.out.le (fun i hi=>by have:=HBB.out;have:=Hlb.out;unfold One at hi;omega)))
 have HLo:=hid (Nat.le_trans HLo.out (HT.out).size)
 have hl2:=HL.out
 have hxl:xs9.length≤9223372036854775807:=by have h1:=congrArg List.length hmap;rw [List.length_map] at h1;omega
 have HL:=hid (Nat.le_trans hle HL.out)
 have HHl:Hid (HeldL 4 D4.cs w19 lo (A9,c9) xs9):=hid ⟨HIn.out.own.rd layD4,hxl,HIn.out.own.len_le,fun i hi=>Nat.le_trans HLo'.out (HIn.out.own.blk_lt hi).1⟩
 have HS:=hid (HS.out.holds HHl.out)
 clear hle hlen HT hl2 hxl HHl HIn HLo'
 generalize rdLs oneH s8=r9 at *
 obtain ⟨n9,s9⟩:=r9
 simp only at HRaw HA HL hmap ⊢
 rw [List.map_id'] at hmap
 subst hmap
 have z:=HX.out.st
 have zk:=box_cell HX.out 9 _ rfl
 have fz:=fun j=>box_free HX.out j
 have zrb:=HRb.out
 go_upto_region 15 with fail
 clear z zk fz zrb
 have HT:=hid ((Turn.refl (One sb) w19).set sb 9 (.slice A9 xs9.length c9) (.inl rfl))
 have HA:=hid (HA.out.set sb 9 (.slice A9 xs9.length c9) (by have:=Hlb.out;omega))
 have HX:=hid (HX.out.set_kh xs9 A9 c9)
 have HB:=hid (HB.out.trans ((HT.out).to_below HB.out.size (fun i hi=>by have:=Hlb.out;unfold One at hi;omega)))
 have HO:=hid (show StBox bO (sttZ 0) adZ _ from ((HT.out).block bO (by have:=Hlb.out;have:=HLo.out;omega) (by have:=Hlb.out;unfold One;omega)).trans HO.out)
 have HRb:=hid (cell_turn (HT.out) (by have:=Hlb.out;have:=HLo.out;omega) (by have:=Hlb.out;unfold One;omega) HRb.out)
 have HNb:=hid (cell_turn (HT.out) (by have:=Hlb.out;have:=HLo.out;omega) (by have:=Hlb.out;unfold One;omega) HNb.out)
 have HS:=hid (HS.out.turn (HT.out) (fun i hi=>by have:=Hlb.out;unfold One at hi;omega))
 have HV:=hid (HV.out.on ((HT.out).to_below HV.out.le (fun i hi=>by have:=HBB.out;have:=Hlb.out;unfold One at hi;omega)))
 have HLo:=hid (Nat.le_trans HLo.out (HT.out).size)
 change Code.wp _ _ _ _ (World.setCell w19 ⟨sb,9,none⟩ (.slice A9 xs9.length c9))
 clear HT
 generalize (World.setCell w19 ⟨sb,9,none⟩ (.slice A9 xs9.length c9))=w20 at *
 have zrb:=HRb.out
 go_wp2_with fail
 clear zrb
 have hle:=rdLs_rest one4_eats s9
 have hlen:=rdLs_len one4_eats s9
 refine (reOrder_any b s9 ⟨51,#[],#[.pointer (some ⟨rb,0,none⟩)]⟩ one4 w20 HV.out HBB.out HA.out HL.out one4_eats (rc11_fun HV.out HBB.out HRb.out (by have:=Hlb.out;have:=HLo.out;omega) (by have:=Hlb.out;omega))).mono ?_
 rintro en w21 ⟨A10,c10,xs10,rfl,hmap,hinv,ha,ht⟩
 have HA:=hid ha
 have HT:=hid ht
 have HX:=hid (show StBox sb _ _ _ from (ht.block sb (by have:=Hlb.out;have:=HLo.out;omega) (by have:=Hlb.out;unfold One;omega)).trans HX.out)
 have HIn:=hid hinv
 have HLo':=HLo
 clear ha ht hinv
 have HB:=hid (HB.out.trans ((HT.out).to_below HB.out.size (fun i hi=>by have:=Hlb.out;unfold One at hi;omega)))
 have HO:=hid (show StBox bO (sttZ 0) adZ _ from ((HT.out).block bO (by have:=Hlb.out;have:=HLo.out;omega) (by have:=Hlb.out;unfold One;omega)).trans HO.out)
 have HRb:=hid (cell_turn (HT.out) (by have:=Hlb.out;have:=HLo.out;omega) (by have:=Hlb.out;unfold One;omega) HRb.out)
 have HNb:=hid (cell_turn (HT.out) (by have:=Hlb.out;have:=HLo.out;omega) (by have:=Hlb.out;unfold One;omega) HNb.out)
 have HS:=hid (HS.out.turn (HT.out) (fun i hi=>by have:=Hlb.out;unfold One at hi;omega))
 have HV:=hid (HV.out.on ((HT.out).to_below HV.out.le (fun i hi=>by have:=HBB.out;have:=Hlb.out;unfold One at hi;omega)))
 have HLo:=hid (Nat.le_trans HLo.out (HT.out).size)
 have hl2:=HL.out
 have hxl:xs10.length≤9223372036854775807:=by have h1:=congrArg List.length hmap;rw [List.length_map] at h1;omega
 have HL:=hid (Nat.le_trans hle HL.out)
 have HHl:Hid (HeldL 4 D4.cs w21 lo (A10,c10) xs10):=hid ⟨HIn.out.own.rd layD4,hxl,HIn.out.own.len_le,fun i hi=>Nat.le_trans HLo'.out (HIn.out.own.blk_lt hi).1⟩
 have HS:=hid (HS.out.orders HHl.out)
 clear hle hlen HT hl2 hxl HHl HIn HLo'
 generalize rdLs one4 s9=r10 at *
 obtain ⟨n10,s10⟩:=r10
 simp only at HRaw HA HL hmap ⊢
 rw [List.map_id'] at hmap
 subst hmap
 have z:=HX.out.st
 have zk:=box_cell HX.out 10 _ rfl
 have fz:=fun j=>box_free HX.out j
 have zrb:=HRb.out
 go_upto_region 16 with fail
 clear z zk fz zrb
 have HT:=hid ((Turn.refl (One sb) w21).set sb 10 (.slice A10 xs10.length c10) (.inl rfl))
 have HA:=hid (HA.out.set sb 10 (.slice A10 xs10.length c10) (by have:=Hlb.out;omega))
 have HX:=hid (HX.out.set_ko xs10 A10 c10)
 have HB:=hid (HB.out.trans ((HT.out).to_below HB.out.size (fun i hi=>by have:=Hlb.out;unfold One at hi;omega)))
 have HO:=hid (show StBox bO (sttZ 0) adZ _ from ((HT.out).block bO (by have:=Hlb.out;have:=HLo.out;omega) (by have:=Hlb.out;unfold One;omega)).trans HO.out)
 have HRb:=hid (cell_turn (HT.out) (by have:=Hlb.out;have:=HLo.out;omega) (by have:=Hlb.out;unfold One;omega) HRb.out)
 have HNb:=hid (cell_turn (HT.out) (by have:=Hlb.out;have:=HLo.out;omega) (by have:=Hlb.out;unfold One;omega) HNb.out)
 have HS:=hid (HS.out.turn (HT.out) (fun i hi=>by have:=Hlb.out;unfold One at hi;omega))
 have HV:=hid (HV.out.on ((HT.out).to_below HV.out.le (fun i hi=>by have:=HBB.out;have:=Hlb.out;unfold One at hi;omega)))
 have HLo:=hid (Nat.le_trans HLo.out (HT.out).size)
 change Code.wp _ _ _ _ (World.setCell w21 ⟨sb,10,none⟩ (.slice A10 xs10.length c10))
 clear HT
 generalize (World.setCell w21 ⟨sb,10,none⟩ (.slice A10 xs10.length c10))=w22 at *
 have zrb:=HRb.out
 go_wp2_with fail
 clear zrb
 have hle:=rdLs_rest one3_eats s10
 have hlen:=rdLs_len one3_eats s10
 refine (reSealed_any b s10 ⟨53,#[],#[.pointer (some ⟨rb,0,none⟩)]⟩ one3 w22 HV.out HBB.out HA.out HL.out one3_eats (rc12_fun HV.out HBB.out HRb.out (by have:=Hlb.out;have:=HLo.out;omega) (by have:=Hlb.out;omega))).mono ?_
 rintro en w23 ⟨A11,c11,xs11,rfl,hmap,hinv,ha,ht⟩
 have HA:=hid ha
 have HT:=hid ht
 have HX:=hid (show StBox sb _ _ _ from (ht.block sb (by have:=Hlb.out;have:=HLo.out;omega) (by have:=Hlb.out;unfold One;omega)).trans HX.out)
 have HIn:=hid hinv
 have HLo':=HLo
 clear ha ht hinv
 have HB:=hid (HB.out.trans ((HT.out).to_below HB.out.size (fun i hi=>by have:=Hlb.out;unfold One at hi;omega)))
 have HO:=hid (show StBox bO (sttZ 0) adZ _ from ((HT.out).block bO (by have:=Hlb.out;have:=HLo.out;omega) (by have:=Hlb.out;unfold One;omega)).trans HO.out)
 have HRb:=hid (cell_turn (HT.out) (by have:=Hlb.out;have:=HLo.out;omega) (by have:=Hlb.out;unfold One;omega) HRb.out)
 have HNb:=hid (cell_turn (HT.out) (by have:=Hlb.out;have:=HLo.out;omega) (by have:=Hlb.out;unfold One;omega) HNb.out)
 have HS:=hid (HS.out.turn (HT.out) (fun i hi=>by have:=Hlb.out;unfold One at hi;omega))
 have HV:=hid (HV.out.on ((HT.out).to_below HV.out.le (fun i hi=>by have:=HBB.out;have:=Hlb.out;unfold One at hi;omega)))
 have HLo:=hid (Nat.le_trans HLo.out (HT.out).size)
 have hl2:=HL.out
 have hxl:xs11.length≤9223372036854775807:=by have h1:=congrArg List.length hmap;rw [List.length_map] at h1;omega
 have HL:=hid (Nat.le_trans hle HL.out)
 have HHl:Hid (HeldL 3 D3.cs w23 lo (A11,c11) xs11):=hid ⟨HIn.out.own.rd layD3,hxl,HIn.out.own.len_le,fun i hi=>Nat.le_trans HLo'.out (HIn.out.own.blk_lt hi).1⟩
 have HS:=hid (HS.out.sealed HHl.out)
 clear hle hlen HT hl2 hxl HHl HIn HLo'
 generalize rdLs one3 s10=r11 at *
 obtain ⟨n11,s11⟩:=r11
 simp only at HRaw HA HL hmap ⊢
 rw [List.map_id'] at hmap
 subst hmap
 have z:=HX.out.st
 have zk:=box_cell HX.out 11 _ rfl
 have fz:=fun j=>box_free HX.out j
 have zrb:=HRb.out
 go_upto_region 17 with fail
 clear z zk fz zrb
 have HT:=hid ((Turn.refl (One sb) w23).set sb 11 (.slice A11 xs11.length c11) (.inl rfl))
 have HA:=hid (HA.out.set sb 11 (.slice A11 xs11.length c11) (by have:=Hlb.out;omega))
 have HX:=hid (HX.out.set_kx xs11 A11 c11)
 have HB:=hid (HB.out.trans ((HT.out).to_below HB.out.size (fun i hi=>by have:=Hlb.out;unfold One at hi;omega)))
 have HO:=hid (show StBox bO (sttZ 0) adZ _ from ((HT.out).block bO (by have:=Hlb.out;have:=HLo.out;omega) (by have:=Hlb.out;unfold One;omega)).trans HO.out)
 have HRb:=hid (cell_turn (HT.out) (by have:=Hlb.out;have:=HLo.out;omega) (by have:=Hlb.out;unfold One;omega) HRb.out)
 have HNb:=hid (cell_turn (HT.out) (by have:=Hlb.out;have:=HLo.out;omega) (by have:=Hlb.out;unfold One;omega) HNb.out)
 have HS:=hid (HS.out.turn (HT.out) (fun i hi=>by have:=Hlb.out;unfold One at hi;omega))
 have HV:=hid (HV.out.on ((HT.out).to_below HV.out.le (fun i hi=>by have:=HBB.out;have:=Hlb.out;unfold One at hi;omega)))
 have HLo:=hid (Nat.le_trans HLo.out (HT.out).size)
 change Code.wp _ _ _ _ (World.setCell w23 ⟨sb,11,none⟩ (.slice A11 xs11.length c11))
 clear HT
 generalize (World.setCell w23 ⟨sb,11,none⟩ (.slice A11 xs11.length c11))=w24 at *
 have zrb:=HRb.out
 go_wp2_with fail
 clear zrb
 have hle:=rdLs_rest one2_eats s11
 have hlen:=rdLs_len one2_eats s11
 refine (reDebt_any b s11 ⟨26,#[],#[.pointer (some ⟨rb,0,none⟩)]⟩ one2 w24 HV.out HBB.out HA.out HL.out one2_eats (rc1_fun HV.out HBB.out HRb.out (by have:=Hlb.out;have:=HLo.out;omega) (by have:=Hlb.out;omega))).mono ?_
 rintro en w25 ⟨A12,c12,xs12,rfl,hmap,hinv,ha,ht⟩
 have HA:=hid ha
 have HT:=hid ht
 have HX:=hid (show StBox sb _ _ _ from (ht.block sb (by have:=Hlb.out;have:=HLo.out;omega) (by have:=Hlb.out;unfold One;omega)).trans HX.out)
 have HIn:=hid hinv
 have HLo':=HLo
 clear ha ht hinv
 have HB:=hid (HB.out.trans ((HT.out).to_below HB.out.size (fun i hi=>by have:=Hlb.out;unfold One at hi;omega)))
 have HO:=hid (show StBox bO (sttZ 0) adZ _ from ((HT.out).block bO (by have:=Hlb.out;have:=HLo.out;omega) (by have:=Hlb.out;unfold One;omega)).trans HO.out)
 have HRb:=hid (cell_turn (HT.out) (by have:=Hlb.out;have:=HLo.out;omega) (by have:=Hlb.out;unfold One;omega) HRb.out)
 have HNb:=hid (cell_turn (HT.out) (by have:=Hlb.out;have:=HLo.out;omega) (by have:=Hlb.out;unfold One;omega) HNb.out)
 have HS:=hid (HS.out.turn (HT.out) (fun i hi=>by have:=Hlb.out;unfold One at hi;omega))
 have HV:=hid (HV.out.on ((HT.out).to_below HV.out.le (fun i hi=>by have:=HBB.out;have:=Hlb.out;unfold One at hi;omega)))
 have HLo:=hid (Nat.le_trans HLo.out (HT.out).size)
 have hl2:=HL.out
 have hxl:xs12.length≤9223372036854775807:=by have h1:=congrArg List.length hmap;rw [List.length_map] at h1;omega
 have HL:=hid (Nat.le_trans hle HL.out)
 have HHl:Hid (HeldL 2 D2.cs w25 lo (A12,c12) xs12):=hid ⟨HIn.out.own.rd layD2,hxl,HIn.out.own.len_le,fun i hi=>Nat.le_trans HLo'.out (HIn.out.own.blk_lt hi).1⟩
 have HS:=hid (HS.out.debts HHl.out)
 clear hle hlen HT hl2 hxl HHl HIn HLo'
 generalize rdLs one2 s11=r12 at *
 obtain ⟨n12,s12⟩:=r12
 simp only at HRaw HA HL hmap ⊢
 rw [List.map_id'] at hmap
 subst hmap
 have z:=HX.out.st
 have zk:=box_cell HX.out 12 _ rfl
 have fz:=fun j=>box_free HX.out j
 have zrb:=HRb.out
 go_upto_region 18 with fail
 clear z zk fz zrb
 have HT:=hid ((Turn.refl (One sb) w25).set sb 12 (.slice A12 xs12.length c12) (.inl rfl))
 have HA:=hid (HA.out.set sb 12 (.slice A12 xs12.length c12) (by have:=Hlb.out;omega))
 have HX:=hid (HX.out.set_kd xs12 A12 c12)
 have HB:=hid (HB.out.trans ((HT.out).to_below HB.out.size (fun i hi=>by have:=Hlb.out;unfold One at hi;omega)))
 have HO:=hid (show StBox bO (sttZ 0) adZ _ from ((HT.out).block bO (by have:=Hlb.out;have:=HLo.out;omega) (by have:=Hlb.out;unfold One;omega)).trans HO.out)
 have HRb:=hid (cell_turn (HT.out) (by have:=Hlb.out;have:=HLo.out;omega) (by have:=Hlb.out;unfold One;omega) HRb.out)
 have HNb:=hid (cell_turn (HT.out) (by have:=Hlb.out;have:=HLo.out;omega) (by have:=Hlb.out;unfold One;omega) HNb.out)
 have HS:=hid (HS.out.turn (HT.out) (fun i hi=>by have:=Hlb.out;unfold One at hi;omega))
 have HV:=hid (HV.out.on ((HT.out).to_below HV.out.le (fun i hi=>by have:=HBB.out;have:=Hlb.out;unfold One at hi;omega)))
 have HLo:=hid (Nat.le_trans HLo.out (HT.out).size)
 change Code.wp _ _ _ _ (World.setCell w25 ⟨sb,12,none⟩ (.slice A12 xs12.length c12))
 clear HT
 generalize (World.setCell w25 ⟨sb,12,none⟩ (.slice A12 xs12.length c12))=w26 at *
 have HSt:Hid (∃ (s:Stt) (a:StAd),StBox sb s a w26∧RdSt w26 lo s a∧rawP ⟨l,false⟩=(s.pl,s12)):=hid ⟨_,_,HX.out,HS.out,HRaw.out⟩
 clear HX HS HRaw
 obtain ⟨s,a,hX,hS,hRaw⟩:=HSt.out
 have HX:=hid hX
 have HS:=hid hS
 have hR:=HRd.out
 have hF:=HFa.out
 rw [hRaw] at hR hF
 simp only at hR hF
 have HR:=hid hR
 have HF:=hid hF
 clear hR hF hRaw hX hS HRd HFa HSt
 have zrb:=HRb.out
 go_wp2_with fail
 clear zrb
 refine (done_any b s12 w26 HA.out).mono ?_
 rintro en wz ⟨rfl,rfl⟩
 cases hd:rDone s12 with
 | false =>
  have HR2:Hid (readP l=(zStP,2)):=hid (by rw [HR.out,hd,if_neg (by simp)])
  have HTh:=hid (show w26.there bO 0 13 from there_of_box HO.out)
  clear hd
  go_wp2_with (first
   | ((with_reducible show wpList _ _ _ (Oper.mk _ (Op.store 34 (.tmp 2) _) _ _ _ _::_) _ _);refine wpList_store_box rfl 34 _ _ rfl bO ((sttZ 0).arr adZ) rfl rfl HTh.out (by kernel_rfl) (by kernel_rfl) ?_;intro wS hrS htS hgS;have HRS:=hid hrS;have HGS:=hid hgS;clear hrS htS hgS)
   | fail)
  refine ret_box2 2 3 34 rfl bO _ _ (.int .i64 2) rfl rfl HRS.out Tryz.underlying34 rfl (by kernel_rfl) rfl ?_
  exact ⟨sttZ 0,adZ,by rw [HR2.out],by rw [HR2.out];rfl,RdSt.zero _ _ _,HB.out.grown HGS.out HB.out.size (fun k hk=>by injection hk with hk;have:=Hlb.out;omega)⟩
 | true =>
  by_cases hl0:l=[]
  ·have HR2:Hid (readP l=(zStP,2)):=hid (by rw [HR.out,if_neg (fun h=>h.2.1 hl0)])
   have HTh:=hid (show w26.there bO 0 13 from there_of_box HO.out)
   have hq:((bs l).toList==[])=true:=by rw [hl0,bs_toList];rfl
   have hq2:(bs l).toList.isEmpty=true:=by rw [hl0,bs_toList];rfl
   clear hd hl0
   go_wp2_with (first
    | ((with_reducible show wpList _ _ _ (Oper.mk _ (Op.store 34 (.tmp 2) _) _ _ _ _::_) _ _);refine wpList_store_box rfl 34 _ _ rfl bO ((sttZ 0).arr adZ) rfl rfl HTh.out (by kernel_rfl) (by kernel_rfl) ?_;intro wS hrS htS hgS;have HRS:=hid hrS;have HGS:=hid hgS;clear hrS htS hgS)
    | fail)
   refine ret_box2 2 3 34 rfl bO _ _ (.int .i64 2) rfl rfl HRS.out Tryz.underlying34 rfl (by kernel_rfl) rfl ?_
   exact ⟨sttZ 0,adZ,by rw [HR2.out],by rw [HR2.out];rfl,RdSt.zero _ _ _,HB.out.grown HGS.out HB.out.size (fun k hk=>by injection hk with hk;have:=Hlb.out;omega)⟩
  ·have hq:((bs l).toList==[])=false:=by rw [bs_toList];cases l with
    | nil=>exact absurd rfl hl0
    | cons x r=>rfl
   have hq2:(bs l).toList.isEmpty=false:=by rw [bs_toList];cases l with
    | nil=>exact absurd rfl hl0
    | cons x r=>rfl
   have HL0:=hid hl0
   have HXr:=hid (show w26.rangeAt sb 0 (s.arr a).toList from range_block HX.out rfl)
   clear hl0
   go_wp2_with (first
    | ((with_reducible show wpList _ _ _ (Oper.mk _ (Op.load 34 _) _ _ _ _::_) _ _);refine wpList_load_g rfl 34 (.tmp 7) rfl sb 0 rfl (s.arr a).toList _ HXr.out Tryz.underlying34 rfl (by kernel_rfl) ?_)
    | fail)
   refine (stText_any s a w26 HV.out HS.out.ok HF.out.2 HF.out.1).mono ?_
   rintro en wy ⟨rfl,hb⟩
   have HT:=hid (Turn.below (F:=One bO) hb)
   have HO:=hid (show StBox bO (sttZ 0) adZ _ from (hb.block bO (by have:=Hlb.out;have:=HLo.out;omega)).trans HO.out)
   have HX:=hid (show StBox sb s a _ from (hb.block sb (by have:=Hlb.out;have:=HLo.out;omega)).trans HX.out)
   have HB:=hid (HB.out.trans (hb.mono HB.out.size))
   have HS:=hid (HS.out.turn HT.out (fun i hi=>by have:=Hlb.out;unfold One at hi;omega))
   have HTh:=hid (show wy.there bO 0 13 from there_of_box HO.out)
   have HXr:=hid (show wy.rangeAt sb 0 (s.arr a).toList from range_block HX.out rfl)
   clear hb HT
   by_cases ht:textP s.pl=l
   ·have HR2:Hid (readP l=(s.pl,0)):=hid (by rw [HR.out,if_pos ⟨hd,HL0.out,ht⟩])
    have hq3:((bs (textP s.pl)).toList==(bs l).toList)=true:=by rw [bs_beq,ht];simp
    have hq4:((bs (textP s.pl)).toList != (bs l).toList)=false:=by rw [bne,hq3];rfl
    clear ht hd
    generalize textP s.pl=tx at *
    go_wp2_with (first
     | ((with_reducible show wpList _ _ _ (Oper.mk _ (Op.load 34 _) _ _ _ _::_) _ _);refine wpList_load_g rfl 34 (.tmp 7) rfl sb 0 rfl (s.arr a).toList _ HXr.out Tryz.underlying34 rfl (by kernel_rfl) ?_)
     | ((with_reducible show wpList _ _ _ (Oper.mk _ (Op.store 34 (.tmp 2) _) _ _ _ _::_) _ _);refine wpList_store_box rfl 34 _ _ rfl bO (s.arr a) rfl rfl HTh.out (by kernel_rfl) (by simp [Value.oneCell']) ?_;intro wS hrS htS hgS;have HRS:=hid hrS;have HGS:=hid hgS;clear hrS htS hgS)
     | fail)
    refine ret_box2 2 3 34 rfl bO _ _ (.int .i64 0) rfl rfl HRS.out Tryz.underlying34 rfl (by kernel_rfl) rfl ?_
    have hT:Turn (One bO) wy wS:=Turn.grown HGS.out (fun k hk=>(Option.some.inj hk).symm)
    refine ⟨s,a,by rw [HR2.out],by rw [HR2.out],(HS.out.turn hT (fun i hi=>by have:=Hlb.out;unfold One at hi;omega)).lower (by have:=Hlb.out;omega),HB.out.grown HGS.out HB.out.size (fun k hk=>by injection hk with hk;have:=Hlb.out;omega)⟩
   ·have HR2:Hid (readP l=(zStP,2)):=hid (by rw [HR.out,if_neg (fun h=>ht h.2.2)])
    have hq3:((bs (textP s.pl)).toList==(bs l).toList)=false:=by rw [bs_beq];simpa using ht
    have hq4:((bs (textP s.pl)).toList != (bs l).toList)=true:=by rw [bne,hq3];rfl
    clear ht hd
    generalize textP s.pl=tx at *
    go_wp2_with (first
     | ((with_reducible show wpList _ _ _ (Oper.mk _ (Op.store 34 (.tmp 2) _) _ _ _ _::_) _ _);refine wpList_store_box rfl 34 _ _ rfl bO ((sttZ 0).arr adZ) rfl rfl HTh.out (by kernel_rfl) (by kernel_rfl) ?_;intro wS hrS htS hgS;have HRS:=hid hrS;have HGS:=hid hgS;clear hrS htS hgS)
     | fail)
    refine ret_box2 2 3 34 rfl bO _ _ (.int .i64 2) rfl rfl HRS.out Tryz.underlying34 rfl (by kernel_rfl) rfl ?_
    exact ⟨sttZ 0,adZ,by rw [HR2.out],by rw [HR2.out];rfl,RdSt.zero _ _ _,HB.out.grown HGS.out HB.out.size (fun k hk=>by injection hk with hk;have:=Hlb.out;omega)⟩
end Go.Proofs.YthlpehhlhebhbaaGreatDoor
