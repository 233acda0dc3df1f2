/- Contracts and plain laws, joined: StBk, StEr. -/
import Derived.Test.YthlpehhlhebhbaaGreatDoorQbn
import Derived.Test.YthlpehhlhebhbaaGreatDoorQbk
import Derived.Test.YthlpehhlhebhbaaGreatDoorQbo
import Derived.Test.YthlpehhlhebhbaaGreatDoorQbj
/- The walk of StateBack (layer 46). -/
set_option linter.unusedSimpArgs false
set_option linter.unusedVariables false
namespace Go.Proofs.YthlpehhlhebhbaaGreatDoor
open Lib (hid)
open Go.RowKit
set_option maxRecDepth 100000
theorem few_ev {s:Stt} {n:Int} (h:FewS s n):(s.events.length:Int)≤n:=by
 have:=h.ev
 unfold fewAllB at this
 simp only [Bool.and_eq_true,decide_eq_true_eq] at this
 exact this.1
theorem few_nums {s:Stt} (h:FewS s 12) (hw:StWf s):NumsP s.pl:=by
 have he:=few_ev h
 refine ⟨?_,fun x hx=>(hw.sealed x hx).2.2.2,fun x hx=>⟨(hw.holds x hx).1.2,(hw.holds x hx).2.1.2⟩,?_,?_,?_,?_,?_,?_,?_,?_,?_,?_,?_⟩
 ·have:s.pl.events.length=s.events.length:=by simp [Stt.pl]
  omega
 ·exact Nat.le_trans h.queue (by omega)
 ·exact Nat.le_trans h.sent (by omega)
 ·exact Nat.le_trans h.refused (by omega)
 ·exact Nat.le_trans h.pairs (by omega)
 ·exact Nat.le_trans h.proofs (by omega)
 ·have:s.pl.notes.length=s.notes.length:=by simp [Stt.pl]
  have:=h.nl
  omega
 ·exact Nat.le_trans h.bad (by omega)
 ·exact Nat.le_trans h.holds (by omega)
 ·exact Nat.le_trans h.orders (by omega)
 ·exact Nat.le_trans h.sealed (by omega)
 ·exact Nat.le_trans h.debts (by omega)
theorem wf_pairs {s:Stt} (hw:StWf s):∀ x∈s.pairs.map prD,x.wf:=fun x hx=>by
 obtain ⟨y,hy,rfl⟩:=List.mem_map.1 hx
 have h:=hw.pairs y hy
 exact ⟨i64_of h.1,i64_of h.2.1,i64_of h.2.2.1,i64_of h.2.2.2⟩
/- The walk of StateErased (layer 46). -/
def EvL.at2 (y:EvL) (i:Nat):Prop:=(y.ev.causes≠[]∧slBlk y.cA=some i)∨(y.ev.files≠[]∧slBlk y.fA=some i)
theorem RdL.turn2 {T:Type} {sz:Nat} {enc:T→List Value} {w w':World} {A:Option Addr} {xs:List T} (h:RdL sz enc w w.heap.size A xs) (hb:∀ i,xs≠[]→slBlk A=some i→w'.heap[i]?=w.heap[i]?) (hs:w.heap.size≤w'.heap.size):RdL sz enc w' w'.heap.size A xs:=by
 by_cases hx:xs=[]
 ·subst hx
  exact RdL.nil_
 ·exact h.turn (fun i hi _=>hb i hx hi) hs
theorem EvLOk.turn2 {w w':World} {x:EvL} (h:EvLOk w w.heap.size x) (hb:∀ i,x.at2 i→w'.heap[i]?=w.heap[i]?) (hs:w.heap.size≤w'.heap.size):EvLOk w' w'.heap.size x :=
 ⟨⟨h.ok.ca.turn2 (fun i hx hi=>hb i (.inl ⟨hx,hi⟩)) hs,h.ok.fi.turn2 (fun i hx hi=>hb i (.inr ⟨hx,hi⟩)) hs,h.ok.cl,h.ok.fl,h.ok.tx⟩,h.cap⟩
structure EdI (w:World) (B g c k:Nat) (xs ys:List EvL):Prop where
 own:OwnL w B 56 12 EvL.cs (some ⟨g,0,none⟩) c ys
 len:ys.length=xs.length
 ev:∀ m (h1:m<xs.length) (h2:m<ys.length),EditR k m xs[m].ev ys[m].ev
 el:∀ y∈ys,EvLOk w w.heap.size y∧(∀ i,y.at2 i→i≠g)∧y.ev.causes.length≤1000000∧y.ev.files.length≤1000000
theorem EdI.turn {w w':World} {B g c k:Nat} {xs ys:List EvL} (h:EdI w B g c k xs ys) (hb:Below w.heap.size w w'):EdI w' B g c k xs ys :=
 ⟨h.own.below hb,h.len,h.ev,fun y hy=>⟨(h.el y hy).1.now hb,(h.el y hy).2⟩⟩
theorem EdI.put {w:World} {B g c k:Nat} {xs ys:List EvL} (h:EdI w B g c k xs ys) {j o:Nat} (hj:j<ys.length) (hj2:j<xs.length) (v:Value) (y:EvL) (ho:o<12) (hy:EvL.cs y=(EvL.cs ys[j]).set o v)
  (hok:EvLOk w w.heap.size y) (hat:∀ i,y.at2 i→i≠g) (hs:y.ev.causes.length≤1000000∧y.ev.files.length≤1000000) (he:EditR k j xs[j].ev y.ev) :
  EdI (w.setCell ⟨g,j * 12+o,none⟩ v) B g c k xs (ys.set j y):=by
 have nb:∀ i,i≠g→(w.setCell ⟨g,j * 12+o,none⟩ v).heap[i]?=w.heap[i]?:=fun i hi=>heap_setCell_other w ⟨g,j * 12+o,none⟩ i v hi
 have hsz:w.heap.size≤(w.setCell ⟨g,j * 12+o,none⟩ v).heap.size:=by simp [World.setCell]
 refine ⟨h.own.setc layEvL j o hj ho v y hy,by rw [List.length_set];exact h.len,fun m h1 h2=>?_,fun z hz=>?_⟩
 ·by_cases e:m=j
  ·subst e
   rw [List.getElem_set_self]
   exact he
  ·rw [List.getElem_set_ne (fun e2=>e e2.symm)]
   exact h.ev m h1 (by simpa using h2)
 ·have hz2:EvLOk w w.heap.size z∧(∀ i,z.at2 i→i≠g)∧z.ev.causes.length≤1000000∧z.ev.files.length≤1000000:=by
   rcases List.mem_or_eq_of_mem_set hz with hz | rfl
   ·exact h.el z hz
   ·exact ⟨hok,hat,hs⟩
  exact ⟨hz2.1.turn2 (fun i hi=>nb i (hz2.2.1 i hi)) hsz,hz2.2⟩
theorem EdI.text {w:World} {B g c k:Nat} {xs ys:List EvL} (h:EdI w B g c k xs ys) {j:Nat} (hj:j<ys.length) (hj2:j<xs.length) (hh:hitE k j xs[j].ev=true) (t:ByteArray) (ht:t.size≤9223372036854775807) :
  EdI (w.setCell ⟨g,j * 12+9,none⟩ (.string t)) B g c k xs (ys.set j {ys[j] with ev:={ys[j].ev with text:=t}}):=by
 have h1:=h.el _ (List.getElem_mem hj)
 obtain ⟨e1,e2,e3,e4,e5,e6,e7,e8,e9,e10,e11⟩:=h.ev j hj2 hj
 exact h.put hj hj2 _ _ (by omega) rfl ⟨⟨h1.1.ok.ca,h1.1.ok.fi,h1.1.ok.cl,h1.1.ok.fl,ht⟩,h1.1.cap⟩ h1.2.1 h1.2.2 ⟨e1,e2,e3,e4,e5,e6,e7,e8,e9,e10,fun hq=>by rw [hh] at hq;cases hq⟩
theorem EdI.files {w:World} {B g c k:Nat} {xs ys:List EvL} (h:EdI w B g c k xs ys) {j:Nat} (hj:j<ys.length) (hj2:j<xs.length) (hh:hitE k j xs[j].ev=true) (fl:List Int) (A:Option Addr) (fc:Nat) (hr:RdI w w.heap.size A fl)
  (hA:∀ i,fl≠[]→slBlk A=some i→i≠g) (hl:fl.length≤1000000) (hc:fl.length≤fc) :
  EdI (w.setCell ⟨g,j * 12+10,none⟩ (.slice A fl.length fc)) B g c k xs (ys.set j {ys[j] with ev:={ys[j].ev with files:=fl},fA:=A,fc:=fc}):=by
 have h1:=h.el _ (List.getElem_mem hj)
 obtain ⟨e1,e2,e3,e4,e5,e6,e7,e8,e9,e10,e11⟩:=h.ev j hj2 hj
 refine h.put hj hj2 _ _ (by omega) rfl ⟨⟨h1.1.ok.ca,hr,h1.1.ok.cl,by show fl.length≤9223372036854775807;omega,h1.1.ok.tx⟩,hc⟩ (fun i hi=>?_) ⟨h1.2.2.1,hl⟩ ⟨e1,e2,e3,e4,e5,e6,e7,e8,e9,e10,fun hq=>by rw [hh] at hq;cases hq⟩
 rcases hi with ⟨hx,hi⟩ | ⟨hx,hi⟩
 ·exact h1.2.1 i (.inl ⟨hx,hi⟩)
 ·exact hA i hx hi
theorem EdI.cell {w:World} {B g c k:Nat} {xs ys:List EvL} (h:EdI w B g c k xs ys) (j o:Nat) (hj:j<ys.length) (v:Value) (hv:(EvL.cs ys[j])[o]?=some v):w.cell? ⟨g,j * 12+o,none⟩=some v:=h.own.cellc layEvL j o hj v hv
theorem StOk.events_ {w:World} {B:Nat} {s:Stt} {a:StAd} (h:StOk w B s a) {xs:List EvL} {A:Option Addr} {c:Nat} (hx:RdL 12 EvL.cs w B A xs) (he:∀ x∈xs,EvLOk w B x) (hl:xs.length≤9223372036854775807) (hc:xs.length≤c):StOk w B {s with events:=xs} {a with ke:=(A,c)} :=
 ⟨hx,h.kq,h.ks,h.kr,h.kp,h.kf,h.kn,h.kb,h.kh,h.ko,h.kx,h.kd,he,h.nos,hl,hc,h.lkq,h.ckq,h.lks,h.cks,h.lkr,h.ckr,h.lkp,h.ckp,h.lkf,h.ckf,h.lkn,h.ckn,h.lkb,h.ckb,h.lkh,h.ckh,h.lko,h.cko,h.lkx,h.ckx,h.lkd,h.ckd⟩
theorem few_caps {s:Stt} (h:FewS s 12):CapS s:=by
 have he:=few_ev h
 have hq:=h.ev
 unfold fewAllB at hq
 simp only [Bool.and_eq_true,decide_eq_true_eq] at hq
 refine ⟨by omega,fun x hx=>?_,Nat.le_trans h.queue (by omega),Nat.le_trans h.sent (by omega),Nat.le_trans h.refused (by omega),Nat.le_trans h.pairs (by omega),Nat.le_trans h.proofs (by omega),Nat.le_trans h.nl (by omega),fun x hx=>Nat.le_trans (h.notes x hx) (by omega),Nat.le_trans h.bad (by omega),Nat.le_trans h.holds (by omega),Nat.le_trans h.orders (by omega),Nat.le_trans h.sealed (by omega),Nat.le_trans h.debts (by omega)⟩
 have h1:=List.all_eq_true.1 hq.2 x hx
 unfold fewE at h1
 simp only [Bool.and_eq_true,decide_eq_true_eq] at h1
 omega
set_option maxHeartbeats 16000000 in
theorem stateErased_any (s:Stt) (a:StAd) (n:Nat) (x:List UInt8) (fl:List Int) (FA:Option Addr) (fc:Nat) (w:World) (hV:Vs w.heap.size w) (hs:StOk w w.heap.size s a) (ws:StWf s) (hn:n<256) (hx:x.length≤9223372036854775807) (hfl:RdI w w.heap.size FA fl) (hfc:fl.length≤fc) (hf2:fl.length≤9223372036854775807) :
  Calls Tryz.prog 7 #[s.v a,.int .u8 n,.string (bs x),.slice FA fl.length fc] w fun e w'=>e=.returned (.bool true)∧Below w.heap.size w w':=by
 have hb0:Below w.heap.size w (w.alloc (.cells (s.arr a) 34)):=by repeat (first | with_reducible exact Below.refl _ _ | with_reducible assumption | with_reducible refine Below.drew ?_ | with_reducible refine Below.alloc ?_ (by first | omega | (simp;done) | (simp;omega)) _)
 have HX:Hid (StBox w.heap.size s a (w.alloc (.cells (s.arr a) 34))):=hid (MapKept.heap_alloc w _).1
 have HS:=hid hs
 have HB:=hid hb0
 have HV:=hid hV
 have HWs:=hid ws
 have HFl:=hid hfl
 have HFc:=hid hfc
 have hxs:(bs x).size=x.length:=bs_size x
 clear hb0 hs hV ws hfl hfc
 go_enter Tryz.func7,Tryz.ntmps7
 go_upto_region 1 with fail
 generalize w.alloc (.cells (s.arr a) 34)=w0 at *
 obtain ⟨b4,hb4⟩:∃ z,z=w.heap.size:=⟨_,rfl⟩
 rw [← hb4] at HX ⊢
 have Hb4:Hid (w.heap.size≤b4):=hid (by omega)
 clear hb4
 go_wp2_with fail
 refine (small46_any w0 (HV.out.on HB.out)).mono ?_
 rintro e w1 ⟨rfl,hb⟩
 have HX:=hid (HX.out.now hb)
 have HB:=hid (HB.out.trans ((hb).mono HB.out.size))
 clear hb
 have HXr:=hid (range_block HX.out rfl)
 go_wp2_with (first
   | ((with_reducible show wpList _ _ _ (Oper.mk _ (Op.load 34 (.tmp 4)) _ _ _ _::_) _ _);refine wpList_load_g rfl 34 (.tmp 4) rfl b4 0 rfl (s.arr a).toList _ (HXr.out) Tryz.underlying34 rfl (by kernel_rfl) ?_)
   | fail)
 clear HXr
 refine (rsFew_any s a 12 w1 (HS.out.now HB.out)).mono ?_
 rintro e w2 ⟨v1,rfl,hv1,hb⟩
 have HV1:=hid hv1
 have HX:=hid (HX.out.now hb)
 have HB:=hid (HB.out.trans ((hb).mono HB.out.size))
 clear hb hv1
 cases v1
 ·skip
  have HXr:=hid (range_block HX.out rfl)
  go_wp2_with (first
    | ((with_reducible show wpList _ _ _ (Oper.mk _ (Op.load 34 (.tmp 4)) _ _ _ _::_) _ _);refine wpList_load_g rfl 34 (.tmp 4) rfl b4 0 rfl (s.arr a).toList _ (HXr.out) Tryz.underlying34 rfl (by kernel_rfl) ?_)
    | fail)
  clear HXr
  go_ret
  exact ⟨rfl,HB.out⟩
 have HF1:=hid (HV1.out rfl)
 clear HV1
 have HpS:Hid (s.pairs.length≤1000000):=hid (Nat.le_trans HF1.out.pairs (by omega))
 have HpW:=hid (wf_pairs HWs.out)
 have HXr:=hid (range_block HX.out rfl)
 go_wp2_with (first
   | ((with_reducible show wpList _ _ _ (Oper.mk _ (Op.load 34 (.tmp 4)) _ _ _ _::_) _ _);refine wpList_load_g rfl 34 (.tmp 4) rfl b4 0 rfl (s.arr a).toList _ (HXr.out) Tryz.underlying34 rfl (by kernel_rfl) ?_)
   | fail)
 clear HXr
 refine (stRight_any s a w2 (HS.out.now HB.out) HpS.out HpW.out).mono ?_
 rintro e w3 ⟨rfl,hb⟩
 have HX:=hid (HX.out.now hb)
 have HB:=hid (HB.out.trans ((hb).mono HB.out.size))
 clear hb
 cases hR:stateB s with
 | false =>
  clear hR
  have HXr:=hid (range_block HX.out rfl)
  go_wp2_with (first
    | ((with_reducible show wpList _ _ _ (Oper.mk _ (Op.load 34 (.tmp 4)) _ _ _ _::_) _ _);refine wpList_load_g rfl 34 (.tmp 4) rfl b4 0 rfl (s.arr a).toList _ (HXr.out) Tryz.underlying34 rfl (by kernel_rfl) ?_)
    | fail)
  clear HXr
  go_ret
  exact ⟨rfl,HB.out⟩
 | true =>
  have HR:=hid hR
  clear hR
  have hel:s.events.length≤12:=by have:=few_ev HF1.out;omega
  have zx:=HX.out.ke
  by_cases h0:s.events.length=0
  ·have q0:((s.events.length:Int)==0)=true:=by simp [h0]
   clear h0
   go_wp2_with fail
   go_ret
   exact ⟨rfl,HB.out⟩
  have q0:((s.events.length:Int)==0)=false:=by rw [beq_eq_false_iff_ne];omega
  by_cases h1:300<x.length
  ·have q1:decide ((300:Int)<(x.length:Int))=true:=decide_eq_true (by omega)
   clear h1
   go_wp2_with fail
   go_ret
   exact ⟨rfl,HB.out⟩
  have q1:decide ((300:Int)<(x.length:Int))=false:=decide_eq_false (by omega)
  by_cases h2:4<fl.length
  ·have q2:decide ((4:Int)<(fl.length:Int))=true:=decide_eq_true (by omega)
   clear h2
   go_wp2_with fail
   go_ret
   exact ⟨rfl,HB.out⟩
  have q2:decide ((4:Int)<(fl.length:Int))=false:=decide_eq_false (by omega)
  have HF4:Hid (fl.length≤4):=hid (by omega)
  have HX3:Hid (x.length≤300):=hid (by omega)
  go_upto_region 5 with fail
  have hk:n % s.events.length<s.events.length:=Nat.mod_lt _ (by omega)
  rw [show ((n:Int) % (s.events.length:Int))=((n % s.events.length:Nat):Int) from (Int.natCast_emod n s.events.length).symm]
  generalize n % s.events.length=k at *
  clear zx q0 q1 h0 h1 h2
  obtain ⟨bb,off,hA,hbb,hcc⟩:=(HS.out.now HB.out).ke.at_ hk
  have zx:=HX.out.ke
  rw [hA] at zx
  obtain ⟨kd,hkd⟩:∃ z,z=s.events[k].ev.kind:=⟨_,rfl⟩
  have zk:=hcc 3 (.int .i64 kd) (by rw [hkd];rfl)
  have HKd0:=hid hkd
  have HEl:Hid (s.events.length≤12):=hid hel
  clear hcc hA
  clear hkd
  by_cases h3:kd=0
  case neg =>
   have q3:(kd != 0)=true:=by simpa using h3
   clear h3
   go_wp2_with fail
   go_ret
   exact ⟨rfl,HB.out⟩
  have HKd:Hid (∀ h:k<s.events.length,(s.events[k]'h).ev.kind=0):=hid (fun h=>by have:=HKd0.out;rw [← this];exact h3)
  subst h3
  have HKk:Hid (k<s.events.length):=hid hk
  have HW3:Hid (w.heap.size≤w3.heap.size):=hid HB.out.size
  clear HKd0 hk
  go_upto_region 7 with fail
  clear zx zk hbb
  have HXl:Hid (b4<w3.heap.size):=hid HX.out.lt
  have HXr:=hid (range_block HX.out rfl)
  go_wp2_with (first
    | ((with_reducible show wpList _ _ _ (Oper.mk _ (Op.load 34 (.tmp 4)) _ _ _ _::_) _ _);refine wpList_load_g rfl 34 (.tmp 4) rfl b4 0 rfl (s.arr a).toList _ (HXr.out) Tryz.underlying34 rfl (by kernel_rfl) ?_)
    | fail)
  clear HXr
  refine (stCopy_any s a w3 (HS.out.now HB.out) (few_caps HF1.out)).mono ?_
  rintro e w4 ⟨t2,c2,lo,rfl,hp2,hlo,hrd,hrd2,hev,hb⟩
  have HP2:=hid hp2
  have HLo:=hid hlo
  have HRd:=hid hrd2
  have HEv:=hid hev
  have HCp:=hid hb
  have HX:=hid (HX.out.now hb)
  have HB:=hid (HB.out.trans ((hb).mono HB.out.size))
  clear hp2 hlo hrd hrd2 hev hb
  go_upto_region 8 with fail
  change Code.wp _ _ _ _ (w4.alloc (.cells (t2.arr c2) 34))
  have hb:Below w4.heap.size w4 (w4.alloc (.cells (t2.arr c2) 34)):=by repeat (first | with_reducible exact Below.refl _ _ | with_reducible assumption | with_reducible refine Below.drew ?_ | with_reducible refine Below.alloc ?_ (by first | omega | (simp;done) | (simp;omega)) _)
  have HZ:Hid (StBox w4.heap.size t2 c2 (w4.alloc (.cells (t2.arr c2) 34))):=hid (MapKept.heap_alloc w4 _).1
  have HWl:Hid (w3.heap.size≤w4.heap.size∧w.heap.size≤w3.heap.size):=hid ⟨HCp.out.size,HW3.out⟩
  have hkx:k<t2.events.length:=by have:=HEv.out.len;have:=HKk.out;omega
  obtain ⟨g,hA,hgb,hg4⟩:=HEv.out.own.some_ (fun e=>by rw [e] at hkx;simp at hkx)
  obtain ⟨⟨A2,ec⟩,kq2,ks2,kr2,kp2,kf2,kn2,kb2,kh2,ko2,kx2,kd2⟩:=c2
  simp only at hA
  subst hA
  have hgl:g<lo:=HEv.out.blk g rfl
  have hv2:evsL t2.events=evsL s.events:=congrArg StP.events HP2.out
  have HI:Hid (EdI w4 w3.heap.size g ec k t2.events t2.events):=hid ⟨HEv.out.own,rfl,fun m h1 h2=>⟨rfl,rfl,rfl,rfl,rfl,rfl,rfl,rfl,rfl,rfl,fun _=>rfl⟩,fun y hy=>by
   obtain ⟨m,hm,rfl⟩:=List.getElem_of_mem hy
   have h1:=HEv.out.new m hm (by rw [← HEv.out.len];exact hm)
   have hm2:m<s.events.length:=by rw [← HEv.out.len];exact hm
   have h2:t2.events[m].ev=s.events[m].ev:=by
    have h3:=congrArg (fun l=>l[m]?) hv2
    simpa [evsL,hm,hm2] using h3
   have h3:=(few_caps HF1.out).evc _ (List.getElem_mem hm2)
   rw [h2]
   exact ⟨h1.1.1,fun i hi=>by
    have h4:t2.events[m].at_ i:=hi.elim (fun h=>.inl h.2) (fun h=>.inr h.2)
    have:=h1.2 i h4
    omega,h3.1,h3.2⟩⟩
  have HKx:=hid hkx
  have HG:Hid (g<lo∧w3.heap.size≤g∧g<w4.heap.size):=hid ⟨hgl,hgb,hg4⟩
  have HV2:=hid hv2
  have HX:=hid (HX.out.now hb)
  have HB:=hid (HB.out.trans ((hb).mono HB.out.size))
  have HI:=hid (HI.out.turn hb)
  clear hkx hgb hg4 hgl hv2
  have HRd:=hid (HRd.out.turn (Turn.below (F:=fun _=>False) hb) (fun _ hf=>hf.elim))
  clear hb
  generalize w4.alloc (.cells (t2.arr ⟨(some ⟨g,0,none⟩,ec),kq2,ks2,kr2,kp2,kf2,kn2,kb2,kh2,ko2,kx2,kd2⟩) 34)=w5 at *
  obtain ⟨b11,hb11⟩:∃ z,z=w4.heap.size:=⟨_,rfl⟩
  rw [← hb11] at HZ ⊢
  have HN:Hid (b4<b11∧g<b11∧w3.heap.size≤b11∧w.heap.size≤g):=hid (by have h1:=HG.out;have h2:=HWl.out;have h3:=HX.out.lt;have h4:=HXl.out;omega)
  clear hb11
  have HNe:Hid (b4≠g∧b11≠g):=hid (by have:=HN.out;have:=HG.out;have:=HXl.out;omega)
  have HH:Hid (∀ h:k<t2.events.length,hitE k k (t2.events[k]'h).ev=true):=hid (fun _=>by unfold hitE;simp)
  have zx:=HX.out.ke
  have zz:=HZ.out.ke
  have ql:(t2.events.length != s.events.length)=false:=by simp [HEv.out.len]
  have ql2:((t2.events.length:Int) != (s.events.length:Int))=false:=by simp [HEv.out.len]
  go_upto_region 10 with fail
  clear ql ql2 zx
  have hkx:=HKx.out
  have fz:=fun o=>HI.out.own.freec o
  obtain ⟨v9,z9⟩:∃ v,w5.cell? ⟨g,k * 12+9,none⟩=some v:=⟨_,HI.out.cell k 9 hkx _ rfl⟩
  go_upto_region 11 with fail
  clear fz z9 zz
  change Code.wp _ _ _ _ (World.setCell w5 ⟨g,k * 12+9,none⟩ (.string (bs x)))
  obtain ⟨y1,HI⟩:∃ ys,Hid (EdI (World.setCell w5 ⟨g,k * 12+9,none⟩ (.string (bs x))) w3.heap.size g ec k t2.events ys):=⟨_,hid (HI.out.text hkx hkx (HH.out hkx) (bs x) (by rw [bs_size];exact hx))⟩
  have HX:=hid (HX.out.set' g (k * 12+9) (.string (bs x)) HNe.out.1)
  have HZ:=hid (HZ.out.set' g (k * 12+9) (.string (bs x)) HNe.out.2)
  have HB:=hid (HB.out.setCell (p:=⟨g,k * 12+9,none⟩) HN.out.2.2.2 (.string (bs x)))
  have HRd:=hid (HRd.out.turn ((Turn.refl (One g) w5).set g (k * 12+9) (.string (bs x)) (.inl rfl)) (fun i hi=>by have:=HG.out;unfold One at hi;omega))
  generalize World.setCell w5 ⟨g,k * 12+9,none⟩ (.string (bs x))=w6 at *
  have hky:k<y1.length:=by rw [HI.out.len];exact hkx
  have fz:=fun o=>HI.out.own.freec o
  obtain ⟨v10,z10⟩:∃ v,w6.cell? ⟨g,k * 12+10,none⟩=some v:=⟨_,HI.out.cell k 10 hky _ rfl⟩
  have zz:=HZ.out.ke
  go_upto_region 12 with fail
  clear fz z10 zz
  change Code.wp _ _ _ _ (World.setCell w6 ⟨g,k * 12+10,none⟩ (.slice FA fl.length fc))
  obtain ⟨y2,HI⟩:∃ ys,Hid (EdI (World.setCell w6 ⟨g,k * 12+10,none⟩ (.slice FA fl.length fc)) w3.heap.size g ec k t2.events ys):=⟨_,hid (HI.out.files hky hkx (HH.out hkx) fl FA fc (HFl.out.now HB.out) (fun i hne hi=>by
   obtain ⟨b,off,e,hb,_⟩:=HFl.out.at_ (List.length_pos_iff.2 hne)
   rw [e] at hi
   have h1:=Option.some.inj hi
   have h2:=HN.out
   have h3:b<w.heap.size:=hb
   have h4:b=i:=h1
   omega) (by have:=HF4.out;omega) HFc.out)⟩
  have HX:=hid (HX.out.set' g (k * 12+10) (.slice FA fl.length fc) HNe.out.1)
  have HZ:=hid (HZ.out.set' g (k * 12+10) (.slice FA fl.length fc) HNe.out.2)
  have HB:=hid (HB.out.setCell (p:=⟨g,k * 12+10,none⟩) HN.out.2.2.2 (.slice FA fl.length fc))
  have HRd:=hid (HRd.out.turn ((Turn.refl (One g) w6).set g (k * 12+10) (.slice FA fl.length fc) (.inl rfl)) (fun i hi=>by have:=HG.out;unfold One at hi;omega))
  generalize World.setCell w6 ⟨g,k * 12+10,none⟩ (.slice FA fl.length fc)=w7 at *
  clear hky hkx
  have HT7:Hid (Turn (One g) w7 w7):=hid (Turn.refl _ _)
  have HXt:Hid (t2.events.length≤12):=hid (by have:=HEv.out.len;have:=HEl.out;omega)
  go_wp2_with fail
  go_loopw [12] (fun i wr=>∃ (j:Nat) (ys:List EvL),j≤t2.events.length∧i=.int .i64 j∧EdI wr w3.heap.size g ec k t2.events ys∧Turn (One g) w7 wr) (fun i _=>t2.events.length - (intOf i).toNat)
  case atStart=>exact ⟨0,y2,Nat.zero_le _,rfl,HI.out,HT7.out⟩
  case round =>
   obtain ⟨j,ys,hj,rfl,hi,ht⟩:=hrel
   have HI:=hid hi
   have HT:=hid ht
   have HZ:=hid (show StBox b11 t2 _ wr from (ht.block b11 HZ.out.lt HNe.out.2).trans HZ.out)
   clear hi ht HT7
   have hx12:=HXt.out
   have zz:=HZ.out.ke
   by_cases hlt:j<t2.events.length
   ·have hjy:j<ys.length:=by rw [HI.out.len];exact hlt
    have HJ:=hid hjy
    have fz:=fun o=>HI.out.own.freec o
    obtain ⟨kd,z3,hkd⟩:∃ kd,wr.cell? ⟨g,j * 12+3,none⟩=some (.int .i64 kd)∧Hid (∀ h,kd=(ys[j]'h).ev.kind):=⟨_,HI.out.cell j 3 hjy _ rfl,hid (fun _=>rfl)⟩
    obtain ⟨tg,z5,htg⟩:∃ tg,wr.cell? ⟨g,j * 12+5,none⟩=some (.int .i64 tg)∧Hid (∀ h,tg=(ys[j]'h).ev.target):=⟨_,HI.out.cell j 5 hjy _ rfl,hid (fun _=>rfl)⟩
    obtain ⟨v9,z9⟩:∃ v,wr.cell? ⟨g,j * 12+9,none⟩=some v:=⟨_,HI.out.cell j 9 hjy _ rfl⟩
    have HZr:Hid (∃ (j':Nat) (ys:List EvL),j'≤t2.events.length∧(Value.int .i64 ((j:Int)+1))=.int .i64 j'∧EdI wr w3.heap.size g ec k t2.events ys∧Turn (One g) w7 wr):=hid ⟨j+1,ys,by omega,by simp,HI.out,HT.out⟩
    have HE1:Hid (∀ h,EditR k j (t2.events[j]'hlt).ev (ys[j]'h).ev):=hid (fun h=>HI.out.ev j hlt h)
    clear hjy
    by_cases h1:kd=1
    case neg =>
     have q1:(kd==1)=false:=beq_eq_false_iff_ne.2 h1
     clear h1
     go_wp2_with fail
     go_roundw
     case rel=>exact HZr.out
     case measure=>simp [intOf];omega
    have HK1:Hid (∀ h,(ys[j]'h).ev.kind=1):=hid (fun h=>by rw [← hkd.out h];exact h1)
    subst h1
    by_cases h2:tg=k
    case neg =>
     have q2:(tg==(k:Int))=false:=beq_eq_false_iff_ne.2 h2
     clear h2
     go_wp2_with fail
     go_roundw
     case rel=>exact HZr.out
     case measure=>simp [intOf];omega
    have HHj:Hid (hitE k j (t2.events[j]'hlt).ev=true):=hid (by
     obtain ⟨e1,e2,e3,e4,e5,e6,e7⟩:=HE1.out HJ.out
     unfold hitE
     rw [← e4,← e6,HK1.out HJ.out,← htg.out HJ.out,h2]
     simp)
    have q2:(tg==(k:Int))=true:=beq_iff_eq.2 h2
    clear h2 hkd htg HZr
    have hx3:=HX3.out
    go_upto_region 17 with (first
      | ((with_reducible show wpList _ _ _ (Oper.mk _ (Op.binOp .add 9 _ _ _) _ _ _ _::_) _ _);refine wp_cat rfl rfl Tryz.underlying9 rfl rfl (by first | omega | (simp;done) | (simp;omega)) ?_)
      | fail)
    change Code.wp _ _ _ _ (World.setCell wr ⟨g,j * 12+9,none⟩ (.string (bs (115::101::99::114::101::116::45::x))))
    obtain ⟨tx,htx⟩:∃ z,z=(115::101::99::114::101::116::45::x:List UInt8):=⟨_,rfl⟩
    rw [← htx]
    have HTl:Hid (tx.length≤9223372036854775807):=hid (by rw [htx];simp only [List.length_cons];omega)
    clear htx hx3 fz z3 z5 z9 zz
    have ht2:=HT.out.set g (j * 12+9) (.string (bs tx)) (.inl rfl)
    obtain ⟨y1,HI⟩:∃ ys,Hid (EdI (World.setCell wr ⟨g,j * 12+9,none⟩ (.string (bs tx))) w3.heap.size g ec k t2.events ys):=⟨_,hid (HI.out.text HJ.out hlt HHj.out (bs tx) (by rw [bs_size];exact HTl.out))⟩
    have HZ:=hid (HZ.out.set' g (j * 12+9) (.string (bs tx)) HNe.out.2)
    have HT2:=hid ht2
    clear ht2
    generalize World.setCell wr ⟨g,j * 12+9,none⟩ (.string (bs tx))=wq at *
    have hjy:j<y1.length:=by rw [HI.out.len];exact hlt
    have fz:=fun o=>HI.out.own.freec o
    obtain ⟨v10,z10⟩:∃ v,wq.cell? ⟨g,j * 12+10,none⟩=some v:=⟨_,HI.out.cell j 10 hjy _ rfl⟩
    have zz:=HZ.out.ke
    have HZr:Hid (∃ (j':Nat) (ys:List EvL),j'≤t2.events.length∧(Value.int .i64 ((j:Int)+1))=.int .i64 j'∧EdI (World.setCell wq ⟨g,j * 12+10,none⟩ (.slice none 0 0)) w3.heap.size g ec k t2.events ys∧Turn (One g) w7 (World.setCell wq ⟨g,j * 12+10,none⟩ (.slice none 0 0))):=hid ⟨j+1,_,by omega,by simp,HI.out.files hjy hlt HHj.out [] none 0 RdL.nil_ (fun i h=>absurd rfl h) (by simp) (by simp),HT2.out.set g _ _ (.inl rfl)⟩
    clear hjy
    go_wp2_with fail
    go_roundw
    case rel=>exact HZr.out
    case measure=>simp [intOf];omega
   ·have hje:j=t2.events.length:=by omega
    have d4:decide (j<t2.events.length)=false:=decide_eq_false hlt
    clear hlt
    have HYl:=hid HI.out.len
    have fz0:=zz
    have hgl:∀ i,One g i→i<lo:=fun i hi=>by have:=HG.out;unfold One at hi;omega
    have hb7:=HT.out.to_below (B:=w.heap.size) HB.out.size (fun i hi=>by have:=HN.out;unfold One at hi;omega)
    have HB:=hid (HB.out.trans hb7)
    have HX:Hid (StBox b4 s a wr):=hid ((HT.out.block b4 HX.out.lt HNe.out.1).trans HX.out)
    have HRd:=hid (HRd.out.turn HT.out hgl)
    have HZ:Hid (StBox b11 {t2 with events:=ys} ⟨(some ⟨g,0,none⟩,ec),kq2,ks2,kr2,kp2,kf2,kn2,kb2,kh2,ko2,kx2,kd2⟩ wr):=hid (by
     have h1:=HZ.out
     unfold StBox at h1 ⊢
     rw [h1]
     show some (Obj.cells (t2.arr _) _ _)=some (Obj.cells (Stt.arr _ _) _ _)
     unfold Stt.arr
     simp only [HYl.out])
    have HSb:Hid (StOk wr wr.heap.size {t2 with events:=ys} ⟨(some ⟨g,0,none⟩,ec),kq2,ks2,kr2,kp2,kf2,kn2,kb2,kh2,ko2,kx2,kd2⟩):=hid (StOk.events_ HRd.out.ok (HI.out.own.rd layEvL) (fun y hy=>(HI.out.el y hy).1) (by rw [HYl.out];have:=HXt.out;omega) HI.out.own.len_le)
    clear hb7 hgl hje
    go_upto_region 18 with fail
    clear zz d4 fz0
    obtain ⟨c3,hc3⟩:∃ z:StAd,z=⟨(some ⟨g,0,none⟩,ec),kq2,ks2,kr2,kp2,kf2,kn2,kb2,kh2,ko2,kx2,kd2⟩:=⟨_,rfl⟩
    obtain ⟨t3,ht3⟩:∃ z:Stt,z={t2 with events:=ys}:=⟨_,rfl⟩
    rw [← hc3,← ht3] at HZ HSb
    have HP3:Hid (t3.pl={s.pl with events:=evsL t3.events}):=hid (by rw [ht3,← HP2.out];rfl)
    have HL3:Hid (t3.events.length=s.events.length):=hid (by rw [ht3];show ys.length=_;rw [HYl.out,HEv.out.len])
    have HE3:Hid (∀ m (h1:m<(evsL s.events).length) (h2:m<(evsL t3.events).length),EditR k m (evsL s.events)[m] (evsL t3.events)[m]):=hid (fun m h1 h2=>by
     have h3:m<t2.events.length:=by rw [← HV2.out] at h1;simpa using h1
     have h4:m<ys.length:=by rw [HYl.out];exact h3
     have h5:=HI.out.ev m h3 h4
     have e1:(evsL s.events)[m]=t2.events[m].ev:=by
      have:=congrArg (fun l=>l[m]?) HV2.out
      simp only [List.getElem?_eq_getElem h1] at this
      rw [List.getElem?_eq_getElem (by simpa using h3)] at this
      have:=Option.some.inj this
      rw [← this]
      simp
     have e2:(evsL t3.events)[m]=ys[m].ev:=by
      subst ht3
      simp
     rw [e1,e2]
     exact h5)
    have HEc:Hid (∀ y∈t3.events,y.ev.causes.length≤1000000∧y.ev.files.length≤1000000):=hid (fun y hy=>by
     subst ht3
     exact (HI.out.el y hy).2.2)
    have HPp:Hid (t3.pairs=s.pairs):=hid (congrArg StP.pairs HP3.out)
    clear hc3 ht3 HI HT HRd HYl HEv HV2 HP2 HXt
    have HZr:=hid (range_block HZ.out rfl)
    go_wp2_with (first
      | ((with_reducible show wpList _ _ _ (Oper.mk _ (Op.load 34 (.tmp 11)) _ _ _ _::_) _ _);refine wpList_load_g rfl 34 (.tmp 11) rfl b11 0 rfl (t3.arr c3).toList _ (HZr.out) Tryz.underlying34 rfl (by kernel_rfl) ?_)
      | fail)
    clear HZr
    refine (stRight_any t3 c3 wr HSb.out (by rw [HPp.out];exact HpS.out) (by rw [HPp.out];exact HpW.out)).mono ?_
    rintro e w8 ⟨rfl,hb⟩
    have HZ:=hid (HZ.out.now hb)
    have HSb:=hid (HSb.out.now hb)
    have HX:=hid (HX.out.now hb)
    have HB:=hid (HB.out.trans ((hb).mono HB.out.size))
    clear hb
    cases hR3:stateB t3 with
    | false =>
     clear hR3
     go_wp2_with fail
     go_ret
     exact ⟨rfl,HB.out⟩
    | true =>
     have HR3:=hid hR3
     clear hR3
     have HO1:Hid (openC (evsL s.events)=0):=hid (by
      have h:=HR.out
      unfold stateB at h
      simp only [Bool.and_eq_true,beq_iff_eq] at h
      exact h.1)
     have HO2:Hid (openC (evsL t3.events)=0):=hid (by
      have h:=HR3.out
      unfold stateB at h
      simp only [Bool.and_eq_true,beq_iff_eq] at h
      exact h.1)
     have HX8:=HX
     have HZ8:=HZ
     have HS8:=HSb
     have HBw:=HB
     have HB8:Hid (Below w8.heap.size w8 w8):=hid (Below.refl _ _)
     clear HX HZ HSb HB
     have zx:=HX8.out.ke
     go_wp2_with fail
     refine (cvOpen_any s.events a.ke.1 a.ke.2 w8 (HS.out.now HBw.out).ke (HS.out.now HBw.out).evs HS.out.lke).mono ?_
     rintro e w9 ⟨hb,ho⟩
     rcases ho with ⟨hn,_⟩ | ⟨_,p1,C1,rfl,hk1,hf1⟩
     ·exact absurd HO1.out hn
     have HK1:=hid hk1
     have HFr1:=hid hf1
     have HB8:=hid hb
     clear zx hb hk1 hf1
     have zz:=(HZ8.out.now HB8.out).ke
     go_wp2_with fail
     refine (cvOpen_any t3.events c3.ke.1 c3.ke.2 w9 (HS8.out.now HB8.out).ke (HS8.out.now HB8.out).evs HS8.out.lke).mono ?_
     rintro e w10 ⟨hb,ho⟩
     rcases ho with ⟨hn,_⟩ | ⟨_,p2,C2,rfl,hk2,hf2⟩
     ·exact absurd HO2.out hn
     have HSep:Hid (((cvOb p1 (evsL s.events) C1).sep (cvOb p2 (evsL t3.events) C2)).ok w10):=hid (OUpd.more (a:=cvOb p1 (evsL s.events) C1) HK1.out hb hk2 (fun i hi=>hf2 i (.inl hi)) (fun i hi=>hf2 i (.inr hi))).ok
     have HOw:Hid (∀ i,((cvOb p1 (evsL s.events) C1).sep (cvOb p2 (evsL t3.events) C2)).own i→w8.heap.size≤i):=hid (fun i hi=>hi.elim (fun h=>HFr1.out i (.inl h)) (fun h=>Nat.le_trans HB8.out.size (hf2 i (.inl h))))
     have HB8:=hid (HB8.out.trans (hb.mono HB8.out.size))
     clear zz hb hk2 hf2 HK1 HFr1
     go_wp2_with fail
     have HLe:Hid ((evsL s.events).length≤1000000∧(evsL t3.events).length≤1000000):=hid (by have:=HEl.out;have:=HL3.out;simp;omega)
     refine (cvErase_any p1 k (evsL s.events) C1 w10 (Ob.sep_l HSep.out) (by have:=HKk.out;simpa using this) (by have:=HKd.out HKk.out;simpa using this) HLe.out.1).mono ?_
     rintro e w11 ⟨rfl,C1',hu⟩
     have hu1:=OUpd.left HSep.out hu
     have HOw2:=hid (hu1.base HB8.out.size HOw.out)
     have HB8:=hid (HB8.out.trans (hu1.to_below HB8.out.size HOw.out))
     have HSep:=hid hu1.ok
     have HOw:=HOw2
     clear hu hu1 HOw2
     go_wp2_with fail
     refine (cvErase_any p2 k (evsL t3.events) C2 w11 (Ob.sep_r HSep.out) (by have:=HKk.out;have:=HL3.out;simp;omega) (by
      have h1:=HKk.out
      have h2:=HL3.out
      obtain ⟨e1,e2,e3,e4,e5⟩:=HE3.out k (by simpa using h1) (by simp;omega)
      rw [e4]
      have:=HKd.out h1
      simpa using this) HLe.out.2).mono ?_
     rintro e w12 ⟨rfl,C2',hu⟩
     have hu1:=OUpd.right HSep.out hu
     have HOw2:=hid (hu1.base HB8.out.size HOw.out)
     have HB8:=hid (HB8.out.trans (hu1.to_below HB8.out.size HOw.out))
     have HSep:=hid hu1.ok
     have HOw:=HOw2
     clear hu hu1 HOw2 HLe
     have HK1:Hid (CvK w12 p1 (eraseGo k 0 (evsL s.events)) C1'):=hid (Ob.sep_l HSep.out)
     have HK2:Hid (CvK w12 p2 (eraseGo k 0 (evsL t3.events)) C2'):=hid (Ob.sep_r HSep.out)
     have HEr:Hid (eraseGo k 0 (evsL t3.events)=eraseGo k 0 (evsL s.events)):=hid (erase_same (by have:=HL3.out;simp;omega) (by have:=HKk.out;simpa using this) (by have:=HKd.out HKk.out;simpa using this) HE3.out)
     have HEn:Hid ((eraseGo k 0 (evsL s.events)).length≤1000000∧(eraseGo k 0 (evsL t3.events)).length≤1000000):=hid (by have:=HEl.out;have:=HL3.out;rw [eraseGo_len,eraseGo_len];simp;omega)
     clear HSep HOw
     have HXr:=hid (range_block (HX8.out.now HB8.out) rfl)
     go_wp2_with (first
       | ((with_reducible show wpList _ _ _ (Oper.mk _ (Op.load 34 (.tmp 4)) _ _ _ _::_) _ _);refine wpList_load_g rfl 34 (.tmp 4) rfl b4 0 rfl (s.arr a).toList _ (HXr.out) Tryz.underlying34 rfl (by kernel_rfl) ?_)
       | fail)
     clear HXr
     refine (stCopy_any s a w12 ((HS.out.now HBw.out).now HB8.out) (few_caps HF1.out)).mono ?_
     rintro e w13 ⟨s4,a4,_,rfl,hp4,_,hrd4,_,_,hb⟩
     go_upto_region 27 with fail
     change Code.wp _ _ _ _ (w13.alloc (.cells (s4.arr a4) 34))
     have HS4:=hid hrd4.ok
     have HP4:=hid hp4
     have hb4:Below w13.heap.size w13 (w13.alloc (.cells (s4.arr a4) 34)):=by repeat (first | with_reducible exact Below.refl _ _ | with_reducible assumption | with_reducible refine Below.drew ?_ | with_reducible refine Below.alloc ?_ (by first | omega | (simp;done) | (simp;omega)) _)
     have HQ:Hid (StBox w13.heap.size s4 a4 (w13.alloc (.cells (s4.arr a4) 34))):=hid (MapKept.heap_alloc w13 _).1
     have HBx:=hid hb4
     have HB12:=hid (hb.trans (hb4.mono hb.size))
     have HB8c:=HB8
     have HB8:=hid (HB8.out.trans (HB12.out.mono HB8.out.size))
     have H1213:Hid (w12.heap.size≤w13.heap.size):=hid hb.size
     have hz17:(w13.alloc (.cells (s4.arr a4) 34)).heap.size=w13.heap.size+1:=by simp
     have HZ17:=hid hz17
     clear hb hb4 hp4 hrd4 hz17
     generalize w13.alloc (.cells (s4.arr a4) 34)=w14 at *
     obtain ⟨b17,hb17⟩:∃ z,z=w13.heap.size:=⟨_,rfl⟩
     rw [← hb17] at HQ ⊢
     have HN17:=hid hb17
     clear hb17
     have HZr:=hid (range_block (HZ8.out.now HB8.out) rfl)
     have HCt:Hid (CapS t3):=hid (by
      have h:=few_caps HF1.out
      have e:=HP3.out
      refine ⟨by rw [HL3.out];exact h.ev,fun y hy=>(HEc.out y hy),by rw [show t3.queue=s.queue from congrArg StP.queue e];exact h.l1,by rw [show t3.sent=s.sent from congrArg StP.sent e];exact h.l2,by rw [show t3.refused=s.refused from congrArg StP.refused e];exact h.l3,by rw [show t3.pairs=s.pairs from congrArg StP.pairs e];exact h.l4,by rw [show t3.proofs=s.proofs from congrArg StP.proofs e];exact h.l5,?_,?_,by rw [show t3.bad=s.bad from congrArg StP.bad e];exact h.l7,by rw [show t3.holds=s.holds from congrArg StP.holds e];exact h.l8,by rw [show t3.orders=s.orders from congrArg StP.orders e];exact h.l9,by rw [show t3.sealed=s.sealed from congrArg StP.sealed e];exact h.la,by rw [show t3.debts=s.debts from congrArg StP.debts e];exact h.lb⟩
      ·have:=congrArg (fun p=>(StP.notes p).length) e
       simp only [Stt.pl,List.length_map] at this
       rw [this]
       exact h.l6
      ·intro y hy
       have h1:y.l∈t3.pl.notes:=List.mem_map.2 ⟨y,hy,rfl⟩
       rw [e] at h1
       obtain ⟨z,hz,he⟩:=List.mem_map.1 h1
       rw [← he]
       exact h.l6b z hz)
     go_wp2_with (first
       | ((with_reducible show wpList _ _ _ (Oper.mk _ (Op.load 34 (.tmp 11)) _ _ _ _::_) _ _);refine wpList_load_g rfl 34 (.tmp 11) rfl b11 0 rfl (t3.arr c3).toList _ (HZr.out) Tryz.underlying34 rfl (by kernel_rfl) ?_)
       | fail)
     clear HZr
     refine (stCopy_any t3 c3 w14 (HS8.out.now HB8.out) HCt.out).mono ?_
     rintro e w15 ⟨s5,a5,_,rfl,hp5,_,hrd5,_,_,hb⟩
     go_upto_region 28 with fail
     change Code.wp _ _ _ _ (w15.alloc (.cells (s5.arr a5) 34))
     have HP5:=hid hp5
     have hb5:Below w15.heap.size w15 (w15.alloc (.cells (s5.arr a5) 34)):=by repeat (first | with_reducible exact Below.refl _ _ | with_reducible assumption | with_reducible refine Below.drew ?_ | with_reducible refine Below.alloc ?_ (by first | omega | (simp;done) | (simp;omega)) _)
     have HQ2:Hid (StBox w15.heap.size s5 a5 (w15.alloc (.cells (s5.arr a5) 34))):=hid (MapKept.heap_alloc w15 _).1
     have hb145:=hb.trans (hb5.mono hb.size)
     have HR5:=hid hrd5
     have HT15:=hid (Turn.below (F:=One b17) hb5)
     have HQ:=hid (HQ.out.now hb145)
     have HBx:=hid (HBx.out.trans (hb145.mono HBx.out.size))
     have HB12:=hid (HB12.out.trans (hb145.mono HB12.out.size))
     have HB8:=hid (HB8.out.trans (hb145.mono HB8.out.size))
     have hz18:(w15.alloc (.cells (s5.arr a5) 34)).heap.size=w15.heap.size+1:=by simp
     have HZ18:Hid (w14.heap.size≤w15.heap.size∧(w15.alloc (.cells (s5.arr a5) 34)).heap.size=w15.heap.size+1):=hid ⟨hb.size,hz18⟩
     clear hb hb5 hp5 hrd5 hz18 hb145
     generalize w15.alloc (.cells (s5.arr a5) 34)=w16 at *
     obtain ⟨b18,hb18⟩:∃ z,z=w15.heap.size:=⟨_,rfl⟩
     rw [← hb18] at HQ2 ⊢
     have HN18:Hid (b17<b18∧b18<w16.heap.size∧w8.heap.size≤b17∧w12.heap.size≤b17∧w13.heap.size≤b17∧b17<w14.heap.size):=hid (by
      have h1:=HN17.out;have h2:=HZ17.out;have h3:=HZ18.out;have h4:=H1213.out;have h5:=HB8c.out.size;omega)
     have HN15:Hid (w15.heap.size≤b18):=hid (by omega)
     clear hb18 HN17 HZ17 HZ18 H1213 HB8c
     go_wp2_with fail
     refine (cvAll_any p1 _ C1' w16 (HK1.out.below HB12.out) HEn.out.1).mono ?_
     rintro e w17 ⟨A1,d1,xs1,rfl,hx1,hi1,hb⟩
     have HQ:=hid (HQ.out.now hb)
     have HQ2:=hid (HQ2.out.now hb)
     have HT15:=hid (HT15.out.trans (Turn.below (F:=fun _=>False) hb) (fun _ hf=>hf.elim))
     have HBx:=hid (HBx.out.trans (hb.mono HBx.out.size))
     have HB12:=hid (HB12.out.trans (hb.mono HB12.out.size))
     have HB8:=hid (HB8.out.trans (hb.mono HB8.out.size))
     have HI1:=hid hi1
     have HX1:=hid hx1
     have HM1:Hid (xs1.length≤1000000):=hid (by have:=congrArg List.length hx1;have:=HEn.out.1;simp only [List.length_map,evsL] at *;omega)
     clear hb hi1 hx1
     have fz:=fun j=>box_free HQ.out j
     have zq:=HQ.out.ke
     go_upto_region 29 with fail
     clear fz zq
     change Code.wp _ _ _ _ (World.setCell w17 ⟨b17,1,none⟩ (.slice A1 xs1.length d1))
     have ht:=(Turn.refl (One b17) w17).set b17 1 (.slice A1 xs1.length d1) (.inl rfl)
     have HI1:=hid (HI1.out.turn elEv ht (fun i hi=>by have:=HN18.out;unfold One at hi;omega))
     have HT15:=hid (HT15.out.set b17 1 (.slice A1 xs1.length d1) (.inl rfl))
     have HQ:=hid (HQ.out.set_ke xs1 A1 d1)
     have HQ2:=hid (HQ2.out.set' b17 1 (.slice A1 xs1.length d1) (by have:=HN18.out;omega))
     have HBx:=hid (HBx.out.setCell (p:=⟨b17,1,none⟩) HN18.out.2.2.2.2.1 (.slice A1 xs1.length d1))
     have HB12:=hid (HB12.out.setCell (p:=⟨b17,1,none⟩) HN18.out.2.2.2.1 (.slice A1 xs1.length d1))
     have HB8:=hid (HB8.out.setCell (p:=⟨b17,1,none⟩) HN18.out.2.2.1 (.slice A1 xs1.length d1))
     clear ht
     have HN18b:Hid (b18<(World.setCell w17 ⟨b17,1,none⟩ (.slice A1 xs1.length d1)).heap.size):=hid HQ2.out.lt
     generalize World.setCell w17 ⟨b17,1,none⟩ (.slice A1 xs1.length d1)=w18 at *
     go_wp2_with fail
     refine (cvAll_any p2 _ C2' w18 (HK2.out.below HB12.out) HEn.out.2).mono ?_
     rintro e w19 ⟨A2,d2,xs2,rfl,hx2,hi2,hb⟩
     have HQ:=hid (HQ.out.now hb)
     have HQ2:=hid (HQ2.out.now hb)
     have HT15:=hid (HT15.out.trans (Turn.below (F:=fun _=>False) hb) (fun _ hf=>hf.elim))
     have HI1:=hid (HI1.out.turn elEv (Turn.below (F:=fun _=>False) hb) (fun _ hf=>hf.elim))
     have HBx:=hid (HBx.out.trans (hb.mono HBx.out.size))
     have HB8:=hid (HB8.out.trans (hb.mono HB8.out.size))
     have HI2:=hid hi2
     have HX2:=hid hx2
     have HM2:Hid (xs2.length≤1000000):=hid (by have:=congrArg List.length hx2;have:=HEn.out.2;simp only [List.length_map,evsL] at *;omega)
     clear hb hi2 hx2 HB12 HK1 HK2
     have fz:=fun j=>box_free HQ2.out j
     have zq:=HQ2.out.ke
     go_upto_region 30 with fail
     clear fz zq
     change Code.wp _ _ _ _ (World.setCell w19 ⟨b18,1,none⟩ (.slice A2 xs2.length d2))
     have ht:=(Turn.refl (One b18) w19).set b18 1 (.slice A2 xs2.length d2) (.inl rfl)
     have HI1:=hid (HI1.out.turn elEv ht (fun i hi=>by have:=HN18.out;unfold One at hi;omega))
     have HI2:=hid (HI2.out.turn elEv ht (fun i hi=>by have:=HN18b.out;unfold One at hi;omega))
     have HQ:=hid (HQ.out.set' b18 1 (.slice A2 xs2.length d2) (by have:=HN18.out;omega))
     have HQ2:=hid (HQ2.out.set_ke xs2 A2 d2)
     have HBx:=hid (HBx.out.setCell (p:=⟨b18,1,none⟩) (show w13.heap.size≤b18 by have:=HN18.out;omega) (.slice A2 xs2.length d2))
     have HB8:=hid (HB8.out.setCell (p:=⟨b18,1,none⟩) (show w8.heap.size≤b18 by have:=HN18.out;omega) (.slice A2 xs2.length d2))
     have HT15:=hid (HT15.out.set b18 1 (.slice A2 xs2.length d2) (.inr (by have:=HN15.out;omega)))
     clear ht
     generalize World.setCell w19 ⟨b18,1,none⟩ (.slice A2 xs2.length d2)=w20 at *
     have HS6:Hid (StOk w20 w20.heap.size {s4 with events:=xs1} {a4 with ke:=(A1,d1)}):=hid (StOk.events_ (HS4.out.now HBx.out) (HI1.out.own.rd layEvL) (fun y hy=>(HI1.out.el y hy).1.1) (by have:=HM1.out;omega) HI1.out.own.len_le)
     have HS7:Hid (StOk w20 w20.heap.size {s5 with events:=xs2} {a5 with ke:=(A2,d2)}):=hid (StOk.events_ (HR5.out.turn HT15.out (fun i hi=>by have:=HN18.out;unfold One at hi;omega)).ok (HI2.out.own.rd layEvL) (fun y hy=>(HI2.out.el y hy).1.1) (by have:=HM2.out;omega) HI2.out.own.len_le)
     have HPa:Hid (Stt.pl {s4 with events:=xs1}={s.pl with events:=eraseGo k 0 s.pl.events}):=hid (by
      show ({s4.pl with events:=evsL xs1}:StP)=_
      rw [HP4.out,HX1.out]
      rfl)
     have HPb:Hid (Stt.pl {s5 with events:=xs2}={s.pl with events:=eraseGo k 0 s.pl.events}):=hid (by
      show ({s5.pl with events:=evsL xs2}:StP)=_
      rw [HP5.out,HP3.out,HX2.out,HEr.out]
      rfl)
     have HSt:Hid (stateP {s.pl with events:=eraseGo k 0 s.pl.events}=true):=hid (stateB_erase k (by rw [← stateB_pl];exact HR.out))
     have HNm:Hid (NumsP {s.pl with events:=eraseGo k 0 s.pl.events}):=hid (by
      have h:=few_nums HF1.out HWs.out
      exact ⟨by rw [show (eraseGo k 0 s.pl.events).length=s.pl.events.length from eraseGo_len _ _ _];exact h.ev,h.sealed,h.holds,h.l1,h.l2,h.l3,h.l4,h.l5,h.l6,h.l7,h.l8,h.l9,h.la,h.lb⟩)
     have HNe2:Hid (textP {s.pl with events:=eraseGo k 0 s.pl.events}≠[]):=hid (textP_ne.2 HSt.out)
     obtain ⟨s6,hs6⟩:∃ z:Stt,z={s4 with events:=xs1}:=⟨_,rfl⟩
     obtain ⟨s7,hs7⟩:∃ z:Stt,z={s5 with events:=xs2}:=⟨_,rfl⟩
     obtain ⟨a6,ha6⟩:∃ z:StAd,z={a4 with ke:=(A1,d1)}:=⟨_,rfl⟩
     obtain ⟨a7,ha7⟩:∃ z:StAd,z={a5 with ke:=(A2,d2)}:=⟨_,rfl⟩
     rw [← hs6,← ha6] at HS6 HQ
     rw [← hs7,← ha7] at HS7 HQ2
     rw [← hs6] at HPa
     rw [← hs7] at HPb
     obtain ⟨px,hpx⟩:∃ z:StP,z={s.pl with events:=eraseGo k 0 s.pl.events}:=⟨_,rfl⟩
     rw [← hpx] at HPa HPb HNm HNe2
     have HPp6:Hid (s6.pairs=s.pairs):=hid (by
      have:=congrArg StP.pairs (HPa.out.trans hpx)
      exact this)
     have HPp7:Hid (s7.pairs=s.pairs):=hid (by
      have:=congrArg StP.pairs (HPb.out.trans hpx)
      exact this)
     have HBz:=hid (HBw.out.trans (HB8.out.mono HBw.out.size))
     clear hs6 hs7 ha6 ha7 hpx HSt HP4 HP5 HX1 HX2 HI1 HI2 HM1 HM2 HR5 HT15 HS4 HBx HN18 HN18b HN15 HEn HEr HP3 HL3 HE3 HEc HPp HCt
     have HUn:=hid Tryz.underlying34
     have HIn:Hid ((Tryz.prog.info? 34).map (·.size)=some 13):=hid (by kernel_rfl)
     have hu:=HUn.out
     have hi:=HIn.out
     have HR1q:=hid (fun (wq:World) (hq:Below w20.heap.size w20 wq)=>range_block ((hq.block b17 HQ.out.lt).trans HQ.out) rfl)
     have HR2q:=hid (fun (wq:World) (hq:Below w20.heap.size w20 wq)=>range_block ((hq.block b18 HQ2.out.lt).trans HQ2.out) rfl)
     refine wp_region_J (S:=fun w'=>Below w20.heap.size w20 w') (fun _=>false) (by kernel_rfl) ((Below.refl w20.heap.size w20).drew) (fun hHeld=>?_)
     refine wpAnyJ_pure (i:=0) (v:=?_) rfl (by kernel_rfl) (by kernel_rfl) (by kernel_rfl) (fun _ _ _ h=>h) (Or.inl ⟨by rfl,?_⟩) ?_
     rotate_left
     ·intro wq _
      go_simp
      try with_reducible rfl
     simp only [Act.put,sA,sB,sC]
     refine wpAnyJ_pure (i:=1) (v:=?_) rfl (by kernel_rfl) (by kernel_rfl) (by kernel_rfl) (fun _ _ _ h=>h) (Or.inl ⟨by rfl,?_⟩) ?_
     rotate_left
     ·intro wq _
      go_simp
      try with_reducible rfl
     simp only [Act.put,sA,sB,sC]
     refine' wpAnyJ_take (i:=2) rfl (by kernel_rfl) (by kernel_rfl) (by kernel_rfl) (by kernel_rfl) (fun _ _ _ h=>h) (yieldsIf_load_mid (by rfl) _ _ rfl _ _ rfl _ _ HR1q.out hu rfl hi) hHeld ?_
     simp only [Act.put,sA,sB,sC,sD,sE,sF]
     refine wpAnyJ_one (i:=3) rfl (by kernel_rfl) (fun K hK=>?_)
     go_simp
     refine (stText_any s6 a6 w20.drew (HV.out.on (HBz.out.drew)) (HS6.out.now (Below.refl w20.heap.size w20).drew) (by rw [HPp6.out];exact HpW.out) (by rw [HPa.out];exact HNm.out)).mono ?_
     rintro e w21 ⟨rfl,hb1⟩
     rw [HPa.out]
     obtain ⟨tx,htx⟩:∃ z,z=textP px:=⟨_,rfl⟩
     rw [← htx] at HNe2 ⊢
     have HTx:=hid htx
     have hne:=HNe2.out
     have q1:(bs tx).toList.isEmpty=false:=by rw [bs_toList];cases tx with
      | nil=>exact absurd rfl hne
      | cons y r=>rfl
     have q2:((bs tx).toList==[])=false:=by rw [bs_toList];cases tx with
      | nil=>exact absurd rfl hne
      | cons y r=>rfl
     have q3:((bs tx).toList != [])=true:=by rw [bne,q2];rfl
     have q4:((bs tx).toList==(bs tx).toList)=true:=by rw [bs_beq];simp
     clear htx hne
     go_wp2_with fail
     have hH1:Below w20.heap.size w20 w21:=hHeld.trans (hb1.mono hHeld.size)
     refine hK.out _ _ (fun _ h=>h.trans (hb1.mono h.size)) ?_
     clear hK K
     clear hHeld hb1
     have hHeld:=hH1
     have HH1:=hid hH1
     clear hH1
     refine wpAnyJ_pure (i:=4) (v:=?_) rfl (by kernel_rfl) (by kernel_rfl) (by kernel_rfl) (fun _ _ _ h=>h) (Or.inl ⟨by rfl,?_⟩) ?_
     rotate_left
     ·intro wq _
      go_simp
      try with_reducible rfl
     simp only [Act.put,sA,sB,sC]
     refine wpAnyJ_pure (i:=5) (v:=?_) rfl (by kernel_rfl) (by kernel_rfl) (by kernel_rfl) (fun _ _ _ h=>h) (Or.inl ⟨by rfl,?_⟩) ?_
     rotate_left
     ·intro wq _
      go_simp
      try with_reducible rfl
     simp only [Act.put,sA,sB,sC]
     refine wpAnyJ_pure (i:=6) (v:=?_) rfl (by kernel_rfl) (by kernel_rfl) (by kernel_rfl) (fun _ _ _ h=>h) (Or.inl ⟨by rfl,?_⟩) ?_
     rotate_left
     ·intro wq _
      go_simp
      try with_reducible rfl
     simp only [Act.put,sA,sB,sC]
     refine' wpAnyJ_take (i:=7) rfl (by kernel_rfl) (by kernel_rfl) (by kernel_rfl) (by kernel_rfl) (fun _ _ _ h=>h) (yieldsIf_load_mid (by rfl) _ _ rfl _ _ rfl _ _ HR1q.out hu rfl hi) hHeld ?_
     simp only [Act.put,sA,sB,sC,sD,sE,sF]
     refine' wpAnyJ_take (i:=9) rfl (by kernel_rfl) (by kernel_rfl) (by kernel_rfl) (by kernel_rfl) (fun _ _ _ h=>h) (yieldsIf_load_mid (by rfl) _ _ rfl _ _ rfl _ _ HR2q.out hu rfl hi) hHeld ?_
     simp only [Act.put,sA,sB,sC,sD,sE,sF]
     clear hu hi
     refine wpAnyJ_one (i:=8) rfl (by kernel_rfl) (fun K hK=>?_)
     go_simp
     refine (stText_any s6 a6 w21 (HV.out.on (HBz.out.trans (HH1.out.mono HBz.out.size))) (HS6.out.now HH1.out) (by rw [HPp6.out];exact HpW.out) (by rw [HPa.out];exact HNm.out)).mono ?_
     rintro e w22 ⟨rfl,hb2⟩
     rw [HPa.out,← HTx.out]
     go_wp2_with fail
     have hH2:Below w20.heap.size w20 w22:=hHeld.trans (hb2.mono hHeld.size)
     refine hK.out _ _ (fun _ h=>h.trans (hb2.mono h.size)) ?_
     clear hK K
     clear hHeld hb2
     have HH2:=hid hH2
     clear hH2
     refine wpAnyJ_one (i:=10) rfl (by kernel_rfl) (fun K hK=>?_)
     go_simp
     refine (stText_any s7 a7 w22 (HV.out.on (HBz.out.trans (HH2.out.mono HBz.out.size))) (HS7.out.now HH2.out) (by rw [HPp7.out];exact HpW.out) (by rw [HPb.out];exact HNm.out)).mono ?_
     rintro e w23 ⟨rfl,hb3⟩
     rw [HPb.out,← HTx.out]
     go_wp2_with fail
     have hH3:Below w20.heap.size w20 w23:=HH2.out.trans (hb3.mono HH2.out.size)
     refine hK.out _ _ (fun _ h=>h.trans (hb3.mono h.size)) ?_
     clear hK K
     have HB23:=hid (HBz.out.trans (hH3.mono HBz.out.size))
     clear hb3 hH3
     refine wpAnyJ_pure (i:=11) (v:=?_) rfl (by kernel_rfl) (by kernel_rfl) (by kernel_rfl) (fun _ _ _ h=>h) (Or.inl ⟨by rfl,?_⟩) ?_
     rotate_left
     ·intro wq _
      go_simp
      try with_reducible rfl
     simp only [Act.put,sA,sB,sC]
     refine wpAnyJ_pure (i:=12) (v:=?_) rfl (by kernel_rfl) (by kernel_rfl) (by kernel_rfl) (fun _ _ _ h=>h) (Or.inl ⟨by rfl,?_⟩) ?_
     rotate_left
     ·intro wq _
      go_simp
      try with_reducible rfl
     simp only [Act.put,sA,sB,sC]
     refine wpAnyJ_one (i:=13) rfl (by kernel_rfl) (fun K hK=>?_)
     go_simp
     refine hK.out _ _ (fun _ h=>h) ?_
     clear hK K
     refine wpAnyJ_done (by kernel_rfl) ?_ _
     go_wp2_with fail
     go_ret
     exact ⟨rfl,HB23.out⟩
theorem stateErased_i (s:Stt) (a:StAd) (n:Int) (x:List UInt8) (fl:List Int) (FA:Option Addr) (fc:Nat) (w:World) (hV:Vs w.heap.size w) (hs:StOk w w.heap.size s a) (ws:StWf s) (hn:0≤n∧n≤255) (hx:x.length≤9223372036854775807) (hfl:RdI w w.heap.size FA fl) (hf2:fl.length≤9223372036854775807) (hfc:fl.length≤fc) :
  Calls Tryz.prog 7 #[s.v a,.int .u8 n,.string (bs x),.slice FA fl.length fc] w fun e w'=>e=.returned (.bool true)∧Below w.heap.size w w':=by
 obtain ⟨m,rfl⟩:∃ m:Nat,n=m:=⟨n.toNat,by omega⟩
 exact stateErased_any s a m x fl FA fc w hV hs ws (by omega) hx hfl hfc hf2
end Go.Proofs.YthlpehhlhebhbaaGreatDoor
