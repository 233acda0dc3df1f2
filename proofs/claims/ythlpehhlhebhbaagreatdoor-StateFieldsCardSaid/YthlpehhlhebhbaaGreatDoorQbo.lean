/- Contracts and plain laws, joined: StBk, StFi. -/
import Derived.Test.YthlpehhlhebhbaaGreatDoorQbm
import Derived.Test.YthlpehhlhebhbaaGreatDoorQbj
import Derived.Test.YthlpehhlhebhbaaGreatDoorQbn
/- The walk of StateBack (layer 46). -/
set_option linter.unusedSimpArgs false
set_option linter.unusedVariables false
namespace Go.Proofs.YthlpehhlhebhbaaGreatDoor
open Lib (hid)
open Go.RowKit
set_option maxRecDepth 100000
theorem few_ev {s:Stt} {n:Int} (h:FewS s n):(s.events.length:Int)≤n:=by
 have:=h.ev
 unfold fewAllB at this
 simp only [Bool.and_eq_true,decide_eq_true_eq] at this
 exact this.1
theorem wf_pairs {s:Stt} (hw:StWf s):∀ x∈s.pairs.map prD,x.wf:=fun x hx=>by
 obtain ⟨y,hy,rfl⟩:=List.mem_map.1 hx
 have h:=hw.pairs y hy
 exact ⟨i64_of h.1,i64_of h.2.1,i64_of h.2.2.1,i64_of h.2.2.2⟩
/- The walk of StateFields (layer 46;written by genfi.py). -/
section
variable {w:World} {B:Nat} {s:Stt} {a:StAd}
theorem StOk.step (h:StOk w B s a) (m:Int):StOk w B {s with step:=m} a:=⟨h.ke,h.kq,h.ks,h.kr,h.kp,h.kf,h.kn,h.kb,h.kh,h.ko,h.kx,h.kd,h.evs,h.nos,h.lke,h.cke,h.lkq,h.ckq,h.lks,h.cks,h.lkr,h.ckr,h.lkp,h.ckp,h.lkf,h.ckf,h.lkn,h.ckn,h.lkb,h.ckb,h.lkh,h.ckh,h.lko,h.cko,h.lkx,h.ckx,h.lkd,h.ckd⟩
theorem StOk.sent (h:StOk w B s a) {xs:List D3} {A:Option Addr} {c:Nat} (hx:RdL 3 D3.cs w B A xs) (hl:xs.length≤9223372036854775807) (hc:xs.length≤c):StOk w B {s with sent:=xs} {a with ks:=(A,c)} :=
 ⟨h.ke,h.kq,hx,h.kr,h.kp,h.kf,h.kn,h.kb,h.kh,h.ko,h.kx,h.kd,h.evs,h.nos,h.lke,h.cke,h.lkq,h.ckq,hl,hc,h.lkr,h.ckr,h.lkp,h.ckp,h.lkf,h.ckf,h.lkn,h.ckn,h.lkb,h.ckb,h.lkh,h.ckh,h.lko,h.cko,h.lkx,h.ckx,h.lkd,h.ckd⟩
theorem StOk.orders (h:StOk w B s a) {xs:List D4} {A:Option Addr} {c:Nat} (hx:RdL 4 D4.cs w B A xs) (hl:xs.length≤9223372036854775807) (hc:xs.length≤c):StOk w B {s with orders:=xs} {a with ko:=(A,c)} :=
 ⟨h.ke,h.kq,h.ks,h.kr,h.kp,h.kf,h.kn,h.kb,h.kh,hx,h.kx,h.kd,h.evs,h.nos,h.lke,h.cke,h.lkq,h.ckq,h.lks,h.cks,h.lkr,h.ckr,h.lkp,h.ckp,h.lkf,h.ckf,h.lkn,h.ckn,h.lkb,h.ckb,h.lkh,h.ckh,hl,hc,h.lkx,h.ckx,h.lkd,h.ckd⟩
theorem StOk.sealed (h:StOk w B s a) {xs:List D3} {A:Option Addr} {c:Nat} (hx:RdL 3 D3.cs w B A xs) (hl:xs.length≤9223372036854775807) (hc:xs.length≤c):StOk w B {s with sealed:=xs} {a with kx:=(A,c)} :=
 ⟨h.ke,h.kq,h.ks,h.kr,h.kp,h.kf,h.kn,h.kb,h.kh,h.ko,hx,h.kd,h.evs,h.nos,h.lke,h.cke,h.lkq,h.ckq,h.lks,h.cks,h.lkr,h.ckr,h.lkp,h.ckp,h.lkf,h.ckf,h.lkn,h.ckn,h.lkb,h.ckb,h.lkh,h.ckh,h.lko,h.cko,hl,hc,h.lkd,h.ckd⟩
theorem StOk.debts (h:StOk w B s a) {xs:List D2} {A:Option Addr} {c:Nat} (hx:RdL 2 D2.cs w B A xs) (hl:xs.length≤9223372036854775807) (hc:xs.length≤c):StOk w B {s with debts:=xs} {a with kd:=(A,c)} :=
 ⟨h.ke,h.kq,h.ks,h.kr,h.kp,h.kf,h.kn,h.kb,h.kh,h.ko,h.kx,hx,h.evs,h.nos,h.lke,h.cke,h.lkq,h.ckq,h.lks,h.cks,h.lkr,h.ckr,h.lkp,h.ckp,h.lkf,h.ckf,h.lkn,h.ckn,h.lkb,h.ckb,h.lkh,h.ckh,h.lko,h.cko,h.lkx,h.ckx,hl,hc⟩
end
theorem rightv_c (s:Stt) (a:StAd) (q:Bool) (w:World) (h:StOk w w.heap.size s a) (hp:s.pairs.length≤1000000) (hpw:∀ x∈s.pairs.map prD,x.wf) (hr:stateB s=q) :
  Calls Tryz.prog 13 #[s.v a] w fun e w'=>e=.returned (.bool q)∧Below w.heap.size w w' :=
 (stRight_any s a w h hp hpw).mono fun e w' ⟨h1,h2⟩=>⟨by rw [h1,hr],h2⟩
theorem fresh_succ {T:Type} (p:T→Bool) (l:List T) (k:Nat) (hk:k<l.length):(l.take (k+1)).all p=((l.take k).all p && p l[k]):=by
 rw [List.take_succ_eq_append_getElem hk,List.all_append]
 simp
theorem fresh_succ2 {T:Type} (p:T→Bool) (l:List T) (k:Nat) (hk:k<l.length):(l.take (k+1)).all p=((l.take k).all p && p l[k]):=fresh_succ p l k hk
theorem setCells_row46 {b:Nat} {t:TypeId}:∀ (vs:List Value) (o:Nat) (w:World) (cs:Array Value),w.heap[b]?=some (.cells cs t (0,0))→o+vs.length≤cs.size →
  (w.setCells b o vs).heap[b]?=some (.cells (cs.toList.take o++vs++cs.toList.drop (o+vs.length)).toArray t (0,0))
 | [],o,w,cs,h,_=>by
  rw [World.setCells,List.append_nil,List.length_nil,Nat.add_zero,List.take_append_drop]
  exact h
 | v::r,o,w,cs,h,hl=>by
  have h1:=heap_setCell_same w b o cs t v h
  have h2:=setCells_row46 r (o+1) _ _ h1 (by simp at hl ⊢;omega)
  rw [World.setCells]
  rw [h2]
  have e:=list_seg_step cs.toList o v r (by simp at hl ⊢;omega)
  simp only [Array.toList_setIfInBounds] at *
  congr 3
theorem StBox.reset {b:Nat} {s s':Stt} {a a':StAd} {w:World} (h:StBox b s' a' w):StBox b s a (w.setCells b 0 (s.arr a).toList):=by
 unfold StBox at *
 rw [setCells_row46 _ 0 w _ h (by simp)]
 simp
theorem StBox.reset' {b b2:Nat} {s:Stt} {a:StAd} {w:World} (h:StBox b s a w) (vs:List Value) (hne:b≠b2):StBox b s a (w.setCells b2 0 vs) :=
 ((grown_setCells w b2 0 vs).block b h.lt (fun e=>hne (Option.some.inj e))).trans h
set_option maxHeartbeats 16000000 in
theorem stateFields_any (s:Stt) (a:StAd) (n net m:Int) (w:World) (hV:Vs w.heap.size w) (hs:StOk w w.heap.size s a) (ws:StWf s) (hn:InInt n) (hnet:InInt net) (hm:InInt m) :
  Calls Tryz.prog 5 #[s.v a,.int .i64 n,.int .i64 net,.int .i64 m] w fun e w'=>e=.returned (.bool true)∧Below w.heap.size w w':=by
 have hb0:Below w.heap.size w (w.alloc (.cells (s.arr a) 34)):=by repeat (first | with_reducible exact Below.refl _ _ | with_reducible assumption | with_reducible refine Below.drew ?_ | with_reducible refine Below.alloc ?_ (by first | omega | (simp;done) | (simp;omega)) _)
 have HX:Hid (StBox w.heap.size s a (w.alloc (.cells (s.arr a) 34))):=hid (MapKept.heap_alloc w _).1
 have HS:=hid hs
 have HB:=hid hb0
 have HV:=hid hV
 have HWs:=hid ws
 clear hb0 hs hV ws
 go_enter Tryz.func5,Tryz.ntmps5
 go_upto_region 1 with fail
 generalize w.alloc (.cells (s.arr a) 34)=w0 at *
 obtain ⟨b4,hb4⟩:∃ z,z=w.heap.size:=⟨_,rfl⟩
 rw [← hb4] at HX ⊢
 have Hb4:Hid (w.heap.size≤b4):=hid (by omega)
 clear hb4
 go_wp2_with fail
 refine (small46_any w0 (HV.out.on HB.out)).mono ?_
 rintro e w1 ⟨rfl,hb⟩
 have HX:=hid (HX.out.now hb)
 have HB:=hid (HB.out.trans ((hb).mono HB.out.size))
 clear hb
 have HXr:=hid (range_block HX.out rfl)
 go_wp2_with (first
   | ((with_reducible show wpList _ _ _ (Oper.mk _ (Op.load 34 (.tmp 4)) _ _ _ _::_) _ _);refine wpList_load_g rfl 34 (.tmp 4) rfl b4 0 rfl (s.arr a).toList _ (HXr.out) Tryz.underlying34 rfl (by kernel_rfl) ?_)
   | fail)
 clear HXr
 refine (rsFew_any s a 12 w1 (HS.out.now HB.out)).mono ?_
 rintro e w2 ⟨v1,rfl,hv1,hb⟩
 have HV1:=hid hv1
 have HX:=hid (HX.out.now hb)
 have HB:=hid (HB.out.trans ((hb).mono HB.out.size))
 clear hb hv1
 cases v1
 ·skip
  have HXr:=hid (range_block HX.out rfl)
  go_wp2_with (first
    | ((with_reducible show wpList _ _ _ (Oper.mk _ (Op.load 34 (.tmp 4)) _ _ _ _::_) _ _);refine wpList_load_g rfl 34 (.tmp 4) rfl b4 0 rfl (s.arr a).toList _ (HXr.out) Tryz.underlying34 rfl (by kernel_rfl) ?_)
    | fail)
  clear HXr
  go_ret
  exact ⟨rfl,HB.out⟩
 have HF1:=hid (HV1.out rfl)
 clear HV1
 have HpS:Hid (s.pairs.length≤1000000):=hid (Nat.le_trans HF1.out.pairs (by omega))
 have HpW:=hid (wf_pairs HWs.out)
 have HXr:=hid (range_block HX.out rfl)
 go_wp2_with (first
   | ((with_reducible show wpList _ _ _ (Oper.mk _ (Op.load 34 (.tmp 4)) _ _ _ _::_) _ _);refine wpList_load_g rfl 34 (.tmp 4) rfl b4 0 rfl (s.arr a).toList _ (HXr.out) Tryz.underlying34 rfl (by kernel_rfl) ?_)
   | fail)
 clear HXr
 refine (stRight_any s a w2 (HS.out.now HB.out) HpS.out HpW.out).mono ?_
 rintro e w3 ⟨rfl,hb⟩
 have HX:=hid (HX.out.now hb)
 have HB:=hid (HB.out.trans ((hb).mono HB.out.size))
 clear hb
 cases hR:stateB s with
 | false =>
  clear hR
  have HXr:=hid (range_block HX.out rfl)
  go_wp2_with (first
    | ((with_reducible show wpList _ _ _ (Oper.mk _ (Op.load 34 (.tmp 4)) _ _ _ _::_) _ _);refine wpList_load_g rfl 34 (.tmp 4) rfl b4 0 rfl (s.arr a).toList _ (HXr.out) Tryz.underlying34 rfl (by kernel_rfl) ?_)
    | fail)
  clear HXr
  go_ret
  exact ⟨rfl,HB.out⟩
 | true =>
  have HL1:=hid (field_step hR m)
  have HL2:=hid (field_sent hR n net m)
  have HL3:=hid (field_debts hR n net)
  have HL4:=hid (field_orders hR n net m)
  have HL5:=hid (field_sealed hR n net (max m 0 % 1000) (by omega))
  have hel:s.events.length≤12:=by have:=few_ev HF1.out;omega
  clear hR
  go_upto_region 4 with fail
  go_cut [10] (fun v wx=>v=.bool (idB s.events.length n)∧wx=w3)
  case first=>as_aux_lemma =>
   have ze:=HX.out.ke
   by_cases h1:0≤n
   ·by_cases h2:n<(s.events.length:Int)
    ·have e:idB s.events.length n=true:=idB_iff.2 ⟨h1,h2⟩
     have HE:=hid e
     clear e
     go_wp2_with fail
     go_meet
     exact ⟨by rw [HE.out],rfl⟩
    ·have e:idB s.events.length n=false:=by
      cases hq:idB s.events.length n with
      | false=>rfl
      | true=>exact absurd (idB_iff.1 hq).2 h2
     have HE:=hid e
     clear e
     go_wp2_with fail
     go_meet
     exact ⟨by rw [HE.out],rfl⟩
   ·have e:idB s.events.length n=false:=by
     cases hq:idB s.events.length n with
     | false=>rfl
     | true=>exact absurd (idB_iff.1 hq).1 h1
    have HE:=hid e
    clear e
    go_wp2_with fail
    go_meet
    exact ⟨by rw [HE.out],rfl⟩
  obtain ⟨rfl,hwc⟩:=hcut
  subst hwc
  go_upto_region 5 with fail
  go_cut [11] (fun v wx=>v=.bool (toB net 0 11)∧wx=wc)
  case first=>as_aux_lemma =>
   by_cases h1:0≤net
   ·by_cases h2:net<12
    ·have e:toB net 0 11=true:=toB_iff.2 ⟨h1,by omega⟩
     have HE:=hid e
     clear e
     go_wp2_with fail
     go_meet
     exact ⟨by rw [HE.out],rfl⟩
    ·have e:toB net 0 11=false:=by
      cases hq:toB net 0 11 with
      | false=>rfl
      | true=>have:=toB_iff.1 hq;omega
     have HE:=hid e
     clear e
     go_wp2_with fail
     go_meet
     exact ⟨by rw [HE.out],rfl⟩
   ·have e:toB net 0 11=false:=by
     cases hq:toB net 0 11 with
     | false=>rfl
     | true=>have:=toB_iff.1 hq;omega
    have HE:=hid e
    clear e
    go_wp2_with fail
    go_meet
    exact ⟨by rw [HE.out],rfl⟩
  obtain ⟨rfl,hwc⟩:=hcut
  subst hwc
  go_upto_region 6 with fail
  go_cut [12] (fun v wx=>v=.bool (toB m 0 1073741824)∧wx=wc)
  case first=>as_aux_lemma =>
   by_cases h1:0≤m
   ·by_cases h2:m≤1073741824
    ·have e:toB m 0 1073741824=true:=toB_iff.2 ⟨h1,by omega⟩
     have HE:=hid e
     clear e
     go_wp2_with fail
     go_meet
     exact ⟨by rw [HE.out],rfl⟩
    ·have e:toB m 0 1073741824=false:=by
      cases hq:toB m 0 1073741824 with
      | false=>rfl
      | true=>have:=toB_iff.1 hq;omega
     have HE:=hid e
     clear e
     go_wp2_with fail
     go_meet
     exact ⟨by rw [HE.out],rfl⟩
   ·have e:toB m 0 1073741824=false:=by
     cases hq:toB m 0 1073741824 with
     | false=>rfl
     | true=>have:=toB_iff.1 hq;omega
    have HE:=hid e
    clear e
    go_wp2_with fail
    go_meet
    exact ⟨by rw [HE.out],rfl⟩
  obtain ⟨rfl,hwc⟩:=hcut
  subst hwc
  generalize idB s.events.length n=q10 at *
  generalize toB net 0 11=q11 at *
  generalize toB m 0 1073741824=q12 at *
  obtain ⟨w4,hw4⟩:∃ z,z=wc:=⟨wc,rfl⟩
  subst hw4
  have HXr:=hid (range_block HX.out rfl)
  go_upto_region 8 with (first
    | ((with_reducible show wpList _ _ _ (Oper.mk _ (Op.load 34 (.tmp 4)) _ _ _ _::_) _ _);refine wpList_load_g rfl 34 (.tmp 4) rfl b4 0 rfl (s.arr a).toList _ (HXr.out) Tryz.underlying34 rfl (by kernel_rfl) ?_)
    | fail)
  clear HXr
  change Code.wp _ _ _ _ (w4.alloc (.cells (s.arr a) 34))
  have hb:Below w4.heap.size w4 (w4.alloc (.cells (s.arr a) 34)):=by repeat (first | with_reducible exact Below.refl _ _ | with_reducible assumption | with_reducible refine Below.drew ?_ | with_reducible refine Below.alloc ?_ (by first | omega | (simp;done) | (simp;omega)) _)
  have HZ:Hid (StBox w4.heap.size s a (w4.alloc (.cells (s.arr a) 34))):=hid (MapKept.heap_alloc w4 _).1
  have hb13:b4<w4.heap.size:=HX.out.lt
  have hw13:=HB.out.size
  have HX:=hid (HX.out.now hb)
  have HB:=hid (HB.out.trans ((hb).mono HB.out.size))
  clear hb
  generalize w4.alloc (.cells (s.arr a) 34)=w5 at *
  obtain ⟨b13,hb⟩:∃ z,z=w4.heap.size:=⟨_,rfl⟩
  rw [← hb] at HZ ⊢
  have HN:Hid (b4≠b13∧w.heap.size≤b13):=hid ⟨by omega,by omega⟩
  clear hb hb13 hw13
  have fz:=fun j=>box_free HZ.out j
  have z:=HZ.out.st
  go_upto_region 9 with fail
  clear fz z
  change Code.wp _ _ _ _ (World.setCell w5 ⟨b13,0,none⟩ (.int .i64 m))
  have HZ:=hid (HZ.out.set_st m)
  have HX:=hid (HX.out.set' b13 0 (.int .i64 m) HN.out.1)
  have HB:=hid (HB.out.setCell (p:=⟨b13,0,none⟩) HN.out.2 (.int .i64 m))
  generalize World.setCell w5 ⟨b13,0,none⟩ (.int .i64 m)=w6 at *
  have HZr:=hid (range_block HZ.out rfl)
  go_wp2_with (first
    | ((with_reducible show wpList _ _ _ (Oper.mk _ (Op.load 34 (.tmp 13)) _ _ _ _::_) _ _);refine wpList_load_g rfl 34 (.tmp 13) rfl b13 0 rfl (({s with step:=m}:Stt).arr a).toList _ (HZr.out) Tryz.underlying34 rfl (by kernel_rfl) ?_)
    | fail)
  clear HZr
  refine (rightv_c {s with step:=m} a q12 w6 ((HS.out.now HB.out).step m) HpS.out HpW.out HL1.out).mono ?_
  rintro e w7 ⟨rfl,hb⟩
  have HZ:=hid (HZ.out.now hb)
  have HX:=hid (HX.out.now hb)
  have HB:=hid (HB.out.trans ((hb).mono HB.out.size))
  clear hb
  have HXr:=hid (range_block HX.out rfl)
  have HTh:=hid (show World.there _ b13 0 13 from there_of_box HZ.out)
  go_upto_region 12 with (first
    | ((with_reducible show wpList _ _ _ (Oper.mk _ (Op.load 34 (.tmp 4)) _ _ _ _::_) _ _);refine wpList_load_g rfl 34 (.tmp 4) rfl b4 0 rfl (s.arr a).toList _ (HXr.out) Tryz.underlying34 rfl (by kernel_rfl) ?_)
    | ((with_reducible show wpList _ _ _ (Oper.mk _ (Op.store 34 (.tmp 13) _) _ _ _ _::_) _ _);refine wpList_store_mid rfl 34 _ _ rfl b13 0 (s.arr a) rfl rfl HTh.out (by kernel_rfl) (by simp [Value.oneCell']) ?_)
    | fail)
  clear HXr HTh
  change Code.wp _ _ _ _ (World.setCells w7 b13 0 (s.arr a).toList)
  have HB:=hid (HB.out.grown (grown_setCells w7 b13 0 (s.arr a).toList) HB.out.size (fun k hk=>by injection hk with hk;have:=HN.out;omega))
  have HZ:Hid (StBox b13 s a (World.setCells w7 b13 0 (s.arr a).toList)):=hid HZ.out.reset
  have HX:=hid (HX.out.reset' (s.arr a).toList HN.out.1)
  generalize World.setCells w7 b13 0 (s.arr a).toList=wR at *
  have zs:=HX.out.ks
  have zl:=HX.out.lt
  have zl2:=HZ.out.lt
  have fz:=fun j=>box_free HZ.out j
  have zz:=HZ.out.ks
  have HO1:=hid (OwnL.empty (T:=D3) (sz:=3) (enc:=D3.cs) wR 46 wR.heap.size (Nat.le_refl _) _ rfl)
  have HR1:=hid ((HS.out.now HB.out).ks.now ((Below.refl wR.heap.size wR).alloc (Nat.le_refl _) (.cells #[] 46)))
  have HLn:Hid (s.sent.length≤20):=hid HF1.out.sent
  go_upto_region 13 with (first
   | (at_builtin;refine wp_append_l rfl (.tmp 56) (.tmp 58) rfl slSent46 layD3 wR.heap.size (xs:=([]:List D3)) (ys:=s.sent) rfl rfl HO1.out rfl rfl HR1.out (by have:=HLn.out;simp;omega) (by simp) ?_;intro A1 c1 u1 hown hg hb2 hat;have HO2:=hid hown;have HB2:=hid hb2;clear hown hg hb2 hat)
   | (at_builtin;refine wp_append_l rfl (.tmp 59) (.tmp 64) rfl slSent46 layD3 wR.heap.size (xs:=s.sent) (ys:=[(⟨n,net,m⟩:D3)]) rfl rfl (HO2.out.alloc _) rfl rfl (RdL.one u1 (⟨n,net,m⟩:D3) _ _ rfl _ rfl) (by have:=HLn.out;simp;omega) (by have:=HB2.out.size;simp at this ⊢;omega) ?_;intro Ad1 d1 v1 hown hg hb2 hat;have HO3:=hid hown;have HB3:=hid hb2;clear hown hg hb2 hat;have HWv:Hid (Below wR.heap.size wR v1):=hid ((((Below.refl wR.heap.size wR).alloc (Nat.le_refl _) _).trans HB2.out).trans (((Below.refl wR.heap.size u1).alloc (by have:=HB2.out.size;simp at this;omega) _).trans HB3.out));have zz3:=(HZ.out.now HWv.out).ks;have fz3:=fun j=>box_free (HZ.out.now HWv.out) j)
   | fail)
  clear zs fz zz zl zl2 HO1 HR1 zz3 fz3
  rw [show s.sent.length+1=(s.sent++[(⟨n,net,m⟩:D3)]).length by simp]
  obtain ⟨xs1,hxs⟩:∃ z,z=s.sent++[(⟨n,net,m⟩:D3)]:=⟨_,rfl⟩
  have HXl1:Hid (xs1.length≤21):=hid (by rw [hxs,List.length_append];have:=HLn.out;simp;omega)
  rw [← hxs] at HO3 ⊢
  rw [← hxs] at HL2
  clear hxs
  change Code.wp _ _ _ _ (World.setCell v1 ⟨b13,3,none⟩ (.slice Ad1 xs1.length d1))
  have hWv:=HWv.out
  have hcap:=HO3.out.len_le
  have hrd:=(HO3.out.rd layD3).turn (w':=World.setCell v1 ⟨b13,3,none⟩ (.slice Ad1 xs1.length d1)) (fun i hi hl=>heap_setCell_other v1 ⟨b13,3,none⟩ i _ (by have:=(HO3.out.blk_lt hi).1;have:=HZ.out.lt;show i≠b13;omega)) (by simp [World.setCell])
  have HB:=hid ((HB.out.trans (hWv.mono HB.out.size)).setCell (p:=⟨b13,3,none⟩) HN.out.2 (.slice Ad1 xs1.length d1))
  have HX:=hid ((HX.out.now hWv).set' b13 3 (.slice Ad1 xs1.length d1) HN.out.1)
  have HZ:=hid ((HZ.out.now hWv).set_ks xs1 Ad1 d1)
  have HSx:=hid ((HS.out.now HB.out).sent hrd (by have:=HXl1.out;omega) hcap)
  clear hWv hcap hrd HO2 HB2 HO3 HB3
  generalize World.setCell v1 ⟨b13,3,none⟩ (.slice Ad1 xs1.length d1)=x1 at *
  go_wp2_with fail
  go_loop [14,15] (fun v i=>∃ k:Nat,k≤s.sent.length∧i=.int .i64 k∧v=.bool (freshS n net (s.sent.take k))) (fun _ i=>s.sent.length - (intOf i).toNat)
  case atStart=>exact ⟨0,Nat.zero_le _,rfl,rfl⟩
  case round =>
   obtain ⟨k,hk,rfl,rfl⟩:=hrel
   have hlen:s.sent.length≤20:=HLn.out
   by_cases hlt:k<s.sent.length
   ·as_aux_lemma =>
     obtain ⟨b,off,hA,hb,c0,c1,c2⟩:=rdD3 (HS.out.now HB.out).ks hlt
     have zs:=HX.out.ks
     rw [hA] at zs
     have HSt:Hid (freshS n net (s.sent.take (k+1))=(freshS n net (s.sent.take k) && (s.sent[k].a != n || s.sent[k].b != net))):=hid (fresh_succ _ _ _ hlt)
     clear hA
     generalize s.sent[k]=x at *
     generalize freshS n net (s.sent.take k)=f at *
     cases f
     ·go_wp2_with fail
      go_round
      case rel=>exact ⟨k+1,by omega,by go_num,by rw [HSt.out];rfl⟩
      case measure=>simp [intOf];omega
     ·by_cases ha:x.a=n
      ·have qa:(x.a != n)=false:=by simp [ha]
       by_cases hb2:x.b=net
       ·have qb:(x.b != net)=false:=by simp [hb2]
        have HSq:Hid (freshS n net (s.sent.take (k+1))=false):=hid (by rw [HSt.out,qa,qb];rfl)
        clear ha hb2 HSt
        go_wp2_with fail
        go_round
        case rel=>exact ⟨k+1,by omega,by go_num,by rw [HSq.out]⟩
        case measure=>simp [intOf];omega
       ·have qb:(x.b != net)=true:=by simp [hb2]
        have HSq:Hid (freshS n net (s.sent.take (k+1))=true):=hid (by rw [HSt.out,qa,qb];rfl)
        clear ha hb2 HSt
        go_wp2_with fail
        go_round
        case rel=>exact ⟨k+1,by omega,by go_num,by rw [HSq.out]⟩
        case measure=>simp [intOf];omega
      ·have qa:(x.a != n)=true:=by simp [ha]
       have HSq:Hid (freshS n net (s.sent.take (k+1))=true):=hid (by rw [HSt.out,qa];rfl)
       clear ha HSt
       go_wp2_with fail
       go_round
       case rel=>exact ⟨k+1,by omega,by go_num,by rw [HSq.out]⟩
       case measure=>simp [intOf];omega
   ·have hke:s.sent.take k=s.sent:=List.take_of_length_le (by omega)
    have d0:decide ((k:Int)<(s.sent.length:Int))=false:=decide_eq_false (by omega)
    have d1:decide (k<s.sent.length)=false:=decide_eq_false hlt
    have zs:=HX.out.ks
    rw [hke]
    clear hke
    generalize freshS n net s.sent=q14 at *
    go_upto_region 18 with fail
    clear d0 d1 zs hlen hlt hk
    go_cut [107] (fun v wx=>v=.bool false∧Below x1.heap.size x1 wx)
    case first=>as_aux_lemma =>
     have HZr:=hid (range_block HZ.out rfl)
     go_wp2_with (first
       | ((with_reducible show wpList _ _ _ (Oper.mk _ (Op.load 34 (.tmp 13)) _ _ _ _::_) _ _);refine wpList_load_g rfl 34 (.tmp 13) rfl b13 0 rfl (({s with sent:=xs1}:Stt).arr {a with ks:=(Ad1,d1)}).toList _ (HZr.out) Tryz.underlying34 rfl (by kernel_rfl) ?_)
       | fail)
     clear HZr
     refine (rightv_c {s with sent:=xs1} {a with ks:=(Ad1,d1)} (q10 && (q11 && (q12 && q14))) x1 HSx.out HpS.out HpW.out HL2.out).mono ?_
     rintro e y1 ⟨rfl,hb⟩
     have HBy:=hid hb
     clear hb
     cases q10
     ·go_wp2_with fail
      go_meet
      exact ⟨rfl,HBy.out⟩
     cases q11
     ·go_wp2_with fail
      go_meet
      exact ⟨rfl,HBy.out⟩
     cases q12
     ·go_wp2_with fail
      go_meet
      exact ⟨rfl,HBy.out⟩
     cases q14
     ·go_wp2_with fail
      go_meet
      exact ⟨rfl,HBy.out⟩
     go_wp2_with fail
     go_meet
     exact ⟨rfl,HBy.out⟩
    obtain ⟨rfl,hbc⟩:=hcut
    have HZ:=hid (HZ.out.now hbc)
    have HX:=hid (HX.out.now hbc)
    have HB:=hid (HB.out.trans ((hbc).mono HB.out.size))
    clear hbc HSx
    obtain ⟨w19,hw9⟩:∃ z,z=wc:=⟨wc,rfl⟩
    subst hw9
    have HXr:=hid (range_block HX.out rfl)
    have HTh:=hid (show World.there _ b13 0 13 from there_of_box HZ.out)
    go_upto_region 21 with (first
      | ((with_reducible show wpList _ _ _ (Oper.mk _ (Op.load 34 (.tmp 4)) _ _ _ _::_) _ _);refine wpList_load_g rfl 34 (.tmp 4) rfl b4 0 rfl (s.arr a).toList _ (HXr.out) Tryz.underlying34 rfl (by kernel_rfl) ?_)
      | ((with_reducible show wpList _ _ _ (Oper.mk _ (Op.store 34 (.tmp 13) _) _ _ _ _::_) _ _);refine wpList_store_mid rfl 34 _ _ rfl b13 0 (s.arr a) rfl rfl HTh.out (by kernel_rfl) (by simp [Value.oneCell']) ?_)
      | fail)
    clear HXr HTh
    change Code.wp _ _ _ _ (World.setCells w19 b13 0 (s.arr a).toList)
    have HB:=hid (HB.out.grown (grown_setCells w19 b13 0 (s.arr a).toList) HB.out.size (fun k hk=>by injection hk with hk;have:=HN.out;omega))
    have HZ:Hid (StBox b13 s a (World.setCells w19 b13 0 (s.arr a).toList)):=hid HZ.out.reset
    have HX:=hid (HX.out.reset' (s.arr a).toList HN.out.1)
    generalize World.setCells w19 b13 0 (s.arr a).toList=wR at *
    have zs:=HX.out.kd
    have zl:=HX.out.lt
    have zl2:=HZ.out.lt
    have fz:=fun j=>box_free HZ.out j
    have zz:=HZ.out.kd
    have HO1:=hid (OwnL.empty (T:=D2) (sz:=2) (enc:=D2.cs) wR 48 wR.heap.size (Nat.le_refl _) _ rfl)
    have HR1:=hid ((HS.out.now HB.out).kd.now ((Below.refl wR.heap.size wR).alloc (Nat.le_refl _) (.cells #[] 48)))
    have HLn:Hid (s.debts.length≤20):=hid HF1.out.debts
    go_upto_region 22 with (first
     | (at_builtin;refine wp_append_l rfl (.tmp 109) (.tmp 111) rfl slDebt46 layD2 wR.heap.size (xs:=([]:List D2)) (ys:=s.debts) rfl rfl HO1.out rfl rfl HR1.out (by have:=HLn.out;simp;omega) (by simp) ?_;intro A2 c2 u2 hown hg hb2 hat;have HO2:=hid hown;have HB2:=hid hb2;clear hown hg hb2 hat)
     | (at_builtin;refine wp_append_l rfl (.tmp 112) (.tmp 116) rfl slDebt46 layD2 wR.heap.size (xs:=s.debts) (ys:=[(⟨n,net⟩:D2)]) rfl rfl (HO2.out.alloc _) rfl rfl (RdL.one u2 (⟨n,net⟩:D2) _ _ rfl _ rfl) (by have:=HLn.out;simp;omega) (by have:=HB2.out.size;simp at this ⊢;omega) ?_;intro Ad2 d2 v2 hown hg hb2 hat;have HO3:=hid hown;have HB3:=hid hb2;clear hown hg hb2 hat;have HWv:Hid (Below wR.heap.size wR v2):=hid ((((Below.refl wR.heap.size wR).alloc (Nat.le_refl _) _).trans HB2.out).trans (((Below.refl wR.heap.size u2).alloc (by have:=HB2.out.size;simp at this;omega) _).trans HB3.out));have zz3:=(HZ.out.now HWv.out).kd;have fz3:=fun j=>box_free (HZ.out.now HWv.out) j)
     | fail)
    clear zs fz zz zl zl2 HO1 HR1 zz3 fz3
    rw [show s.debts.length+1=(s.debts++[(⟨n,net⟩:D2)]).length by simp]
    obtain ⟨xs2,hxs⟩:∃ z,z=s.debts++[(⟨n,net⟩:D2)]:=⟨_,rfl⟩
    have HXl2:Hid (xs2.length≤21):=hid (by rw [hxs,List.length_append];have:=HLn.out;simp;omega)
    rw [← hxs] at HO3 ⊢
    rw [← hxs] at HL3
    clear hxs
    change Code.wp _ _ _ _ (World.setCell v2 ⟨b13,12,none⟩ (.slice Ad2 xs2.length d2))
    have hWv:=HWv.out
    have hcap:=HO3.out.len_le
    have hrd:=(HO3.out.rd layD2).turn (w':=World.setCell v2 ⟨b13,12,none⟩ (.slice Ad2 xs2.length d2)) (fun i hi hl=>heap_setCell_other v2 ⟨b13,12,none⟩ i _ (by have:=(HO3.out.blk_lt hi).1;have:=HZ.out.lt;show i≠b13;omega)) (by simp [World.setCell])
    have HB:=hid ((HB.out.trans (hWv.mono HB.out.size)).setCell (p:=⟨b13,12,none⟩) HN.out.2 (.slice Ad2 xs2.length d2))
    have HX:=hid ((HX.out.now hWv).set' b13 12 (.slice Ad2 xs2.length d2) HN.out.1)
    have HZ:=hid ((HZ.out.now hWv).set_kd xs2 Ad2 d2)
    have HSx:=hid ((HS.out.now HB.out).debts hrd (by have:=HXl2.out;omega) hcap)
    clear hWv hcap hrd HO2 HB2 HO3 HB3
    generalize World.setCell v2 ⟨b13,12,none⟩ (.slice Ad2 xs2.length d2)=x2 at *
    go_wp2_with fail
    go_loop [14,16] (fun v i=>∃ k:Nat,k≤s.debts.length∧i=.int .i64 k∧v=.bool (freshD n net (s.debts.take k))) (fun _ i=>s.debts.length - (intOf i).toNat)
    case atStart=>exact ⟨0,Nat.zero_le _,rfl,rfl⟩
    case round =>
     obtain ⟨k,hk,rfl,rfl⟩:=hrel
     have hlen:s.debts.length≤20:=HLn.out
     by_cases hlt:k<s.debts.length
     ·as_aux_lemma =>
       obtain ⟨b,off,hA,hb,c0,c1⟩:=rdD2 (HS.out.now HB.out).kd hlt
       have zs:=HX.out.kd
       rw [hA] at zs
       have HSt:Hid (freshD n net (s.debts.take (k+1))=(freshD n net (s.debts.take k) && (decide (s.debts[k].a<n) || (s.debts[k].a==n && decide (s.debts[k].b<net))))):=hid (fresh_succ2 _ _ _ hlt)
       clear hA
       generalize s.debts[k]=x at *
       generalize freshD n net (s.debts.take k)=f at *
       cases f
       ·go_wp2_with fail
        go_round
        case rel=>exact ⟨k+1,by omega,by go_num,by rw [HSt.out];rfl⟩
        case measure=>simp [intOf];omega
       ·cases qa:decide (x.a<n)
        ·cases qb:x.a==n
         ·have HSq:Hid (freshD n net (s.debts.take (k+1))=false):=hid (by rw [HSt.out,qa,qb];rfl)
          clear HSt
          go_wp2_with fail
          go_round
          case rel=>exact ⟨k+1,by omega,by go_num,by rw [HSq.out]⟩
          case measure=>simp [intOf];omega
         ·have HSq:Hid (freshD n net (s.debts.take (k+1))=decide (x.b<net)):=hid (by rw [HSt.out,qa,qb];simp)
          clear HSt
          go_wp2_with fail
          go_round
          case rel=>exact ⟨k+1,by omega,by go_num,by rw [HSq.out]⟩
          case measure=>simp [intOf];omega
        ·have HSq:Hid (freshD n net (s.debts.take (k+1))=true):=hid (by rw [HSt.out,qa];rfl)
         clear HSt
         go_wp2_with fail
         go_round
         case rel=>exact ⟨k+1,by omega,by go_num,by rw [HSq.out]⟩
         case measure=>simp [intOf];omega
     ·have hke:s.debts.take k=s.debts:=List.take_of_length_le (by omega)
      have d0:decide ((k:Int)<(s.debts.length:Int))=false:=decide_eq_false (by omega)
      have d1:decide (k<s.debts.length)=false:=decide_eq_false hlt
      have zs:=HX.out.kd
      rw [hke]
      clear hke
      generalize freshD n net s.debts=q24 at *
      go_upto_region 27 with fail
      clear d0 d1 zs hlen hlt hk
      go_cut [166] (fun v wx=>v=.bool false∧Below x2.heap.size x2 wx)
      case first=>as_aux_lemma =>
       have HZr:=hid (range_block HZ.out rfl)
       go_wp2_with (first
         | ((with_reducible show wpList _ _ _ (Oper.mk _ (Op.load 34 (.tmp 13)) _ _ _ _::_) _ _);refine wpList_load_g rfl 34 (.tmp 13) rfl b13 0 rfl (({s with debts:=xs2}:Stt).arr {a with kd:=(Ad2,d2)}).toList _ (HZr.out) Tryz.underlying34 rfl (by kernel_rfl) ?_)
         | fail)
       clear HZr
       refine (rightv_c {s with debts:=xs2} {a with kd:=(Ad2,d2)} (q10 && (q11 && q24)) x2 HSx.out HpS.out HpW.out HL3.out).mono ?_
       rintro e y2 ⟨rfl,hb⟩
       have HBy:=hid hb
       clear hb
       cases q10
       ·go_wp2_with fail
        go_meet
        exact ⟨rfl,HBy.out⟩
       cases q11
       ·go_wp2_with fail
        go_meet
        exact ⟨rfl,HBy.out⟩
       cases q24
       ·go_wp2_with fail
        go_meet
        exact ⟨rfl,HBy.out⟩
       go_wp2_with fail
       go_meet
       exact ⟨rfl,HBy.out⟩
      obtain ⟨rfl,hbc⟩:=hcut
      have HZ:=hid (HZ.out.now hbc)
      have HX:=hid (HX.out.now hbc)
      have HB:=hid (HB.out.trans ((hbc).mono HB.out.size))
      clear hbc HSx
      obtain ⟨w29,hw9⟩:∃ z,z=wc:=⟨wc,rfl⟩
      subst hw9
      have HXr:=hid (range_block HX.out rfl)
      have HTh:=hid (show World.there _ b13 0 13 from there_of_box HZ.out)
      go_upto_region 30 with (first
        | ((with_reducible show wpList _ _ _ (Oper.mk _ (Op.load 34 (.tmp 4)) _ _ _ _::_) _ _);refine wpList_load_g rfl 34 (.tmp 4) rfl b4 0 rfl (s.arr a).toList _ (HXr.out) Tryz.underlying34 rfl (by kernel_rfl) ?_)
        | ((with_reducible show wpList _ _ _ (Oper.mk _ (Op.store 34 (.tmp 13) _) _ _ _ _::_) _ _);refine wpList_store_mid rfl 34 _ _ rfl b13 0 (s.arr a) rfl rfl HTh.out (by kernel_rfl) (by simp [Value.oneCell']) ?_)
        | fail)
      clear HXr HTh
      change Code.wp _ _ _ _ (World.setCells w29 b13 0 (s.arr a).toList)
      have HB:=hid (HB.out.grown (grown_setCells w29 b13 0 (s.arr a).toList) HB.out.size (fun k hk=>by injection hk with hk;have:=HN.out;omega))
      have HZ:Hid (StBox b13 s a (World.setCells w29 b13 0 (s.arr a).toList)):=hid HZ.out.reset
      have HX:=hid (HX.out.reset' (s.arr a).toList HN.out.1)
      generalize World.setCells w29 b13 0 (s.arr a).toList=wR at *
      have zs:=HX.out.ko
      have zl:=HX.out.lt
      have zl2:=HZ.out.lt
      have fz:=fun j=>box_free HZ.out j
      have zz:=HZ.out.ko
      have HO1:=hid (OwnL.empty (T:=D4) (sz:=4) (enc:=D4.cs) wR 50 wR.heap.size (Nat.le_refl _) _ rfl)
      have HR1:=hid ((HS.out.now HB.out).ko.now ((Below.refl wR.heap.size wR).alloc (Nat.le_refl _) (.cells #[] 50)))
      have HLn:Hid (s.orders.length≤20):=hid HF1.out.orders
      go_upto_region 31 with (first
       | (at_builtin;refine wp_append_l rfl (.tmp 168) (.tmp 170) rfl slOrder46 layD4 wR.heap.size (xs:=([]:List D4)) (ys:=s.orders) rfl rfl HO1.out rfl rfl HR1.out (by have:=HLn.out;simp;omega) (by simp) ?_;intro A3 c3 u3 hown hg hb2 hat;have HO2:=hid hown;have HB2:=hid hb2;clear hown hg hb2 hat)
       | (at_builtin;refine wp_append_l rfl (.tmp 171) (.tmp 176) rfl slOrder46 layD4 wR.heap.size (xs:=s.orders) (ys:=[(⟨net,n,0,m⟩:D4)]) rfl rfl (HO2.out.alloc _) rfl rfl (RdL.one u3 (⟨net,n,0,m⟩:D4) _ _ rfl _ rfl) (by have:=HLn.out;simp;omega) (by have:=HB2.out.size;simp at this ⊢;omega) ?_;intro Ad3 d3 v3 hown hg hb2 hat;have HO3:=hid hown;have HB3:=hid hb2;clear hown hg hb2 hat;have HWv:Hid (Below wR.heap.size wR v3):=hid ((((Below.refl wR.heap.size wR).alloc (Nat.le_refl _) _).trans HB2.out).trans (((Below.refl wR.heap.size u3).alloc (by have:=HB2.out.size;simp at this;omega) _).trans HB3.out));have zz3:=(HZ.out.now HWv.out).ko;have fz3:=fun j=>box_free (HZ.out.now HWv.out) j)
       | fail)
      clear zs fz zz zl zl2 HO1 HR1 zz3 fz3
      rw [show s.orders.length+1=(s.orders++[(⟨net,n,0,m⟩:D4)]).length by simp]
      obtain ⟨xs3,hxs⟩:∃ z,z=s.orders++[(⟨net,n,0,m⟩:D4)]:=⟨_,rfl⟩
      have HXl3:Hid (xs3.length≤21):=hid (by rw [hxs,List.length_append];have:=HLn.out;simp;omega)
      rw [← hxs] at HO3 ⊢
      rw [← hxs] at HL4
      clear hxs
      change Code.wp _ _ _ _ (World.setCell v3 ⟨b13,10,none⟩ (.slice Ad3 xs3.length d3))
      have hWv:=HWv.out
      have hcap:=HO3.out.len_le
      have hrd:=(HO3.out.rd layD4).turn (w':=World.setCell v3 ⟨b13,10,none⟩ (.slice Ad3 xs3.length d3)) (fun i hi hl=>heap_setCell_other v3 ⟨b13,10,none⟩ i _ (by have:=(HO3.out.blk_lt hi).1;have:=HZ.out.lt;show i≠b13;omega)) (by simp [World.setCell])
      have HB:=hid ((HB.out.trans (hWv.mono HB.out.size)).setCell (p:=⟨b13,10,none⟩) HN.out.2 (.slice Ad3 xs3.length d3))
      have HX:=hid ((HX.out.now hWv).set' b13 10 (.slice Ad3 xs3.length d3) HN.out.1)
      have HZ:=hid ((HZ.out.now hWv).set_ko xs3 Ad3 d3)
      have HSx:=hid ((HS.out.now HB.out).orders hrd (by have:=HXl3.out;omega) hcap)
      clear hWv hcap hrd HO2 HB2 HO3 HB3
      generalize World.setCell v3 ⟨b13,10,none⟩ (.slice Ad3 xs3.length d3)=x3 at *
      go_cut [193] (fun v wx=>v=.bool false∧Below x3.heap.size x3 wx)
      case first=>as_aux_lemma =>
       have HZr:=hid (range_block HZ.out rfl)
       go_wp2_with (first
         | ((with_reducible show wpList _ _ _ (Oper.mk _ (Op.load 34 (.tmp 13)) _ _ _ _::_) _ _);refine wpList_load_g rfl 34 (.tmp 13) rfl b13 0 rfl (({s with orders:=xs3}:Stt).arr {a with ko:=(Ad3,d3)}).toList _ (HZr.out) Tryz.underlying34 rfl (by kernel_rfl) ?_)
         | fail)
       clear HZr
       refine (rightv_c {s with orders:=xs3} {a with ko:=(Ad3,d3)} (q10 && (q12 && (decide (0≤net) && decide (net<4)))) x3 HSx.out HpS.out HpW.out HL4.out).mono ?_
       rintro e y3 ⟨rfl,hb⟩
       have HBy:=hid hb
       clear hb
       cases q10
       ·go_wp2_with fail
        go_meet
        exact ⟨rfl,HBy.out⟩
       cases q12
       ·go_wp2_with fail
        go_meet
        exact ⟨rfl,HBy.out⟩
       cases qa:decide (0≤net)
       ·go_wp2_with fail
        go_meet
        exact ⟨rfl,HBy.out⟩
       cases qb:decide (net<4)
       ·go_wp2_with fail
        go_meet
        exact ⟨rfl,HBy.out⟩
       go_wp2_with fail
       go_meet
       exact ⟨rfl,HBy.out⟩
      obtain ⟨rfl,hbc⟩:=hcut
      have HZ:=hid (HZ.out.now hbc)
      have HX:=hid (HX.out.now hbc)
      have HB:=hid (HB.out.trans ((hbc).mono HB.out.size))
      clear hbc HSx
      obtain ⟨w39,hw9⟩:∃ z,z=wc:=⟨wc,rfl⟩
      subst hw9
      have HXr:=hid (range_block HX.out rfl)
      have HTh:=hid (show World.there _ b13 0 13 from there_of_box HZ.out)
      go_upto_region 34 with (first
        | ((with_reducible show wpList _ _ _ (Oper.mk _ (Op.load 34 (.tmp 4)) _ _ _ _::_) _ _);refine wpList_load_g rfl 34 (.tmp 4) rfl b4 0 rfl (s.arr a).toList _ (HXr.out) Tryz.underlying34 rfl (by kernel_rfl) ?_)
        | ((with_reducible show wpList _ _ _ (Oper.mk _ (Op.store 34 (.tmp 13) _) _ _ _ _::_) _ _);refine wpList_store_mid rfl 34 _ _ rfl b13 0 (s.arr a) rfl rfl HTh.out (by kernel_rfl) (by simp [Value.oneCell']) ?_)
        | fail)
      clear HXr HTh
      change Code.wp _ _ _ _ (World.setCells w39 b13 0 (s.arr a).toList)
      have HB:=hid (HB.out.grown (grown_setCells w39 b13 0 (s.arr a).toList) HB.out.size (fun k hk=>by injection hk with hk;have:=HN.out;omega))
      have HZ:Hid (StBox b13 s a (World.setCells w39 b13 0 (s.arr a).toList)):=hid HZ.out.reset
      have HX:=hid (HX.out.reset' (s.arr a).toList HN.out.1)
      generalize World.setCells w39 b13 0 (s.arr a).toList=wR at *
      have zs:=HX.out.kx
      have zl:=HX.out.lt
      have zl2:=HZ.out.lt
      have fz:=fun j=>box_free HZ.out j
      have zz:=HZ.out.kx
      have HO1:=hid (OwnL.empty (T:=D3) (sz:=3) (enc:=D3.cs) wR 52 wR.heap.size (Nat.le_refl _) _ rfl)
      have HR1:=hid ((HS.out.now HB.out).kx.now ((Below.refl wR.heap.size wR).alloc (Nat.le_refl _) (.cells #[] 52)))
      have HLn:Hid (s.sealed.length≤20):=hid HF1.out.sealed
      go_upto_region 35 with (first
       | (at_builtin;refine wp_append_l rfl (.tmp 195) (.tmp 197) rfl slSealed46 layD3 wR.heap.size (xs:=([]:List D3)) (ys:=s.sealed) rfl rfl HO1.out rfl rfl HR1.out (by have:=HLn.out;simp;omega) (by simp) ?_;intro A4 c4 u4 hown hg hb2 hat;have HO2:=hid hown;have HB2:=hid hb2;clear hown hg hb2 hat)
       | (at_builtin;refine wp_append_l rfl (.tmp 198) (.tmp 205) rfl slSealed46 layD3 wR.heap.size (xs:=s.sealed) (ys:=[(⟨n,max m 0 % 1000,net⟩:D3)]) rfl rfl (HO2.out.alloc _) rfl rfl (RdL.one u4 (⟨n,max m 0 % 1000,net⟩:D3) _ _ rfl _ rfl) (by have:=HLn.out;simp;omega) (by have:=HB2.out.size;simp at this ⊢;omega) ?_;intro Ad4 d4 v4 hown hg hb2 hat;have HO3:=hid hown;have HB3:=hid hb2;clear hown hg hb2 hat;have HWv:Hid (Below wR.heap.size wR v4):=hid ((((Below.refl wR.heap.size wR).alloc (Nat.le_refl _) _).trans HB2.out).trans (((Below.refl wR.heap.size u4).alloc (by have:=HB2.out.size;simp at this;omega) _).trans HB3.out));have zz3:=(HZ.out.now HWv.out).kx;have fz3:=fun j=>box_free (HZ.out.now HWv.out) j)
       | fail)
      clear zs fz zz zl zl2 HO1 HR1 zz3 fz3
      rw [show s.sealed.length+1=(s.sealed++[(⟨n,max m 0 % 1000,net⟩:D3)]).length by simp]
      obtain ⟨xs4,hxs⟩:∃ z,z=s.sealed++[(⟨n,max m 0 % 1000,net⟩:D3)]:=⟨_,rfl⟩
      have HXl4:Hid (xs4.length≤21):=hid (by rw [hxs,List.length_append];have:=HLn.out;simp;omega)
      rw [← hxs] at HO3 ⊢
      rw [← hxs] at HL5
      clear hxs
      change Code.wp _ _ _ _ (World.setCell v4 ⟨b13,11,none⟩ (.slice Ad4 xs4.length d4))
      have hWv:=HWv.out
      have hcap:=HO3.out.len_le
      have hrd:=(HO3.out.rd layD3).turn (w':=World.setCell v4 ⟨b13,11,none⟩ (.slice Ad4 xs4.length d4)) (fun i hi hl=>heap_setCell_other v4 ⟨b13,11,none⟩ i _ (by have:=(HO3.out.blk_lt hi).1;have:=HZ.out.lt;show i≠b13;omega)) (by simp [World.setCell])
      have HB:=hid ((HB.out.trans (hWv.mono HB.out.size)).setCell (p:=⟨b13,11,none⟩) HN.out.2 (.slice Ad4 xs4.length d4))
      have HX:=hid ((HX.out.now hWv).set' b13 11 (.slice Ad4 xs4.length d4) HN.out.1)
      have HZ:=hid ((HZ.out.now hWv).set_kx xs4 Ad4 d4)
      have HSx:=hid ((HS.out.now HB.out).sealed hrd (by have:=HXl4.out;omega) hcap)
      clear hWv hcap hrd HO2 HB2 HO3 HB3
      generalize World.setCell v4 ⟨b13,11,none⟩ (.slice Ad4 xs4.length d4)=x4 at *
      have HZr:=hid (range_block HZ.out rfl)
      go_wp2_with (first
        | ((with_reducible show wpList _ _ _ (Oper.mk _ (Op.load 34 (.tmp 13)) _ _ _ _::_) _ _);refine wpList_load_g rfl 34 (.tmp 13) rfl b13 0 rfl (({s with sealed:=xs4}:Stt).arr {a with kx:=(Ad4,d4)}).toList _ (HZr.out) Tryz.underlying34 rfl (by kernel_rfl) ?_)
        | fail)
      clear HZr
      refine (rightv_c {s with sealed:=xs4} {a with kx:=(Ad4,d4)} (q10 && decide (0≤net)) x4 HSx.out HpS.out HpW.out HL5.out).mono ?_
      rintro e y4 ⟨rfl,hb⟩
      have HB:=hid (HB.out.trans (hb.mono HB.out.size))
      clear hb
      cases q10
      ·go_wp2_with fail
       go_ret
       exact ⟨rfl,HB.out⟩
      cases qa:decide (0≤net)
      ·go_wp2_with fail
       go_ret
       exact ⟨rfl,HB.out⟩
      go_wp2_with fail
      go_ret
      exact ⟨rfl,HB.out⟩
end Go.Proofs.YthlpehhlhebhbaaGreatDoor
