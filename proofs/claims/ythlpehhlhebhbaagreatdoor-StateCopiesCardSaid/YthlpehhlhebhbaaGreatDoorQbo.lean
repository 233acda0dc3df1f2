/- Contracts and plain laws, joined: StBk, StCs. -/
import Derived.Test.YthlpehhlhebhbaaGreatDoorQbm
import Derived.Test.YthlpehhlhebhbaaGreatDoorQbj
import Derived.Test.YthlpehhlhebhbaaGreatDoorQbn
/- The walk of StateBack (layer 46). -/
set_option linter.unusedSimpArgs false
set_option linter.unusedVariables false
namespace Go.Proofs.YthlpehhlhebhbaaGreatDoor
open Lib (hid)
open Go.RowKit
set_option maxRecDepth 100000
theorem few_ev {s:Stt} {n:Int} (h:FewS s n):(s.events.length:Int)≤n:=by
 have:=h.ev
 unfold fewAllB at this
 simp only [Bool.and_eq_true,decide_eq_true_eq] at this
 exact this.1
/- The walk of StateCopies (layer 46). -/
theorem few_caps2 {s:Stt} (h:FewS s 12):CapS s:=by
 have he:=few_ev h
 have hq:=h.ev
 unfold fewAllB at hq
 simp only [Bool.and_eq_true,decide_eq_true_eq] at hq
 refine ⟨by omega,fun x hx=>?_,Nat.le_trans h.queue (by omega),Nat.le_trans h.sent (by omega),Nat.le_trans h.refused (by omega),Nat.le_trans h.pairs (by omega),Nat.le_trans h.proofs (by omega),Nat.le_trans h.nl (by omega),fun x hx=>Nat.le_trans (h.notes x hx) (by omega),Nat.le_trans h.bad (by omega),Nat.le_trans h.holds (by omega),Nat.le_trans h.orders (by omega),Nat.le_trans h.sealed (by omega),Nat.le_trans h.debts (by omega)⟩
 have h1:=List.all_eq_true.1 hq.2 x hx
 unfold fewE at h1
 simp only [Bool.and_eq_true,decide_eq_true_eq] at h1
 omega
set_option maxHeartbeats 16000000 in
theorem stateCopies_any (s:Stt) (a:StAd) (w:World) (hV:Vs w.heap.size w) (hs:StOk w w.heap.size s a) (ws:StWf s) :
  Calls Tryz.prog 6 #[s.v a] w fun e w'=>e=.returned (.bool true)∧Below w.heap.size w w':=by
 have hb0:Below w.heap.size w (w.alloc (.cells (s.arr a) 34)):=by repeat (first | with_reducible exact Below.refl _ _ | with_reducible assumption | with_reducible refine Below.drew ?_ | with_reducible refine Below.alloc ?_ (by first | omega | (simp;done) | (simp;omega)) _)
 have HX:Hid (StBox w.heap.size s a (w.alloc (.cells (s.arr a) 34))):=hid (MapKept.heap_alloc w _).1
 have HS:=hid hs
 have HB:=hid hb0
 have HV:=hid hV
 have HWs:=hid ws
 clear hb0 hs hV ws
 go_enter Tryz.func6,Tryz.ntmps6
 go_upto_region 1 with fail
 generalize w.alloc (.cells (s.arr a) 34)=w0 at *
 obtain ⟨b1,hb1⟩:∃ z,z=w.heap.size:=⟨_,rfl⟩
 rw [← hb1] at HX ⊢
 have Hb1:Hid (w.heap.size≤b1):=hid (by omega)
 clear hb1
 go_wp2_with fail
 refine (small46_any w0 (HV.out.on HB.out)).mono ?_
 rintro e w1 ⟨rfl,hb⟩
 have HX:=hid (HX.out.now hb)
 have HB:=hid (HB.out.trans ((hb).mono HB.out.size))
 clear hb
 have HXr:=hid (range_block HX.out rfl)
 go_wp2_with (first
   | ((with_reducible show wpList _ _ _ (Oper.mk _ (Op.load 34 (.tmp 1)) _ _ _ _::_) _ _);refine wpList_load_g rfl 34 (.tmp 1) rfl b1 0 rfl (s.arr a).toList _ (HXr.out) Tryz.underlying34 rfl (by kernel_rfl) ?_)
   | fail)
 clear HXr
 refine (rsFew_any s a 12 w1 (HS.out.now HB.out)).mono ?_
 rintro e w2 ⟨v1,rfl,hv1,hb⟩
 have HV1:=hid hv1
 have HX:=hid (HX.out.now hb)
 have HB:=hid (HB.out.trans ((hb).mono HB.out.size))
 clear hb hv1
 cases v1
 ·skip
  have HXr:=hid (range_block HX.out rfl)
  go_wp2_with (first
    | ((with_reducible show wpList _ _ _ (Oper.mk _ (Op.load 34 (.tmp 1)) _ _ _ _::_) _ _);refine wpList_load_g rfl 34 (.tmp 1) rfl b1 0 rfl (s.arr a).toList _ (HXr.out) Tryz.underlying34 rfl (by kernel_rfl) ?_)
    | fail)
  clear HXr
  go_ret
  exact ⟨rfl,HB.out⟩
 have HF1:=hid (HV1.out rfl)
 clear HV1
 have HW2:Hid (w.heap.size≤w2.heap.size):=hid HB.out.size
 have HX2:Hid (b1<w2.heap.size):=hid HX.out.lt
 have HXr:=hid (range_block HX.out rfl)
 go_wp2_with (first
   | ((with_reducible show wpList _ _ _ (Oper.mk _ (Op.load 34 (.tmp 1)) _ _ _ _::_) _ _);refine wpList_load_g rfl 34 (.tmp 1) rfl b1 0 rfl (s.arr a).toList _ (HXr.out) Tryz.underlying34 rfl (by kernel_rfl) ?_)
   | fail)
 clear HXr
 refine (stCopy2_any s a w2 (HS.out.now HB.out) (few_caps2 HF1.out)).mono ?_
 rintro e w3 ⟨t,c,lo,rfl,hp,hlo,hrd,hrd2,hev,hb,hfq,hfd,hfn⟩
 have HP:=hid hp
 have HLo:=hid hlo
 have HRd:=hid hrd
 have HEv:=hid hev
 have HFq:=hid hfq
 have HFd:=hid hfd
 have HFn:=hid hfn
 have HCp:=hid hb
 have HX:=hid (HX.out.now hb)
 have HB:=hid (HB.out.trans ((hb).mono HB.out.size))
 clear hp hlo hrd hrd2 hev hb hfq hfd hfn
 go_upto_region 5 with fail
 change Code.wp _ _ _ _ (w3.alloc (.cells (t.arr c) 34))
 have hb:Below w3.heap.size w3 (w3.alloc (.cells (t.arr c) 34)):=by repeat (first | with_reducible exact Below.refl _ _ | with_reducible assumption | with_reducible refine Below.drew ?_ | with_reducible refine Below.alloc ?_ (by first | omega | (simp;done) | (simp;omega)) _)
 have HZ:Hid (StBox w3.heap.size t c (w3.alloc (.cells (t.arr c) 34))):=hid (MapKept.heap_alloc w3 _).1
 have HB3:=hid hb
 have HX:=hid (HX.out.now hb)
 have HB:=hid (HB.out.trans ((hb).mono HB.out.size))
 clear hb
 generalize w3.alloc (.cells (t.arr c) 34)=w4 at *
 obtain ⟨b4,hb4⟩:∃ z,z=w3.heap.size:=⟨_,rfl⟩
 rw [← hb4] at HZ ⊢
 have HN4:Hid (b4=w3.heap.size):=hid hb4
 have HZ4:Hid (b4<w4.heap.size):=hid HZ.out.lt
 clear hb4
 have HXr:=hid (range_block HX.out rfl)
 go_wp2_with (first
   | ((with_reducible show wpList _ _ _ (Oper.mk _ (Op.load 34 (.tmp 1)) _ _ _ _::_) _ _);refine wpList_load_g rfl 34 (.tmp 1) rfl b1 0 rfl (s.arr a).toList _ (HXr.out) Tryz.underlying34 rfl (by kernel_rfl) ?_)
   | fail)
 clear HXr
 refine (stCopy2_any s a w4 (HS.out.now HB.out) (few_caps2 HF1.out)).mono ?_
 rintro e w5 ⟨t2,c2,_,rfl,hp2,_,hrd2,_,_,hb,_,_,_⟩
 have HP2:=hid hp2
 have HZ:=hid (HZ.out.now hb)
 have HB3:=hid (HB3.out.trans (hb.mono HB3.out.size))
 have HX:=hid (HX.out.now hb)
 have HB:=hid (HB.out.trans ((hb).mono HB.out.size))
 clear hp2
 go_upto_region 6 with fail
 change Code.wp _ _ _ _ (w5.alloc (.cells (t2.arr c2) 34))
 have hb5:Below w5.heap.size w5 (w5.alloc (.cells (t2.arr c2) 34)):=by repeat (first | with_reducible exact Below.refl _ _ | with_reducible assumption | with_reducible refine Below.drew ?_ | with_reducible refine Below.alloc ?_ (by first | omega | (simp;done) | (simp;omega)) _)
 have HQ:Hid (StBox w5.heap.size t2 c2 (w5.alloc (.cells (t2.arr c2) 34))):=hid (MapKept.heap_alloc w5 _).1
 have HR2:=hid (hrd2.turn (Turn.below (F:=fun _=>False) hb5) (fun _ hf=>hf.elim))
 have HN5:Hid (b4<w4.heap.size∧w4.heap.size≤w5.heap.size∧w3.heap.size<w4.heap.size):=hid (by have h1:=HZ4.out;have h2:=hb.size;have h3:=HN4.out;omega)
 have HZ:=hid (HZ.out.now hb5)
 have HB3:=hid (HB3.out.trans (hb5.mono HB3.out.size))
 have HX:=hid (HX.out.now hb5)
 have HB:=hid (HB.out.trans ((hb5).mono HB.out.size))
 clear hb hb5 hrd2
 generalize w5.alloc (.cells (t2.arr c2) 34)=w6 at *
 obtain ⟨b5,hb5⟩:∃ z,z=w5.heap.size:=⟨_,rfl⟩
 rw [← hb5] at HQ ⊢
 have HN6:Hid (b5=w5.heap.size):=hid hb5
 clear hb5
 have HXr:=hid (range_block HX.out rfl)
 have HZr:=hid (range_block HZ.out rfl)
 go_wp2_with (first
   | ((with_reducible show wpList _ _ _ (Oper.mk _ (Op.load 34 (.tmp 1)) _ _ _ _::_) _ _);refine wpList_load_g rfl 34 (.tmp 1) rfl b1 0 rfl (s.arr a).toList _ (HXr.out) Tryz.underlying34 rfl (by kernel_rfl) ?_)
   | ((with_reducible show wpList _ _ _ (Oper.mk _ (Op.load 34 (.tmp 4)) _ _ _ _::_) _ _);refine wpList_load_g rfl 34 (.tmp 4) rfl b4 0 rfl (t.arr c).toList _ (HZr.out) Tryz.underlying34 rfl (by kernel_rfl) ?_)
   | fail)
 clear HXr HZr
 refine (rsame_c s t a c w6 (HS.out.now HB.out) (HRd.out.ok.now HB3.out) HP.out.symm).mono ?_
 rintro e w7 ⟨rfl,hb⟩
 have HZ:=hid (HZ.out.now hb)
 have HQ:=hid (HQ.out.now hb)
 have HB3:=hid (HB3.out.trans (hb.mono HB3.out.size))
 have HR2:=hid (HR2.out.turn (Turn.below (F:=fun _=>False) hb) (fun _ hf=>hf.elim))
 have HX:=hid (HX.out.now hb)
 have HB:=hid (HB.out.trans ((hb).mono HB.out.size))
 clear hb
 have HQr:=hid (range_block HQ.out rfl)
 have HZr:=hid (range_block HZ.out rfl)
 go_wp2_with (first
   | ((with_reducible show wpList _ _ _ (Oper.mk _ (Op.load 34 (.tmp 5)) _ _ _ _::_) _ _);refine wpList_load_g rfl 34 (.tmp 5) rfl b5 0 rfl (t2.arr c2).toList _ (HQr.out) Tryz.underlying34 rfl (by kernel_rfl) ?_)
   | ((with_reducible show wpList _ _ _ (Oper.mk _ (Op.load 34 (.tmp 4)) _ _ _ _::_) _ _);refine wpList_load_g rfl 34 (.tmp 4) rfl b4 0 rfl (t.arr c).toList _ (HZr.out) Tryz.underlying34 rfl (by kernel_rfl) ?_)
   | fail)
 clear HQr HZr
 refine (rsame_c t t2 c c2 w7 (HRd.out.ok.now HB3.out) HR2.out.ok (by rw [HP.out,HP2.out])).mono ?_
 rintro e w8 ⟨rfl,hb⟩
 have HZ:=hid (HZ.out.now hb)
 have HQ:=hid (HQ.out.now hb)
 have HB3:=hid (HB3.out.trans (hb.mono HB3.out.size))
 have HR2:=hid (HR2.out.turn (Turn.below (F:=fun _=>False) hb) (fun _ hf=>hf.elim))
 have HX:=hid (HX.out.now hb)
 have HB:=hid (HB.out.trans ((hb).mono HB.out.size))
 clear hb
 have HLe:Hid (t.events.length=s.events.length):=hid HEv.out.len
 have hel:t.events.length≤12:=by have h1:=few_ev HF1.out;have h2:=HLe.out;omega
 have HHi:Hid (w2.heap.size≤lo∧w.heap.size≤w2.heap.size):=hid ⟨HLo.out,HW2.out⟩
 obtain ⟨g,HG⟩:∃ g,Hid (t.events≠[]→c.ke.1=some ⟨g,0,none⟩∧w2.heap.size≤g∧g<w3.heap.size):=by
  by_cases h:t.events=[]
  ·exact ⟨0,hid (fun h2=>absurd h h2)⟩
  ·obtain ⟨g,h1,h2,h3⟩:=HEv.out.own.some_ h
   exact ⟨g,hid (fun _=>⟨h1,h2,h3⟩)⟩
 have HEl:Hid (∀ x∈t.events,EvLOk w3 w3.heap.size x∧(∀ i,x.at_ i→(w2.heap.size≤i∧i<w3.heap.size)∧∀ o,w3.frozen? ⟨i,o,none⟩=false)∧x.ev.causes.length≤1000∧x.ev.files.length≤1000∧x.ev.text.data.toList.length≤300):=hid (fun x hx=>by
  obtain ⟨j,hj,rfl⟩:=List.getElem_of_mem hx
  have hj2:j<s.events.length:=by rw [← HLe.out];exact hj
  have h1:=HEv.out.new j hj hj2
  have e:t.events[j].ev=s.events[j].ev:=by
   have h3:evsL t.events=evsL s.events:=congrArg StP.events HP.out
   have h4:=congrArg (fun l=>l[j]?) h3
   simpa [evsL,hj,hj2] using h4
  have hq:=HF1.out.ev
  unfold fewAllB at hq
  simp only [Bool.and_eq_true,decide_eq_true_eq] at hq
  have h5:=List.all_eq_true.1 hq.2 _ (List.getElem_mem hj2)
  unfold fewE at h5
  simp only [Bool.and_eq_true,decide_eq_true_eq] at h5
  refine ⟨h1.1.1,fun i hi=>⟨⟨Nat.le_trans HLo.out (h1.2 i hi),h1.1.2 i hi⟩,HEv.out.fr j hj hj2 i hi⟩,?_⟩
  rw [e]
  have h6:s.events[j].ev.text.data.toList.length=s.events[j].ev.text.size:=Array.length_toList
  rw [h6]
  omega)
 obtain ⟨ts,hts⟩:∃ z:List (List UInt8),z=t.events.map (fun x=>x.ev.text.data.toList):=⟨_,rfl⟩
 have HTs:Hid (ts.length=t.events.length∧∀ j (h1:j<ts.length) (h2:j<t.events.length),ts[j]=t.events[j].ev.text.data.toList):=hid ⟨by rw [hts];simp,fun j h1 h2=>by subst hts;simp⟩
 clear hts
 have HC0:Hid (CsI w2.heap.size w3.heap.size g ts w3 w8 0 w8):=hid ⟨KeepK.below HB3.out,Turn.refl _ _,fun j hj=>by
  have hj2:j<t.events.length:=by rw [← HTs.out.1];exact hj
  rw [if_neg (Nat.not_lt_zero j),HTs.out.2 j hj hj2]
  have h1:=HG.out (fun e=>by rw [e] at hj2;simp at hj2)
  have h2:=HEv.out.own
  rw [h1.1] at h2
  exact (HB3.out.cell (p:=⟨g,j * 12+9,none⟩) h1.2.2).trans (h2.cellc layEvL j 9 hj2 _ rfl)⟩
 have HN8:Hid (w3.heap.size≤b4∧w3.heap.size≤b5∧b1<w2.heap.size):=hid (by have h1:=HN4.out;have h2:=HN5.out;have h3:=HN6.out;have h4:=HX2.out;omega)
 go_wp2_with fail
 go_loopw [6,7,8] (fun i _ _ wr=>∃ j:Nat,j≤t.events.length∧i=.int .i64 j∧CsI w2.heap.size w3.heap.size g ts w3 w8 j wr) (fun i _ _ _=>t.events.length - (intOf i).toNat)
 case atStart=>exact ⟨0,Nat.zero_le _,rfl,HC0.out⟩
 case round =>
  obtain ⟨j,hj,rfl,hc⟩:=hrel
  have HC:=hid hc
  clear hc
  have HZw:Hid (StBox b4 t c _):=hid ((HC.out.t.block b4 HZ.out.lt (fun h=>by have:=HN8.out;omega)).trans HZ.out)
  have zz:=HZw.out.ke
  by_cases hlt:j<t.events.length
  ·have hA:=HG.out (fun e=>by rw [e] at hlt;simp at hlt)
   rw [hA.1] at zz
   have hjt:j<ts.length:=by rw [HTs.out.1];exact hlt
   have HO:Hid (OwnL w3 w2.heap.size 56 12 EvL.cs (some ⟨g,0,none⟩) c.ke.2 t.events):=hid (by have h:=HEv.out.own;rw [hA.1] at h;exact h)
   have z9:=HC.out.x j hjt
   rw [if_neg (Nat.lt_irrefl j)] at z9
   have fz:=fun o=>(HC.out.k.froz g o hA.2.2).trans (HO.out.freec o)
   have HSt:=hid ((HC.out.setTxt hjt hA.2).drew)
   have htl:ts[j].length≤300:=by
    rw [HTs.out.2 j hjt hlt]
    exact (HEl.out _ (List.getElem_mem hlt)).2.2.2.2
   have HA:Hid (c.ke.1=some ⟨g,0,none⟩):=hid hA.1
   have HGg:Hid (w2.heap.size≤g∧g<w3.heap.size):=hid hA.2
   clear hA
   have HJt:=hid hjt
   generalize ts[j]=tx at *
   clear hjt
   go_upto_region 11 with fail
   refine wp_region_J (S:=fun w'=>w'.cell? ⟨b4,1,none⟩=some (.slice (some ⟨g,0,none⟩) t.events.length c.ke.2)∧w'.cell? ⟨g,j * 12+9,none⟩=some (.string (bs tx))) (fun q=>q==12) (by kernel_rfl) (⟨zz,z9⟩) (fun hHeld=>?_)
   refine wpAnyJ_pure (i:=0) (v:=?_) rfl (by kernel_rfl) (by kernel_rfl) (by kernel_rfl) (fun _ _ _ h=>h) (Or.inl ⟨by rfl,?_⟩) ?_
   rotate_left
   ·intro wq _
    go_simp
    try with_reducible rfl
   simp only [Act.put,sA,sB,sC]
   refine wpAnyJ_take (i:=1) (v:=?_) rfl (by kernel_rfl) (by kernel_rfl) (by kernel_rfl) (by kernel_rfl) (fun _ _ _ h=>h) (Or.inl ⟨by rfl,?_⟩) hHeld ?_
   rotate_left
   ·intro wq hSq
    obtain ⟨h1,h2⟩:=hSq
    go_simp
    try with_reducible rfl
   simp only [Act.put,sA,sB,sC]
   refine wpAnyJ_pure (i:=2) (v:=?_) rfl (by kernel_rfl) (by kernel_rfl) (by kernel_rfl) (fun _ _ _ h=>h) (Or.inl ⟨by rfl,?_⟩) ?_
   rotate_left
   ·intro wq _
    go_simp
    try with_reducible rfl
   simp only [Act.put,sA,sB,sC]
   refine wpAnyJ_pure (i:=3) (v:=?_) rfl (by kernel_rfl) (by kernel_rfl) (by kernel_rfl) (fun _ _ _ h=>h) (Or.inl ⟨by rfl,?_⟩) ?_
   rotate_left
   ·intro wq _
    go_simp
    try with_reducible rfl
   simp only [Act.put,sA,sB,sC]
   refine wpAnyJ_take (i:=4) (v:=?_) rfl (by kernel_rfl) (by kernel_rfl) (by kernel_rfl) (by kernel_rfl) (fun _ _ _ h=>h) (Or.inl ⟨by rfl,?_⟩) hHeld ?_
   rotate_left
   ·intro wq hSq
    obtain ⟨h1,h2⟩:=hSq
    go_simp
    try with_reducible rfl
   simp only [Act.put,sA,sB,sC]
   refine wpAnyJ_pure (i:=5) (v:=?_) rfl (by kernel_rfl) (by kernel_rfl) (by kernel_rfl) (fun _ _ _ h=>h) (Or.inl ⟨by rfl,?_⟩) ?_
   rotate_left
   ·intro wq _
    go_simp
    try with_reducible rfl
   simp only [Act.put,sA,sB,sC]
   refine wpAnyJ_pure (i:=6) (v:=?_) rfl (by kernel_rfl) (by kernel_rfl) (by kernel_rfl) (fun _ _ _ h=>h) (Or.inl ⟨by rfl,?_⟩) ?_
   rotate_left
   ·intro wq _
    go_simp
    try with_reducible rfl
   simp only [Act.put,sA,sB,sC]
   refine wpAnyJ_pure (i:=7) (v:=?_) rfl (by kernel_rfl) (by kernel_rfl) (by kernel_rfl) (fun _ _ _ h=>h) (Or.inl ⟨by rfl,?_⟩) ?_
   rotate_left
   ·intro wq _
    go_simp
    try with_reducible rfl
   simp only [Act.put,sA,sB,sC]
   refine wpAnyJ_take (i:=8) (v:=?_) rfl (by kernel_rfl) (by kernel_rfl) (by kernel_rfl) (by kernel_rfl) (fun _ _ _ h=>h) (Or.inl ⟨by rfl,?_⟩) hHeld ?_
   rotate_left
   ·intro wq hSq
    obtain ⟨h1,h2⟩:=hSq
    go_simp
    try with_reducible rfl
   simp only [Act.put,sA,sB,sC]
   refine wpAnyJ_pure (i:=9) (v:=.string (bs (tx++[120]))) rfl (by kernel_rfl) (by kernel_rfl) (by kernel_rfl) (fun _ _ _ h=>h) (Or.inl ⟨by rfl,?_⟩) ?_
   ·intro wq _
    go_simp
    rw [if_neg (by rw [bs_size];omega)]
    show Result.ok (Next.value (Value.string (bs tx++bs [120]))) wq=_
    rw [bs_app]
   simp only [Act.put,sA,sB,sC]
   refine wpAnyJ_pure (i:=10) (v:=?_) rfl (by kernel_rfl) (by kernel_rfl) (by kernel_rfl) (fun _ _ _ h=>h) (Or.inl ⟨by rfl,?_⟩) ?_
   rotate_left
   ·intro wq _
    go_simp
    try with_reducible rfl
   simp only [Act.put,sA,sB,sC]
   refine wpAnyJ_pure (i:=11) (v:=?_) rfl (by kernel_rfl) (by kernel_rfl) (by kernel_rfl) (fun _ _ _ h=>h) (Or.inl ⟨by rfl,?_⟩) ?_
   rotate_left
   ·intro wq _
    go_simp
    try with_reducible rfl
   simp only [Act.put,sA,sB,sC]
   refine wpAnyJ_one (i:=12) rfl (by kernel_rfl) (fun K hK=>?_)
   go_simp
   refine hK.out _ _ (fun h=>nomatch h) ?_
   clear hK K
   refine wpAnyJ_done (by kernel_rfl) ?_ _
   clear zz z9 fz hHeld
   have HC:Hid (CsI w2.heap.size w3.heap.size g ts w3 w8 (j+1) (World.setCell wr ⟨g,j * 12+9,none⟩ (.string (bs (tx++[120])))).drew):=HSt
   clear HSt HZw
   generalize (World.setCell wr ⟨g,j * 12+9,none⟩ (.string (bs (tx++[120])))).drew=wq at *
   have HXj:=hid (HEl.out _ (List.getElem_mem hlt))
   have HC10:Hid (w3.cell? ⟨g,j * 12+10,none⟩=some (.slice t.events[j].fA t.events[j].ev.files.length t.events[j].fc)):=hid (HO.out.cellc layEvL j 10 hlt _ rfl)
   have HC2:Hid (w3.cell? ⟨g,j * 12+2,none⟩=some (.slice t.events[j].cA t.events[j].ev.causes.length t.events[j].cc)):=hid (HO.out.cellc layEvL j 2 hlt _ rfl)
   generalize t.events[j]=x at *
   go_wp2_with fail
   go_loopw [7] (fun k2 wy=>∃ q:Nat,q≤x.ev.files.length∧k2=.int .i64 q∧CsI w2.heap.size w3.heap.size g ts w3 w8 (j+1) wy) (fun k2 _=>x.ev.files.length - (intOf k2).toNat)
   case atStart=>exact ⟨0,Nat.zero_le _,rfl,HC.out⟩
   case round =>
    obtain ⟨q,hq,rfl,hc⟩:=hrel
    have HC:=hid hc
    clear hc
    have HZw:Hid (StBox b4 t c _):=hid ((HC.out.t.block b4 HZ.out.lt (fun h=>by have:=HN8.out;omega)).trans HZ.out)
    have zz:=HZw.out.ke
    rw [HA.out] at zz
    have z10:=HC.out.k.slice HC10.out
    have hnl:x.ev.files.length≤1000:=HXj.out.2.2.2.1
    by_cases hq2:q<x.ev.files.length
    ·obtain ⟨b,off,hA2,hb,hcc⟩:=RdI_at HXj.out.1.ok.fi hq2
     have hbl:=HXj.out.2.1 b (.inr (by rw [hA2];rfl))
     rw [hA2] at z10
     obtain ⟨m,hm⟩:=HC.out.k.int hcc
     have hz:=(HC.out.k.froz b (off+q) hbl.1.2).trans (hbl.2 (off+q))
     have HSq:=hid (HC.out.setInt hbl.1 hm (m:=-5))
     clear hcc hbl hb
     go_wp2_with fail
     go_roundw
     case rel=>exact ⟨q+1,by omega,by simp,HSq.out⟩
     case measure=>simp [intOf];omega
    ·skip
     have dq:decide (q<x.ev.files.length)=false:=decide_eq_false hq2
     go_wp2_with fail
     go_loopw [8] (fun k2 wy=>∃ q:Nat,q≤x.ev.causes.length∧k2=.int .i64 q∧CsI w2.heap.size w3.heap.size g ts w3 w8 (j+1) wy) (fun k2 _=>x.ev.causes.length - (intOf k2).toNat)
     case atStart=>exact ⟨0,Nat.zero_le _,rfl,HC.out⟩
     case round =>
      obtain ⟨q,hq,rfl,hc⟩:=hrel
      have HC:=hid hc
      clear hc
      have HZw:Hid (StBox b4 t c _):=hid ((HC.out.t.block b4 HZ.out.lt (fun h=>by have:=HN8.out;omega)).trans HZ.out)
      have zz:=HZw.out.ke
      rw [HA.out] at zz
      have z2:=HC.out.k.slice HC2.out
      have hnl:x.ev.causes.length≤1000:=HXj.out.2.2.1
      by_cases hq2:q<x.ev.causes.length
      ·obtain ⟨b,off,hA2,hb,hcc⟩:=RdI_at HXj.out.1.ok.ca hq2
       have hbl:=HXj.out.2.1 b (.inl (by rw [hA2];rfl))
       rw [hA2] at z2
       obtain ⟨m,hm⟩:=HC.out.k.int hcc
       have hz:=(HC.out.k.froz b (off+q) hbl.1.2).trans (hbl.2 (off+q))
       have HSq:=hid (HC.out.setInt hbl.1 hm (m:=-5))
       clear hcc hbl hb
       go_wp2_with fail
       go_roundw
       case rel=>exact ⟨q+1,by omega,by simp,HSq.out⟩
       case measure=>simp [intOf];omega
      ·skip
       have dq:decide (q<x.ev.causes.length)=false:=decide_eq_false hq2
       go_wp2_with fail
       go_roundw
       case rel=>exact ⟨j+1,by omega,by simp,HC.out⟩
       case measure=>simp [intOf];omega
  ·skip
   obtain rfl:j=t.events.length:=by omega
   have dj:decide (t.events.length<t.events.length)=false:=decide_eq_false hlt
   clear hlt
   go_wp2_with fail
   clear dj
   have HLn:Hid (t.notes.length≤20∧∀ x∈t.notes,x.l.length≤20):=hid (by
    have h1:t.pl.notes=s.pl.notes:=congrArg StP.notes HP.out
    have h2:t.notes.length=s.notes.length:=by
     have:=congrArg List.length h1
     simpa [Stt.pl] using this
    refine ⟨by rw [h2];exact HF1.out.nl,fun x hx=>?_⟩
    have h3:x.l∈t.pl.notes:=List.mem_map.2 ⟨x,hx,rfl⟩
    rw [h1] at h3
    obtain ⟨z,hz,he⟩:=List.mem_map.1 h3
    rw [← he]
    exact HF1.out.notes z hz)
   go_loopw [9,10] (fun i _ wy=>∃ j:Nat,j≤t.notes.length∧i=.int .i64 j∧CsI w2.heap.size w3.heap.size g ts w3 w8 t.events.length wy) (fun i _ _=>t.notes.length - (intOf i).toNat)
   case atStart=>exact ⟨0,Nat.zero_le _,rfl,HC.out⟩
   case round =>
    obtain ⟨j,hj,rfl,hc⟩:=hrel
    have HC:=hid hc
    clear hc
    have HZw:Hid (StBox b4 t c _):=hid ((HC.out.t.block b4 HZ.out.lt (fun h=>by have:=HN8.out;omega)).trans HZ.out)
    have zz:=HZw.out.kn
    have hnn:t.notes.length≤20:=HLn.out.1
    by_cases hlt:j<t.notes.length
    ·obtain ⟨bn,offn,hAn,hbn,hcn⟩:=rdNL HRd.out.kn.rd hlt
     have HNj:=hid (HRd.out.nos _ (List.getElem_mem hlt))
     have HNf:=hid (HFn.out _ (List.getElem_mem hlt))
     have HNl:=hid (HLn.out.2 _ (List.getElem_mem hlt))
     have HCn:=hid hcn
     have HAn:=hid hAn
     clear hcn hAn
     generalize t.notes[j]=x at *
     rw [HAn.out] at zz
     go_wp2_with fail
     go_loopw [10] (fun i wy=>∃ q:Nat,q≤x.l.length∧i=.int .i64 q∧CsI w2.heap.size w3.heap.size g ts w3 w8 t.events.length wy) (fun i _=>x.l.length - (intOf i).toNat)
     case atStart=>exact ⟨0,Nat.zero_le _,rfl,HC.out⟩
     case round =>
      obtain ⟨q,hq,rfl,hc⟩:=hrel
      have HC:=hid hc
      clear hc
      have HZw:Hid (StBox b4 t c _):=hid ((HC.out.t.block b4 HZ.out.lt (fun h=>by have:=HN8.out;omega)).trans HZ.out)
      have zz:=HZw.out.kn
      rw [HAn.out] at zz
      have zn:=HC.out.k.slice HCn.out
      have hnl:x.l.length≤20:=HNl.out
      by_cases hq2:q<x.l.length
      ·obtain ⟨b,off,hA2,hb,hcr⟩:=HNj.out.1.1.1.at_ hq2
       have hcc:=hcr 2 _ rfl
       have hbl:(w2.heap.size≤b∧b<w3.heap.size)∧∀ o,w3.frozen? ⟨b,o,none⟩=false:=⟨⟨Nat.le_trans HLo.out (HNf.out.1 b (show slBlk x.A=some b by rw [hA2];rfl)),HNj.out.1.2 b (show slBlk x.A=some b by rw [hA2];rfl)⟩,HNf.out.2 b (show slBlk x.A=some b by rw [hA2];rfl)⟩
       rw [hA2] at zn
       clear hcr
       obtain ⟨m,hm⟩:=HC.out.k.int hcc
       have hz:=(HC.out.k.froz b (off+q * 5+2) hbl.1.2).trans (hbl.2 (off+q * 5+2))
       have HSq:=hid (HC.out.setInt hbl.1 hm (m:=-5))
       clear hcc hbl hb
       go_wp2_with fail
       go_roundw
       case rel=>exact ⟨q+1,by omega,by simp,HSq.out⟩
       case measure=>simp [intOf];omega
      ·skip
       have dq:decide (q<x.l.length)=false:=decide_eq_false hq2
       go_wp2_with fail
       go_roundw
       case rel=>exact ⟨j+1,by omega,by simp,HC.out⟩
       case measure=>simp [intOf];omega
    ·skip
     have dq:decide (j<t.notes.length)=false:=decide_eq_false hlt
     go_wp2_with fail
     have HLkq:Hid (t.queue.length≤20):=hid (by rw [show t.queue=s.queue from congrArg StP.queue HP.out];exact HF1.out.queue)
     go_loopw [11] (fun i wy=>∃ q:Nat,q≤t.queue.length∧i=.int .i64 q∧CsI w2.heap.size w3.heap.size g ts w3 w8 t.events.length wy) (fun i _=>t.queue.length - (intOf i).toNat)
     case atStart=>exact ⟨0,Nat.zero_le _,rfl,HC.out⟩
     case round =>
      obtain ⟨q,hq,rfl,hc⟩:=hrel
      have HC:=hid hc
      clear hc
      have HZw:Hid (StBox b4 t c _):=hid ((HC.out.t.block b4 HZ.out.lt (fun h=>by have:=HN8.out;omega)).trans HZ.out)
      have zz:=HZw.out.kq
      have hnl:t.queue.length≤20:=HLkq.out
      by_cases hq2:q<t.queue.length
      ·obtain ⟨b,off,hA2,hb,hcr⟩:=HRd.out.kq.rd.at_ hq2
       have hcc:=hcr 2 _ rfl
       have hfr:=HFq.out b (by rw [hA2];rfl)
       have hbl:(w2.heap.size≤b∧b<w3.heap.size)∧∀ o,w3.frozen? ⟨b,o,none⟩=false:=⟨⟨Nat.le_trans HLo.out hfr.1,hfr.2.1⟩,hfr.2.2⟩
       rw [hA2] at zz
       clear hcr hfr
       obtain ⟨m,hm⟩:=HC.out.k.int hcc
       have hz:=(HC.out.k.froz b (off+q * 4+2) hbl.1.2).trans (hbl.2 (off+q * 4+2))
       have HSq:=hid (HC.out.setInt hbl.1 hm (m:=-5))
       clear hcc hbl hb
       go_wp2_with fail
       go_roundw
       case rel=>exact ⟨q+1,by omega,by simp,HSq.out⟩
       case measure=>simp [intOf];omega
      ·skip
       have dq:decide (q<t.queue.length)=false:=decide_eq_false hq2
       go_wp2_with fail
       have HLkd:Hid (t.debts.length≤20):=hid (by rw [show t.debts=s.debts from congrArg StP.debts HP.out];exact HF1.out.debts)
       go_loopw [12] (fun i wy=>∃ q:Nat,q≤t.debts.length∧i=.int .i64 q∧CsI w2.heap.size w3.heap.size g ts w3 w8 t.events.length wy) (fun i _=>t.debts.length - (intOf i).toNat)
       case atStart=>exact ⟨0,Nat.zero_le _,rfl,HC.out⟩
       case round =>
        obtain ⟨q,hq,rfl,hc⟩:=hrel
        have HC:=hid hc
        clear hc
        have HZw:Hid (StBox b4 t c _):=hid ((HC.out.t.block b4 HZ.out.lt (fun h=>by have:=HN8.out;omega)).trans HZ.out)
        have zz:=HZw.out.kd
        have hnl:t.debts.length≤20:=HLkd.out
        by_cases hq2:q<t.debts.length
        ·obtain ⟨b,off,hA2,hb,hcr⟩:=HRd.out.kd.rd.at_ hq2
         have hcc:=hcr 1 _ rfl
         have hfr:=HFd.out b (by rw [hA2];rfl)
         have hbl:(w2.heap.size≤b∧b<w3.heap.size)∧∀ o,w3.frozen? ⟨b,o,none⟩=false:=⟨⟨Nat.le_trans HLo.out hfr.1,hfr.2.1⟩,hfr.2.2⟩
         rw [hA2] at zz
         clear hcr hfr
         obtain ⟨m,hm⟩:=HC.out.k.int hcc
         have hz:=(HC.out.k.froz b (off+q * 2+1) hbl.1.2).trans (hbl.2 (off+q * 2+1))
         have HSq:=hid (HC.out.setInt hbl.1 hm (m:=-5))
         clear hcc hbl hb
         go_wp2_with fail
         go_roundw
         case rel=>exact ⟨q+1,by omega,by simp,HSq.out⟩
         case measure=>simp [intOf];omega
        ·skip
         have dq:decide (q<t.debts.length)=false:=decide_eq_false hq2
         go_wp2_with fail
         obtain ⟨w9,hw9⟩:∃ z,z=wr:=⟨wr,rfl⟩
         subst hw9
         have HZ9:Hid (StBox b4 t c w9):=hid ((HC.out.t.block b4 HZ.out.lt (fun h=>by have:=HN8.out;omega)).trans HZ.out)
         have HQ9:Hid (StBox b5 t2 c2 w9):=hid ((HC.out.t.block b5 HQ.out.lt (fun h=>by have:=HN8.out;omega)).trans HQ.out)
         have HX9:Hid (StBox b1 s a w9):=hid ((HC.out.t.block b1 HX.out.lt (fun h=>by have:=HN8.out;omega)).trans HX.out)
         have HR9:=hid (HR2.out.turn HC.out.t (fun i hi=>by have:=HN5.out;omega))
         have HB9:Hid (Below w.heap.size w w9):=hid (HB.out.trans (HC.out.t.to_below HB.out.size (fun i hi=>Nat.le_trans HHi.out.2 hi.1)))
         have HL2:Hid (t2.events.length=t.events.length):=hid (by
          have h1:evsL t2.events=evsL t.events:=congrArg StP.events (HP2.out.trans HP.out.symm)
          have:=congrArg List.length h1
          simpa using this)
         have HLt:Hid (t.events.length≤12):=hid hel
         go_wp2_with fail
         go_loopw [13] (fun i wy=>∃ q:Nat,q≤t.events.length∧i=.int .i64 q∧Below w9.heap.size w9 wy) (fun i _=>t.events.length - (intOf i).toNat)
         case atStart=>exact ⟨0,Nat.zero_le _,rfl,Below.refl _ _⟩
         case round =>
          obtain ⟨q,hq,rfl,hb9⟩:=hrel
          have HBy:=hid hb9
          clear hb9
          have zz:=(HZ9.out.now HBy.out).ke
          have zq:=(HQ9.out.now HBy.out).ke
          rw [HL2.out] at zq
          have hel:=HLt.out
          by_cases hlt:q<t.events.length
          ·have hA:=HG.out (fun e=>by rw [e] at hlt;simp at hlt)
           rw [hA.1] at zz
           have HA:Hid (c.ke.1=some ⟨g,0,none⟩):=hid hA.1
           have HO:Hid (OwnL w3 w2.heap.size 56 12 EvL.cs (some ⟨g,0,none⟩) c.ke.2 t.events):=hid (by have h:=HEv.out.own;rw [hA.1] at h;exact h)
           have hqt:q<ts.length:=by rw [HTs.out.1];exact hlt
           have hq2:q<t2.events.length:=by rw [HL2.out];exact hlt
           have htl:ts[q].length≤300:=by
            rw [HTs.out.2 q hqt hlt]
            exact (HEl.out _ (List.getElem_mem hlt)).2.2.2.2
           obtain ⟨y,hr,hok,htx⟩:=HC.out.event HO.out hlt hqt (HEl.out _ (List.getElem_mem hlt)).1 (by omega)
           rw [if_pos hlt] at htx
           obtain ⟨bz,oz,hAz,hbz,hcz⟩:=HR9.out.ke.rd.at_ hq2
           have hzk:=(HR9.out.evs _ (List.getElem_mem hq2)).1.1
           have hzt:t2.events[q].ev.text=bs ts[q]:=by
            have h1:evsL t2.events=evsL t.events:=congrArg StP.events (HP2.out.trans HP.out.symm)
            have h2:=congrArg (fun l=>l[q]?) h1
            have h3:t2.events[q].ev=t.events[q].ev:=by simpa [evsL,hlt,hq2] using h2
            rw [h3,HTs.out.2 q hqt hlt]
            rfl
           have HSm:Hid (sameE y.ev t2.events[q].ev=false):=hid (by
            cases h:sameE y.ev t2.events[q].ev with
            | false=>rfl
            | true =>
             have h1:=congrArg EvM.text ((sameE_iff _ _).1 h)
             rw [htx,hzt] at h1
             have h2:=congrArg ByteArray.size h1
             rw [bs_size,bs_size,List.length_append] at h2
             simp at h2)
           have HRy:Hid (∀ wq:World,Below w9.heap.size w9 wq→wq.rangeAt g (q * 12) y.cs):=hid (fun wq hq j v hv=>(hq.cell (p:=⟨g,q * 12+j,none⟩) (cell_lt (hr j v hv))).trans (hr j v hv))
           have HRz:Hid (∀ wq:World,Below w9.heap.size w9 wq→wq.rangeAt bz (oz+q * 12) t2.events[q].cs):=hid (fun wq hq j v hv=>(hq.cell (p:=⟨bz,oz+q * 12+j,none⟩) (cell_lt (hcz j v hv))).trans (hcz j v hv))
           have HOk:=hid hok
           have HZk:=hid hzk
           have HAz:Hid (c2.ke.1=some ⟨bz,oz,none⟩):=hid hAz
           rw [hAz] at zq
           clear hA hqt htl hr hok htx hbz hcz hzk hzt hAz
           generalize t2.events[q]=z at *
           have HUn:=hid Tryz.underlying56
           have HIn:Hid ((Tryz.prog.info? 56).map (·.size)=some 12):=hid (by kernel_rfl)
           go_upto_region 38 with fail
           have hu:=HUn.out
           have hi:=HIn.out
           have HS9:Hid (∀ wq:World,Below w9.heap.size w9 wq→wq.cell? ⟨b4,1,none⟩=some (.slice (some ⟨g,0,none⟩) t.events.length c.ke.2)∧wq.cell? ⟨b5,1,none⟩=some (.slice (some ⟨bz,oz,none⟩) t.events.length c2.ke.2)):=hid (fun wq h=>by
            have h1:=(HZ9.out.now h).ke
            have h2:=(HQ9.out.now h).ke
            rw [HA.out] at h1
            rw [HAz.out,HL2.out] at h2
            exact ⟨h1,h2⟩)
           refine wp_region_J (S:=fun w'=>Below w9.heap.size w9 w') (fun _=>false) (by kernel_rfl) (HBy.out.drew) (fun hHeld=>?_)
           refine wpAnyJ_pure (i:=0) (v:=?_) rfl (by kernel_rfl) (by kernel_rfl) (by kernel_rfl) (fun _ _ _ h=>h) (Or.inl ⟨by rfl,?_⟩) ?_
           rotate_left
           ·intro wq _
            go_simp
            try with_reducible rfl
           simp only [Act.put,sA,sB,sC]
           refine wpAnyJ_take (i:=1) (v:=?_) rfl (by kernel_rfl) (by kernel_rfl) (by kernel_rfl) (by kernel_rfl) (fun _ _ _ h=>h) (Or.inl ⟨by rfl,?_⟩) hHeld ?_
           rotate_left
           ·intro wq hSq
            obtain ⟨h1,h2⟩:=HS9.out _ hSq
            go_simp
            try with_reducible rfl
           simp only [Act.put,sA,sB,sC]
           refine wpAnyJ_pure (i:=2) (v:=?_) rfl (by kernel_rfl) (by kernel_rfl) (by kernel_rfl) (fun _ _ _ h=>h) (Or.inl ⟨by rfl,?_⟩) ?_
           rotate_left
           ·intro wq _
            go_simp
            try with_reducible rfl
           simp only [Act.put,sA,sB,sC]
           refine wpAnyJ_pure (i:=3) (v:=?_) rfl (by kernel_rfl) (by kernel_rfl) (by kernel_rfl) (fun _ _ _ h=>h) (Or.inl ⟨by rfl,?_⟩) ?_
           rotate_left
           ·intro wq _
            go_simp
            try with_reducible rfl
           simp only [Act.put,sA,sB,sC]
           refine' wpAnyJ_take (i:=4) rfl (by kernel_rfl) (by kernel_rfl) (by kernel_rfl) (by kernel_rfl) (fun _ _ _ h=>h) (yieldsIf_load_mid (by rfl) _ _ rfl _ _ rfl _ _ HRy.out hu rfl hi) hHeld ?_
           simp only [Act.put,sA,sB,sC,sD,sE,sF]
           refine wpAnyJ_pure (i:=5) (v:=?_) rfl (by kernel_rfl) (by kernel_rfl) (by kernel_rfl) (fun _ _ _ h=>h) (Or.inl ⟨by rfl,?_⟩) ?_
           rotate_left
           ·intro wq _
            go_simp
            try with_reducible rfl
           simp only [Act.put,sA,sB,sC]
           refine wpAnyJ_take (i:=6) (v:=?_) rfl (by kernel_rfl) (by kernel_rfl) (by kernel_rfl) (by kernel_rfl) (fun _ _ _ h=>h) (Or.inl ⟨by rfl,?_⟩) hHeld ?_
           rotate_left
           ·intro wq hSq
            obtain ⟨h1,h2⟩:=HS9.out _ hSq
            go_simp
            try with_reducible rfl
           simp only [Act.put,sA,sB,sC]
           refine wpAnyJ_pure (i:=7) (v:=?_) rfl (by kernel_rfl) (by kernel_rfl) (by kernel_rfl) (fun _ _ _ h=>h) (Or.inl ⟨by rfl,?_⟩) ?_
           rotate_left
           ·intro wq _
            go_simp
            try with_reducible rfl
           simp only [Act.put,sA,sB,sC]
           refine wpAnyJ_pure (i:=8) (v:=?_) rfl (by kernel_rfl) (by kernel_rfl) (by kernel_rfl) (fun _ _ _ h=>h) (Or.inl ⟨by rfl,?_⟩) ?_
           rotate_left
           ·intro wq _
            go_simp
            try with_reducible rfl
           simp only [Act.put,sA,sB,sC]
           refine' wpAnyJ_take (i:=9) rfl (by kernel_rfl) (by kernel_rfl) (by kernel_rfl) (by kernel_rfl) (fun _ _ _ h=>h) (yieldsIf_load_mid (by rfl) _ _ rfl _ _ rfl _ _ HRz.out hu rfl hi) hHeld ?_
           simp only [Act.put,sA,sB,sC,sD,sE,sF]
           clear hu hi zz zq
           refine wpAnyJ_one (i:=10) rfl (by kernel_rfl) (fun K hK=>?_)
           go_simp
           refine (evSame_any y.ev z.ev y.cA y.cc y.fA y.fc z.cA z.cc z.fA z.fc wr.drew (HOk.out.ok.now HBy.out.drew) (HZk.out.ok.now HBy.out.drew)).mono ?_
           rintro e wz ⟨rfl,hbz⟩
           rw [HSm.out]
           go_wp2_with fail
           have HBz:=hid (HBy.out.drew.trans (hbz.mono HBy.out.drew.size))
           refine hK.out _ _ (fun _ h=>h.trans (hbz.mono h.size)) ?_
           clear hK K
           clear hbz
           refine wpAnyJ_done (by kernel_rfl) ?_ _
           clear hHeld
           go_wp2_with fail
           go_roundw
           case rel=>exact ⟨q+1,by omega,by simp,HBz.out⟩
           case measure=>simp [intOf];omega
          ·have dq:decide (q<t.events.length)=false:=decide_eq_false hlt
           have HRx:=hid (range_block (HX9.out.now HBy.out) rfl)
           have HRq:=hid (range_block (HQ9.out.now HBy.out) rfl)
           go_wp2_with (first
             | ((with_reducible show wpList _ _ _ (Oper.mk _ (Op.load 34 (.tmp 1)) _ _ _ _::_) _ _);refine wpList_load_g rfl 34 (.tmp 1) rfl b1 0 rfl (s.arr a).toList _ (HRx.out) Tryz.underlying34 rfl (by kernel_rfl) ?_)
             | ((with_reducible show wpList _ _ _ (Oper.mk _ (Op.load 34 (.tmp 5)) _ _ _ _::_) _ _);refine wpList_load_g rfl 34 (.tmp 5) rfl b5 0 rfl (t2.arr c2).toList _ (HRq.out) Tryz.underlying34 rfl (by kernel_rfl) ?_)
             | fail)
           refine (rsame_c s t2 a c2 wr (HS.out.now (HB9.out.trans (HBy.out.mono HB9.out.size))) (HR9.out.ok.now HBy.out) HP2.out.symm).mono ?_
           rintro e wz ⟨rfl,hbz⟩
           have HBz:=hid ((HB9.out.trans (HBy.out.mono HB9.out.size)).trans (hbz.mono (HB9.out.trans (HBy.out.mono HB9.out.size)).size))
           clear hbz
           go_wp2_with fail
           go_ret
           exact ⟨rfl,HBz.out⟩
end Go.Proofs.YthlpehhlhebhbaaGreatDoor
