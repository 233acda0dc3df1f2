/- Contracts and plain laws, joined: CvH, StSm. -/
import Derived.Test.YthlpehhlhebhbaaGreatDoorQbc
import Derived.Test.YthlpehhlhebhbaaGreatDoorQbd
import Derived.Test.YthlpehhlhebhbaaGreatDoorQbm
import Derived.Test.YthlpehhlhebhbaaGreatDoorQbk
import Derived.Test.YthlpehhlhebhbaaGreatDoorQan
import Derived.Deep.CutBlock
import Derived.Deep.DeepCutAuto
/- Contract of (*conv.Conv).Erase (layer 15). -/
set_option linter.unusedSimpArgs false
set_option linter.unusedVariables false
namespace Go.Proofs.YthlpehhlhebhbaaGreatDoor
set_option maxHeartbeats 8000000
open Lib (hid)
open Go.RowKit
set_option maxRecDepth 100000
section
variable {P:Program} {t e:TypeId} {sz by_:Nat} {T:Type} {enc:T→List Value} {w:World} {base g c:Nat} {xs:List T}
theorem wpK_store_l {op:Oper} {a:Act} {K:Act→World→Prop} {Q:Exit→Act→World→Prop} (x y:Operand) (ho:op.op=.store e x y)
  (S:SlTy P t e sz by_) (L:Lay sz enc) (h:OwnL w base e sz enc (some ⟨g,0,none⟩) c xs) (i:Nat) (hi:i<xs.length) (o:Nat) (hx:a.eval x=.pointer (some ⟨g,o,none⟩)) (hio:o=i * sz) (p:T) (v:Value) (hy:a.eval y=v) (hv:v.cells.toList=enc p)
  (hK:∀ w2,OwnL w2 base e sz enc (some ⟨g,0,none⟩) c (xs.set i p)→w.grownBy w2 (some g)→K (a.put op.dst undef) w2):Oper.wp P op a w K Q:=by
 obtain ⟨w2,hrun,h1,h2⟩:=run_storeAt_l S L h i hi o hio p v hv
 unfold Oper.wp execOp
 simp only [ho,hx,hy,Sem.run_bind,Sem.run_pure,Result.andThen_ok,hrun]
 exact hK w2 h1 h2
end
theorem CvG.setEv {w w5:World} {p g c ob db i:Nat} {L:List EvM} {F:Int→List Int} {D:Int→Bool} {ml:List EvL} {f:Int→Option IL} {d:Int→Option Bool} (h:CvG w p L F D ⟨some ⟨g,0,none⟩,c,ml,ob,db,f,d⟩) {x:EvL} (hi:i<ml.length)
  (hown:OwnL w5 0 56 12 EvL.cs (some ⟨g,0,none⟩) c (ml.set i x)) (hg:w.grownBy w5 (some g))
  (hx:EvLOk w w.heap.size x) (hxb:∀ j,x.at_ j→j<w.heap.size∧¬ (⟨some ⟨g,0,none⟩,c,ml,ob,db,f,d⟩:CvL).own p j) (hxr:x.ev.causes.length≤8∧x.ev.files.length≤4) :
  CvG w5 p (L.set i x.ev) F D ⟨some ⟨g,0,none⟩,c,ml.set i x,ob,db,f,d⟩:=by
 have hp:=box_lt h.box
 have hob:=h.own.lt
 have hdb:=h.del.lt
 have h2:=h.d2 g rfl
 have nb:∀ j,j<w.heap.size→j≠g→w5.heap[j]?=w.heap[j]?:=fun j hj hn=>hg.block j hj (fun e=>hn (Option.some.inj e))
 have hsl:=hg.size
 have hmem:∀ y∈ml.set i x,EvLOk w w.heap.size y∧(∀ j,y.at_ j→j<w.heap.size∧¬ (⟨some ⟨g,0,none⟩,c,ml,ob,db,f,d⟩:CvL).own p j)∧(y.ev.causes.length≤8∧y.ev.files.length≤4):=fun y hy=>by
  rcases List.mem_or_eq_of_mem_set hy with hy | rfl
  ·exact ⟨h.evs y hy,h.evb y hy,h.evr y hy⟩
  ·exact ⟨hx,hxb,hxr⟩
 refine ⟨?_,by rw [List.map_set,h.ml],hown,fun y hy=>?_,fun y hy j hj=>?_,fun y hy=>(hmem y hy).2.2,h.own.of_block (nb _ hob (fun e=>h2.2.1 e.symm)),h.ownl,fun a s hf=>(h.owno a s hf).turn (fun j hj hl=>nb j hl (fun e=>(h.d3 a s j hf hj).2.2.2 (by rw [e];rfl))),
  h.del.of_block (nb _ hdb (fun e=>h2.2.2 e.symm)),h.dell,h.d1,h.d2,h.d3,h.d4⟩
 ·rw [List.length_set]
  exact (nb p hp (fun e=>h2.1 e.symm)).trans h.box
 ·refine (hmem y hy).1.turn (fun j hj hl=>nb j hl (fun e=>((hmem y hy).2.1 j hj).2 (by rw [e];exact .inr (.inr (.inr (.inl rfl)))))) hsl
 ·have h1:=(hmem y hy).2.1 j hj
  exact ⟨Nat.lt_of_lt_of_le h1.1 hsl,h1.2⟩
structure ErTo (k:Int) (j:Nat) (ml xs:List EvL):Prop where
 len:xs.length=ml.length
 new:∀ m (h1:m<ml.length) (h2:m<xs.length),m<j→xs[m].ev=if hitE k m ml[m].ev=true then bareE ml[m].ev else ml[m].ev
 old:∀ m (h1:m<ml.length) (h2:m<xs.length),j≤m→xs[m]=ml[m]
theorem ErTo.keep {k:Int} {j:Nat} {ml xs:List EvL} (h:ErTo k j ml xs) (hj:j<ml.length) (hh:hitE k j ml[j].ev=false):ErTo k (j+1) ml xs:=by
 refine ⟨h.len,fun m h1 h2 hm=>?_,fun m h1 h2 hm=>h.old m h1 h2 (by omega)⟩
 by_cases e:m=j
 ·subst e
  rw [hh,h.old m h1 h2 (Nat.le_refl _)]
  rfl
 ·exact h.new m h1 h2 (by omega)
theorem ErTo.put {k:Int} {j:Nat} {ml xs:List EvL} (h:ErTo k j ml xs) (hj:j<ml.length) (hh:hitE k j ml[j].ev=true) {x:EvL} (hx:x.ev=bareE ml[j].ev):ErTo k (j+1) ml (xs.set j x):=by
 refine ⟨by rw [List.length_set];exact h.len,fun m h1 h2 hm=>?_,fun m h1 h2 hm=>?_⟩
 ·rw [List.length_set] at h2
  by_cases e:m=j
  ·subst e
   rw [List.getElem_set_self,hh,hx]
   rfl
  ·rw [List.getElem_set_ne (fun e2=>e e2.symm)]
   exact h.new m h1 h2 (by omega)
 ·rw [List.length_set] at h2
  rw [List.getElem_set_ne (by omega)]
  exact h.old m h1 h2 (by omega)
theorem ErTo.all {k:Int} {ml xs:List EvL} (h:ErTo k ml.length ml xs):evsL xs=eraseGo k 0 (evsL ml):=by
 refine List.ext_getElem (by rw [eraseGo_len];simp [h.len]) (fun m h1 h2=>?_)
 have h1':m<ml.length:=by rw [eraseGo_len] at h2;simpa using h2
 have h2':m<xs.length:=by simpa using h1
 rw [eraseGo_get _ _ _ _ (by simpa using h1') h2]
 simp only [List.getElem_map,Nat.zero_add]
 exact h.new m h1' h2' h1'
theorem erase_bare (k:Int) (L:List EvM):BareL L (eraseGo k 0 L):=bareR_of (eraseGo_len k L 0) (fun j h1 h2=>by
 rw [eraseGo_get k L 0 j h1 h2]
 split
 ·exact .inr rfl
 ·exact .inl rfl)
theorem bare_small {e:EvM} (h:e.causes.length≤8∧e.files.length≤4):(bareE e).causes.length≤8∧(bareE e).files.length≤4:=by
 unfold bareE
 split
 ·exact ⟨h.1,by simp⟩
 ·exact h
theorem cvErase_any (p k:Nat) (L:List EvM) (C:CvL) (w:World) (h:CvK w p L C) (hk:k<L.length) (hp:L[k].kind=0) (hl:L.length≤1000000) :
  Calls Tryz.prog 21 #[.pointer (some ⟨p,0,none⟩),.int .i64 k] w fun e w'=>e=.returned (.int .i64 0)∧∃ C',OUpd (cvOb p L C) (cvOb p (eraseGo k 0 L) C') w w':=by
 have hkm:k<C.ml.length:=by rw [h.len];exact hk
 obtain ⟨A,c,ml,ob,db,f,d⟩:=C
 obtain ⟨g,rfl,_,hg⟩:=h.evl.some_ (fun e=>by rw [e] at hkm;simp at hkm)
 have z0:=h.c0
 have fz:=h.free
 have zk:w.cell? ⟨g,k * 12+3,none⟩=some (.int .i64 0):=by
  have h1:=OwnL.cellc layEvL h.evl k 3 hkm (.int .i64 ml[k].ev.kind) rfl
  have h2:ml[k].ev=L[k]:=by
   have:=h.ml
   subst this
   simp
  rw [h1,h2,hp]
 have d0:decide ((k:Int)<0)=false:=decide_eq_false (by omega)
 have d1:decide (ml.length≤k)=false:=decide_eq_false (by have:k<ml.length:=hkm;omega)
 have hml:ml.length≤1000000:=by have:=h.len;simp only at this;omega
 have HU:=hid Tryz.underlying56
 have HI:Hid ((Tryz.prog.info? 56).map (·.size)=some 12):=hid (by kernel_rfl)
 have H:=hid h
 have HKm:Hid (k<ml.length):=hid hkm
 have HG:=hid hg
 clear hp hg
 go_enter Tryz.func21,Tryz.ntmps21
 go_wp2_with fail
 clear z0 fz zk d0 d1
 go_loopw [5,6,34] (fun _ _ i wr=>∃ (j:Nat) (xs:List EvL),j≤ml.length∧i=.int .i64 j∧CvG wr p (evsL xs) (ofL L) (delB L) ⟨some ⟨g,0,none⟩,c,xs,ob,db,f,d⟩∧ErTo k j ml xs∧Turn (CvL.own ⟨some ⟨g,0,none⟩,c,ml,ob,db,f,d⟩ p) w wr∧(∀ x∈xs,∀ i,x.at_ i→(∃ y∈ml,y.at_ i)∨w.heap.size≤i)) (fun _ _ i _=>ml.length - (intOf i).toNat)
 case atStart =>
  refine ⟨0,ml,Nat.zero_le _,rfl,?_,⟨rfl,fun m _ _ hm=>by omega,fun _ _ _ _=>rfl⟩,Turn.refl _ _,fun x hx i hi=>.inl ⟨x,hx,hi⟩⟩
  have h1:=H.out
  have h2:=h1.ml
  simp only at h2
  rw [evsL,h2]
  exact h1
 case round =>
  obtain ⟨j,xs,hj,rfl,hck,her,htu,hse⟩:=hrel
  have HC:=hid hck
  have HE:=hid her
  have HT:=hid htu
  have HSe:=hid hse
  clear hck her htu hse
  have HMl:Hid (ml.length≤1000000):=hid hml
  by_cases hlt:j<ml.length
  ·have hjx:j<xs.length:=by rw [HE.out.len];exact hlt
   have hold:xs[j]=ml[j]:=HE.out.old j hlt hjx (Nat.le_refl _)
   have HR:Hid (wr.rangeAt g (j * 12) xs[j].cs):=hid (fun i v hv=>OwnL.cellc layEvL HC.out.evl j i hjx v hv)
   have HX:=hid (HC.out.evs _ (List.getElem_mem hjx))
   have HSm:=hid (HC.out.evr _ (List.getElem_mem hjx))
   have HKp:=hid (fun (hh:hitE k j xs[j].ev=false)=>HE.out.keep hlt (by rw [← hold];exact hh))
   have HPt:=hid (fun (hh:hitE k j xs[j].ev=true) (x:EvL) (hx:x.ev=bareE xs[j].ev)=>HE.out.put hlt (by rw [← hold];exact hh) (x:=x) (by rw [← hold];exact hx))
   have HJx:=hid hjx
   clear hold
   generalize hx:xs[j]=x at *
   clear hx
   go_upto_region 6 with (first
    | ((with_reducible show wpList _ _ _ (Oper.mk _ (Op.load 56 _) _ _ _ _::_) _ _);refine wpList_load_g rfl 56 (.tmp 37) rfl g (j * 12) rfl (x.ev.cs x.cA x.cc x.fA x.fc).toList _ HR.out Tryz.underlying56 rfl (by kernel_rfl) ?_)
    | fail)
   change Code.wp _ _ _ _ (wr.alloc (.cells (x.ev.cs x.cA x.cc x.fA x.fc) 56))
   have hb1:Below wr.heap.size wr (wr.alloc (.cells (x.ev.cs x.cA x.cc x.fA x.fc) 56)):=(Below.refl _ _).alloc (Nat.le_refl _) _
   have hr1:(wr.alloc (.cells (x.ev.cs x.cA x.cc x.fA x.fc) 56)).heap[wr.heap.size]?=some (.cells (x.ev.cs x.cA x.cc x.fA x.fc) 56 (0,0)):=(MapKept.heap_alloc wr _).1
   have HB1:=hid hb1
   have HR1:=hid hr1
   have HCv:=hid (HC.out.below hb1)
   have HXv:=hid (HX.out.now hb1)
   have HTv:=hid (HT.out.trans (Turn.below (F:=fun _=>False) hb1) (fun _ hf=>hf.elim))
   clear hb1 hr1 HR HC HX
   generalize wr.alloc (.cells (x.ev.cs x.cA x.cc x.fA x.fc) 56)=wv at *
   obtain ⟨b6,hb6⟩:∃ z,z=wr.heap.size:=⟨_,rfl⟩
   rw [← hb6] at HR1 ⊢
   have Hb6:=hid hb6
   clear hb6
   go_cut [52] (fun v wx=>v=.bool (hitE k j x.ev)∧wx=wv)
   case first =>
    have z3:=box_cell HR1.out 3 _ rfl
    have z5:=box_cell HR1.out 5 _ rfl
    by_cases h1:j=k
    ·have q1:((j:Int)==(k:Int))=true:=by simp [h1]
     have HH:Hid (hitE k j x.ev=true):=hid (by unfold hitE;rw [q1];rfl)
     clear h1
     go_wp2_with fail
     go_meet
     exact ⟨by rw [HH.out],rfl⟩
    ·have q1:((j:Int)==(k:Int))=false:=by simp;omega
     have HH:Hid (hitE k j x.ev=(x.ev.kind==1 && x.ev.target==(k:Int))):=hid (by unfold hitE;rw [q1];rfl)
     clear h1
     cases q2:x.ev.kind==1
     ·go_wp2_with fail
      go_meet
      exact ⟨by rw [HH.out,q2];rfl,rfl⟩
     ·go_wp2_with fail
      go_meet
      exact ⟨by rw [HH.out,q2];simp,rfl⟩
   obtain ⟨rfl,hwc⟩:=hcut
   subst hwc
   cases hh:hitE k j x.ev with
   | false =>
    have HZ:Hid (∃ (j':Nat) (xs:List EvL),j'≤ml.length∧(Value.int .i64 ((j:Int)+1))=.int .i64 j'∧CvG wc p (evsL xs) (ofL L) (delB L) ⟨some ⟨g,0,none⟩,c,xs,ob,db,f,d⟩∧ErTo k j' ml xs∧Turn (CvL.own ⟨some ⟨g,0,none⟩,c,ml,ob,db,f,d⟩ p) w wc∧(∀ x∈xs,∀ i,x.at_ i→(∃ y∈ml,y.at_ i)∨w.heap.size≤i)) :=
     hid ⟨j+1,xs,by omega,by simp,HCv.out,HKp.out hh,HTv.out,HSe.out⟩
    clear hh
    go_wp2_with fail
    go_roundw
    case rel=>exact HZ.out
    case measure=>simp [intOf];omega
   | true =>
    have HH:=hid hh
    clear hh
    go_upto_region 7 with fail
    have hu:=HU.out
    have hi:=HI.out
    have HRq:=hid (fun (wq:World) (hq:wq.cell? ⟨p,0,none⟩=some (.slice (some ⟨g,0,none⟩) xs.length c)∧wq.heap[b6]?=some (.cells (x.ev.cs x.cA x.cc x.fA x.fc) 56 (0,0)))=>range_block hq.2 rfl)
    refine wp_region_J (S:=fun w'=>w'.cell? ⟨p,0,none⟩=some (.slice (some ⟨g,0,none⟩) xs.length c)∧w'.heap[b6]?=some (.cells (x.ev.cs x.cA x.cc x.fA x.fc) 56 (0,0))) (fun _=>false) (by kernel_rfl) (⟨HCv.out.c0,HR1.out⟩) (fun hHeld=>?_)
    refine wpAnyJ_pure (i:=0) (v:=?_) rfl (by kernel_rfl) (by kernel_rfl) (by kernel_rfl) (fun _ _ _ h=>h) (Or.inl ⟨by rfl,?_⟩) ?_
    rotate_left
    ·intro wq _
     go_simp
     try with_reducible rfl
    simp only [Act.put,sA,sB,sC]
    refine wpAnyJ_pure (i:=1) (v:=?_) rfl (by kernel_rfl) (by kernel_rfl) (by kernel_rfl) (fun _ _ _ h=>h) (Or.inl ⟨by rfl,?_⟩) ?_
    rotate_left
    ·intro wq _
     go_simp
     try with_reducible rfl
    simp only [Act.put,sA,sB,sC]
    refine wpAnyJ_pure (i:=2) (v:=?_) rfl (by kernel_rfl) (by kernel_rfl) (by kernel_rfl) (fun _ _ _ h=>h) (Or.inl ⟨by rfl,?_⟩) ?_
    rotate_left
    ·intro wq _
     go_simp
     try with_reducible rfl
    simp only [Act.put,sA,sB,sC]
    refine wpAnyJ_take (i:=3) (v:=?_) rfl (by kernel_rfl) (by kernel_rfl) (by kernel_rfl) (by kernel_rfl) (fun _ _ _ h=>h) (Or.inl ⟨by rfl,?_⟩) hHeld ?_
    rotate_left
    ·intro wq hSq
     obtain ⟨h1,h2⟩:=hSq
     go_simp
     try with_reducible rfl
    simp only [Act.put,sA,sB,sC]
    refine wpAnyJ_pure (i:=4) (v:=?_) rfl (by kernel_rfl) (by kernel_rfl) (by kernel_rfl) (fun _ _ _ h=>h) (Or.inl ⟨by rfl,?_⟩) ?_
    rotate_left
    ·intro wq _
     go_simp
     try with_reducible rfl
    simp only [Act.put,sA,sB,sC]
    refine' wpAnyJ_take (i:=5) rfl (by kernel_rfl) (by kernel_rfl) (by kernel_rfl) (by kernel_rfl) (fun _ _ _ h=>h) (yieldsIf_load_mid (by rfl) _ _ rfl _ _ rfl _ _ HRq.out hu rfl hi) hHeld ?_
    simp only [Act.put,sA,sB,sC,sD,sE,sF]
    clear hu hi
    refine wpAnyJ_one (i:=6) rfl (by kernel_rfl) (fun K hK=>?_)
    go_simp
    have HBd:Hid (Below wc.heap.size wc wc.drew):=hid (Below.refl _ _).drew
    refine (evBare_any x wc.drew (HXv.out.now HBd.out) (by have:=HSm.out.1;omega) (by have:=HSm.out.2;omega)).mono ?_
    rintro en w5 ⟨y,rfl,hy,hyo,hya,hb5⟩
    go_wp2_with fail
    have hp5:p<wc.drew.heap.size:=box_lt HCv.out.box
    have hb65:b6<wc.drew.heap.size:=box_lt HR1.out
    refine hK.out _ _ (fun _ h=>⟨(hb5.cell (p:=⟨p,0,none⟩) hp5).trans h.1,(hb5.block b6 hb65).trans h.2⟩) ?_
    clear hK K
    have hbw:Below wc.heap.size wc w5:=HBd.out.trans (hb5.mono HBd.out.size)
    have hC5:=HCv.out.below hbw
    have HC5:=hid hC5
    have HY:Hid (EvLOk w5 w5.heap.size y):=hid hyo
    have HYe:Hid (y.ev=bareE x.ev):=hid hy
    have HYa:Hid (∀ i,y.at_ i→wc.heap.size≤i∧i<w5.heap.size):=hid hya
    have HT5:=hid (HTv.out.trans (Turn.below (F:=fun _=>False) hbw) (fun _ hf=>hf.elim))
    have HYb:Hid (∀ i,y.at_ i→i<w5.heap.size∧¬ (⟨some ⟨g,0,none⟩,c,xs,ob,db,f,d⟩:CvL).own p i):=hid (fun i hi=>⟨(hya i hi).2,fun ho=>by
     have h1:=HCv.out.lt i ho
     have h2:wc.heap.size≤i:=(hya i hi).1
     omega⟩)
    have HSz:Hid (w.heap.size≤wc.heap.size):=hid HTv.out.size
    have HTr:Hid (w.heap.size≤wr.heap.size):=hid HT.out.size
    have HLb:Hid (b6<w5.heap.size):=hid (Nat.lt_of_lt_of_le (box_lt HR1.out) hbw.size)
    clear hp5 hb65 hbw hC5 hy hyo hya hb5 hHeld
    refine wpAnyJ_pure (i:=7) (v:=?_) rfl (by kernel_rfl) (by kernel_rfl) (by kernel_rfl) (fun _ _ _ h=>h) (Or.inl ⟨by rfl,?_⟩) ?_
    rotate_left
    ·intro wq _
     go_simp
     try with_reducible rfl
    simp only [Act.put,sA,sB,sC]
    refine wpAnyJ_one (i:=8) rfl (by kernel_rfl) (fun K hK=>?_)
    simp only [List.getElem_toArray,List.getElem_cons_succ,List.getElem_cons_zero,Region.wanted,if_true]
    refine wpK_store_l (.tmp 60) (.tmp 59) rfl slEvents layEvL HC5.out.evl j HJx.out (j * 12) ?hx rfl y y.v ?hy rfl ?_
    case hx=>simp [Act.eval]
    case hy=>simp [Act.eval]
    intro w6 hown hg
    simp only [List.setIfInBounds_toArray]
    have hgp:p≠g:=fun e=>(HC5.out.d2 g rfl).1 e.symm
    have hgb:b6≠g:=by have h1:=HG.out;have h2:=Hb6.out;have h3:=HSz.out;have h4:=HTr.out;omega
    have hp5:p<w5.heap.size:=box_lt HC5.out.box
    have hb5:b6<w5.heap.size:=HLb.out
    refine hK.out _ _ (fun _ h=>⟨(World.cell?_of_block (a:=⟨p,0,none⟩) (hg.block p hp5 (fun e=>hgp (Option.some.inj e)))).trans h.1,(hg.block b6 hb5 (fun e=>hgb (Option.some.inj e))).trans h.2⟩) ?_
    clear hK K
    refine wpAnyJ_done (by kernel_rfl) ?_ _
    have hC6:=HC5.out.setEv HJx.out hown hg HY.out HYb.out (by rw [HYe.out];exact bare_small HSm.out)
    have hT6:Turn (CvL.own ⟨some ⟨g,0,none⟩,c,ml,ob,db,f,d⟩ p) w w6:=HT5.out.trans (Turn.grown (F:=fun i=>i=g) hg (fun q hq=>(Option.some.inj hq).symm)) (fun i hi=>.inl (by rw [hi];exact .inr (.inr (.inr (.inl rfl)))))
    have HZ:Hid (∃ (j':Nat) (xs:List EvL),j'≤ml.length∧(Value.int .i64 ((j:Int)+1))=.int .i64 j'∧CvG w6 p (evsL xs) (ofL L) (delB L) ⟨some ⟨g,0,none⟩,c,xs,ob,db,f,d⟩∧ErTo k j' ml xs∧Turn (CvL.own ⟨some ⟨g,0,none⟩,c,ml,ob,db,f,d⟩ p) w w6∧(∀ x∈xs,∀ i,x.at_ i→(∃ y∈ml,y.at_ i)∨w.heap.size≤i)) :=
     hid ⟨j+1,xs.set j y,by omega,by simp,by rw [evsL,List.map_set];exact hC6,HPt.out HH.out y HYe.out,hT6,fun z hz i hi=>by
      rcases List.mem_or_eq_of_mem_set hz with hz | rfl
      ·exact HSe.out z hz i hi
      ·exact .inr (Nat.le_trans HSz.out (HYa.out i hi).1)⟩
    clear hown hg hgp hgb hp5 hb5 hC6 hT6
    go_wp2_with fail
    go_roundw
    case rel=>exact HZ.out
    case measure=>simp [intOf];omega
  ·have hje:j=ml.length:=by omega
   have HJe:=hid hje
   have d2:decide (j<ml.length)=false:=decide_eq_false hlt
   clear hje hlt
   go_wp2_with fail
   go_ret
   refine ⟨rfl,⟨some ⟨g,0,none⟩,c,xs,ob,db,f,d⟩,?_⟩
   have h1:=HE.out
   rw [HJe.out] at h1
   have h2:=h1.all
   have h3:evsL ml=L:=H.out.ml
   rw [h3] at h2
   have h4:=HC.out
   rw [h2] at h4
   have h5:=erase_bare k L
   refine ⟨?_,HT.out,fun i hi=>.inl hi,fun i hi=>?_⟩
   ·show CvG wr p (eraseGo k 0 L) (ofL (eraseGo k 0 L)) (delB (eraseGo k 0 L)) _
    have e1:ofL (eraseGo k 0 L)=ofL L:=funext fun a=>ofGo_bare h5 a 0
    have e2:delB (eraseGo k 0 L)=delB L:=funext fun a=>delB_bare h5 a
    rw [e1,e2]
    exact h4
   ·obtain ⟨x,hx,hi⟩:=hi
    exact HSe.out x hx i hi
/- Contracts of lingualaw46's example and small (written by gensm.py). -/
def exS:Stt:=⟨7,[],[],[],[],[],[],[],[⟨9,5,true⟩],[⟨2,0,3,-1⟩],[],[],[]⟩
def exA (n:Nat):StAd:=⟨(none,0),(none,0),(none,0),(none,0),(none,0),(none,0),(none,0),(some ⟨n+1,0,none⟩,1),(some ⟨n+1+1,0,none⟩,1),(none,0),(none,0),(none,0)⟩
theorem exOk {n:Nat} (w:World) (h1:RdL 3 E3.cs w w.heap.size (some ⟨n+1,0,none⟩) [⟨9,5,true⟩]) (h2:RdL 4 D4.cs w w.heap.size (some ⟨n+1+1,0,none⟩) [⟨2,0,3,-1⟩]):StOk w w.heap.size exS (exA n):=by
 refine ⟨RdL.nil_,RdL.nil_,RdL.nil_,RdL.nil_,RdL.nil_,RdL.nil_,RdL.nil_,h1,h2,RdL.nil_,RdL.nil_,RdL.nil_,fun x hx=>(nomatch hx),fun x hx=>(nomatch hx),?_,?_,?_,?_,?_,?_,?_,?_,?_,?_,?_,?_,?_,?_,?_,?_,?_,?_,?_,?_,?_,?_,?_,?_⟩ <;> simp [exS,exA]
theorem example_any (w:World):Calls Tryz.prog 23 #[] w fun e w'=>∃ n,e=.returned (exS.v (exA n))∧StOk w' w'.heap.size exS (exA n)∧Below w.heap.size w w':=by
 have hb0:Below w.heap.size w (w.alloc (.cells ((sttZ 0).arr adZ) 34)):=by repeat (first | with_reducible exact Below.refl _ _ | with_reducible assumption | with_reducible refine Below.drew ?_ | with_reducible refine Below.alloc ?_ (by first | omega | (simp;done) | (simp;omega)) _)
 have HO:Hid ((w.alloc (.cells ((sttZ 0).arr adZ) 34)).heap[w.heap.size]?=some (.cells ((sttZ 0).arr adZ) 34 (0,0))):=hid (MapKept.heap_alloc w _).1
 have hsz:(w.alloc (.cells ((sttZ 0).arr adZ) 34)).heap.size=w.heap.size+1:=by simp
 have HB0:=hid hb0
 have HSz:=hid hsz
 clear hb0 hsz
 go_enter Tryz.func23,Tryz.ntmps23
 go_upto_region 1 with fail
 change Code.wp _ _ _ _ (w.alloc (.cells ((sttZ 0).arr adZ) 34))
 generalize w.alloc (.cells ((sttZ 0).arr adZ) 34)=w0 at *
 obtain ⟨b0,hb0⟩:∃ x,x=w.heap.size:=⟨_,rfl⟩
 rw [← hb0] at HO ⊢
 have Hb0:=hid hb0
 clear hb0
 have h1:=RdL.blockW layE3 w0 [⟨9,5,true⟩] #[.int .i64 9,.int .i64 5,.bool true] 99 rfl w0.heap.size rfl
 have hw1:Below w0.heap.size w0 (w0.alloc (.cells #[.int .i64 9,.int .i64 5,.bool true] 99)):=by repeat (first | with_reducible exact Below.refl _ _ | with_reducible assumption | with_reducible refine Below.drew ?_ | with_reducible refine Below.alloc ?_ (by first | omega | (simp;done) | (simp;omega)) _)
 have h2:=RdL.blockW layD4 (w0.alloc (.cells #[.int .i64 9,.int .i64 5,.bool true] 99)) [⟨2,0,3,-1⟩] #[.int .i64 2,.int .i64 0,.int .i64 3,.int .i64 (-1)] 103 rfl (w0.heap.size+1) (by simp)
 have hw2:Below (w0.alloc (.cells #[.int .i64 9,.int .i64 5,.bool true] 99)).heap.size (w0.alloc (.cells #[.int .i64 9,.int .i64 5,.bool true] 99)) ((w0.alloc (.cells #[.int .i64 9,.int .i64 5,.bool true] 99)).alloc (.cells #[.int .i64 2,.int .i64 0,.int .i64 3,.int .i64 (-1)] 103)):=by repeat (first | with_reducible exact Below.refl _ _ | with_reducible assumption | with_reducible refine Below.drew ?_ | with_reducible refine Below.alloc ?_ (by first | omega | (simp;done) | (simp;omega)) _)
 have h1':=h1.now hw2
 have HB2:Hid (Below w0.heap.size w0 ((w0.alloc (.cells #[.int .i64 9,.int .i64 5,.bool true] 99)).alloc (.cells #[.int .i64 2,.int .i64 0,.int .i64 3,.int .i64 (-1)] 103))):=hid (hw1.trans (hw2.mono hw1.size))
 have HR1:=hid h1'
 have HR2:=hid h2
 have HTh:Hid (World.there ((w0.alloc (.cells #[.int .i64 9,.int .i64 5,.bool true] 99)).alloc (.cells #[.int .i64 2,.int .i64 0,.int .i64 3,.int .i64 (-1)] 103)) b0 0 13):=hid (there_of_box ((HB2.out.block b0 (by have:=HSz.out;have:=Hb0.out;omega)).trans HO.out))
 have HNn:Hid (w0.heap.size=b0+1):=hid (by have:=HSz.out;have:=Hb0.out;omega)
 clear h1 h1' h2 hw1 hw2
 go_wp2_with (first
  | ((with_reducible show wpList _ _ _ (Oper.mk _ (Op.store 34 (.tmp 0) _) _ _ _ _::_) _ _);refine wpList_store_box rfl 34 _ _ rfl b0 (exS.arr ⟨(none,0),(none,0),(none,0),(none,0),(none,0),(none,0),(none,0),(some ⟨w0.heap.size,0,none⟩,1),(some ⟨w0.heap.size+1,0,none⟩,1),(none,0),(none,0),(none,0)⟩) rfl rfl HTh.out (by kernel_rfl) (by simp [Value.oneCell']) ?_;intro wS hrS htS hgS;have HRS:=hid hrS;have HGS:=hid hgS;clear hrS htS hgS)
  | fail)
 refine ret_box 0 34 rfl b0 _ _ rfl HRS.out Tryz.underlying34 rfl (by kernel_rfl) rfl ?_
 have hB:=(HB0.out.trans (HB2.out.mono HB0.out.size)).grown HGS.out (by have:=HB0.out.size;have:=HB2.out.size;omega) (fun k hk=>by injection hk with hk;have:=Hb0.out;omega)
 have hT:Turn (One b0) _ wS:=Turn.grown HGS.out (fun k hk=>(Option.some.inj hk).symm)
 refine ⟨b0,by rw [HNn.out];rfl,exOk (n:=b0) wS ?_ ?_,hB⟩
 ·have h:=HR1.out
  rw [HNn.out] at h
  exact h.turn (fun i hi hl=>hT.block i hl (by have:i=b0+1:=(Option.some.inj hi).symm;unfold One;omega)) hT.size
 ·have h:=HR2.out
  rw [HNn.out] at h
  exact h.turn (fun i hi hl=>hT.block i hl (by have:i=b0+1+1:=(Option.some.inj hi).symm;unfold One;omega)) hT.size
theorem exRight:stateB exS=true:=by
 simp [stateB,exS,evsL,openC,openGo,carriedB,rightB,rightGo,notedB,holdsB,hoOk,idD4,askedB,badB,adjB,debtsB,toB]
theorem exText:bs (textP exS.pl)=⟨#[55,59,48,59,48,59,48,59,48,59,48,59,48,59,48,59,49,59,57,59,53,59,49,59,49,59,50,59,48,59,51,59,45,49,59,48,59,48,59,48,59]⟩:=by
 have h:stateP exS.pl=true:=by rw [← stateB_pl];exact exRight
 unfold textP
 rw [if_pos h]
 simp [bodyP,partsP,Stt.pl,exS,evsL,lstE,numsL,encE3,encH,encN,encI,Lib.itoa,Lib.decDigits,bitI,bs]
theorem zRight:stateB (sttZ 0)=true:=by
 simp [stateB,sttZ,evsL,openC,openGo,carriedB,rightB,rightGo,notedB,holdsB,askedB,badB,adjB,debtsB,toB]
theorem zText:bs (textP (sttZ 0).pl)=⟨#[48,59,48,59,48,59,48,59,48,59,48,59,48,59,48,59,48,59,48,59,48,59,48,59,48,59]⟩:=by
 have h:stateP (sttZ 0).pl=true:=by rw [← stateB_pl];exact zRight
 unfold textP
 rw [if_pos h]
 simp [bodyP,partsP,Stt.pl,sttZ,evsL,lstE,encN,encI,Lib.itoa,Lib.decDigits,bs]
theorem mText:bs (textP (sttZ (-1)).pl)=⟨#[]⟩:=by
 have h:stateP (sttZ (-1)).pl=false:=by
  rw [← stateB_pl]
  simp [stateB,sttZ,evsL,openC,openGo,toB]
 unfold textP
 rw [if_neg (by rw [h];decide)]
 rfl
theorem exNums:NumsP exS.pl:=by
 refine ⟨?_,?_,?_,?_,?_,?_,?_,?_,?_,?_,?_,?_,?_,?_⟩ <;> simp [exS,Stt.pl,evsL]
theorem zNums (n:Int):NumsP (sttZ n).pl:=by
 refine ⟨?_,?_,?_,?_,?_,?_,?_,?_,?_,?_,?_,?_,?_,?_⟩ <;> simp [sttZ,Stt.pl,evsL]
theorem zOk (w:World) (n:Int):StOk w w.heap.size (sttZ n) adZ:=(RdSt.zero w 0 n).ok
theorem exCap:CapS exS:=by
 refine ⟨?_,?_,?_,?_,?_,?_,?_,?_,?_,?_,?_,?_,?_,?_⟩ <;> simp [exS]
theorem exRead:readP [55,59,48,59,48,59,48,59,48,59,48,59,48,59,48,59,49,59,57,59,53,59,49,59,49,59,50,59,48,59,51,59,45,49,59,48,59,48,59,48,59]=(exS.pl,0):=by
 have h:stateP exS.pl=true:=by rw [← stateB_pl];exact exRight
 have h1:=readP_back h exNums
 have h2:textP exS.pl=[55,59,48,59,48,59,48,59,48,59,48,59,48,59,48,59,49,59,57,59,53,59,49,59,49,59,50,59,48,59,51,59,45,49,59,48,59,48,59,48,59]:=bs_inj (exText.trans rfl)
 rw [h2] at h1
 exact h1
section
variable {P:Program} {ops:Array Oper} {Q:Exit→Act→World→Prop}
theorem wp_region_belowS {id:Nat} {a:Act} {w:World} (l:List (Nat × (Stt × StAd→Value) × (Stt × StAd→World→Prop))) (hm:P.follows .mixedOrders=true) (hok:detOk ops=true)
  (hl:Lasts (fun w'=>Below w.heap.size w w') (fun wa wb=>Below wa.heap.size wa wb) l)
  (h:DetE P ops (fun w'=>Below w.heap.size w w') (fun wa wb=>Below wa.heap.size wa wb) (effs l) (Q .normal) ops.toList 0 [] a):(Code.region id ops true).wp P Q a w :=
 @wp_region_eff _ _ _ _ _ _ _ _ _ _ ⟨(sttZ 0,adZ)⟩ hm hok (Below.refl _ _).drew (Lasts.all l hl) h
theorem DetE.loadS {G:Type} {S:World→Prop} {T:World→World→Prop} {Fs:Nat→Option ((G→Value) × (G→World→Prop))} {Z:Act→World→Prop} {o:Oper} {r:List Oper} {i:Nat} {Γ:List (Nat × (World→Prop))} {a:Act} (hF:Fs i=none) (hw:Region.wanted o (yielded ops a.tmps)=true)
  (ty:TypeId) (x:Operand) (ho:o.op=.load ty x) (b off:Nat) (hx:a.eval x=.pointer (some ⟨b,off,none⟩)) (cs:List Value) (d:TypeDesc) (hS:∀ w,S w→w.rangeAt b off cs)
  (hu:P.underlying ty=some d) (hd:d.isRow=true) (hi:(P.info? ty).map (·.size)=some cs.length) (h:DetE P ops S T Fs Z r (i+1) Γ (a.put o.dst (.agg cs.toArray))):DetE P ops S T Fs Z (o::r) i Γ a :=
 DetE.read hF hw (fun w hs _=>by
  unfold execOp
  simp only [ho,hx,Instr.loadAt,Instr.sureAddr,Sem.run_bind,Sem.run_pure,Result.andThen_ok,run_loadVar_mid w b off ty cs d (hS w hs) hu hd hi]) h
end
theorem text_c {B:Nat} (s:Stt) (a:StAd) (l:ByteArray) (w:World) (hV:Vs B w) (h:StOk w w.heap.size s a) (hp:∀ x∈s.pairs.map prD,x.wf) (hN:NumsP s.pl) (hl:bs (textP s.pl)=l) :
  Calls Tryz.prog 15 #[s.v a] w fun e w'=>e=.returned (.string l)∧Below w.heap.size w w':=by
 subst hl
 exact stText_any s a w hV h hp hN
theorem rsame_c (s t:Stt) (a c:StAd) (w:World) (hs:StOk w w.heap.size s a) (ht:StOk w w.heap.size t c) (he:s.pl=t.pl) :
  Calls Tryz.prog 12 #[s.v a,t.v c] w fun e w'=>e=.returned (.bool true)∧Below w.heap.size w w' :=
 (rsSame_any s t a c w hs ht).mono fun e w' ⟨v,h1,h2,h3⟩=>⟨by rw [h1,h2.2 he],h3⟩
theorem ssame_c (s t:Stt) (a c:StAd) (w:World) (hs:StOk w w.heap.size s a) (ht:StOk w w.heap.size t c) (he:s.pl=t.pl) :
  Calls Tryz.prog 17 #[s.v a,t.v c] w fun e w'=>e=.returned (.bool true)∧Below w.heap.size w w' :=
 (stSame_any s t a c w hs ht).mono fun e w' ⟨v,h1,h2,h3⟩=>⟨by rw [h1,h2.2 he],h3⟩
theorem right_c (s:Stt) (a:StAd) (w:World) (h:StOk w w.heap.size s a) (hp:s.pairs.length≤1000000) (hpw:∀ x∈s.pairs.map prD,x.wf) (hr:stateB s=true) :
  Calls Tryz.prog 13 #[s.v a] w fun e w'=>e=.returned (.bool true)∧Below w.heap.size w w' :=
 (stRight_any s a w h hp hpw).mono fun e w' ⟨h1,h2⟩=>⟨by rw [h1,hr],h2⟩
theorem small46_any {B:Nat} (w:World) (hV:Vs B w):Calls Tryz.prog 8 #[] w fun e w'=>e=.returned (.bool true)∧Below w.heap.size w w':=by
 have HV:=hid hV
 clear hV
 go_enter Tryz.func8,Tryz.ntmps8
 go_wp2_with fail
 refine (stRead_any [55,59,48,59,48,59,48,59,48,59,48,59,48,59,48,59,49,59,57,59,53,59,49,59,49,59,50,59,48,59,51,59,45,49,59,48,59,48,59,48,59] w HV.out (by simp)).mono ?_
 rintro en w1 ⟨s,a,rfl,hpl,hrd,hb1⟩
 have hpl2:s.pl=exS.pl:=by rw [hpl,exRead]
 have HPl:=hid hpl2
 have HR:=hid hrd.ok
 have HB:=hid hb1
 have HV1:=hid (HV.out.now hb1)
 have hrs:(readP [55,59,48,59,48,59,48,59,48,59,48,59,48,59,48,59,49,59,57,59,53,59,49,59,49,59,50,59,48,59,51,59,45,49,59,48,59,48,59,48,59]).2=0:=by rw [exRead]
 clear hpl hpl2 hrd hb1
 rw [hrs]
 clear hrs
 go_upto_region 3 with fail
 change Code.wp _ _ _ _ (w1.alloc (.cells (s.arr a) 34))
 have hb2:Below w1.heap.size w1 (w1.alloc (.cells (s.arr a) 34)):=by repeat (first | with_reducible exact Below.refl _ _ | with_reducible assumption | with_reducible refine Below.drew ?_ | with_reducible refine Below.alloc ?_ (by first | omega | (simp;done) | (simp;omega)) _)
 have hx2:StBox w1.heap.size s a (w1.alloc (.cells (s.arr a) 34)):=(MapKept.heap_alloc w1 _).1
 have HB:=hid (HB.out.trans (hb2.mono HB.out.size))
 have HR:=hid (HR.out.now hb2)
 have HV1:=hid (HV1.out.now hb2)
 have HX:=hid hx2
 clear hb2 hx2
 generalize w1.alloc (.cells (s.arr a) 34)=w2 at *
 obtain ⟨b2,hb2⟩:∃ x,x=w1.heap.size:=⟨_,rfl⟩
 rw [← hb2] at HX ⊢
 clear hb2
 go_cut [4] (fun v wx=>v=.bool true∧Below w2.heap.size w2 wx)
 case first =>
  refine wp_region_belowS [(1,fun _=>.string ⟨#[48,59,48,59,48,59,48,59,48,59,48,59,48,59,48,59,48,59,48,59,48,59,48,59,48,59]⟩,fun _ _=>True),(4,fun g=>exS.v g.2,fun g w'=>StOk w' w'.heap.size exS g.2),(5,fun _=>.string ⟨#[55,59,48,59,48,59,48,59,48,59,48,59,48,59,48,59,49,59,57,59,53,59,49,59,49,59,50,59,48,59,51,59,45,49,59,48,59,48,59,48,59]⟩,fun _ _=>True),(15,fun g=>exS.v g.2,fun g w'=>StOk w' w'.heap.size exS g.2),(16,fun _=>.bool true,fun _ _=>True)] (by kernel_rfl) (by kernel_rfl) (by repeat (first | exact trivial | refine ⟨fun g wa wb hs hs' ht h=>by first | exact trivial | exact ⟨h.1,h.2.now ht⟩ | exact h.now ht | exact h,?_⟩)) ?_
  rw [List.toList_toArray]
  repeat (first
   | (refine DetE.skip (by rfl) ?_;simp only [Act.put,sA,sB,sC])
   | (refine DetE.read (v:=?_) (by rfl) (by rfl) ?_ ?_;rotate_left;(· (intro wq hSq hkq;skip;go_simp;try with_reducible rfl));simp only [Act.put,sA,sB,sC])
   | fail)
  refine DetE.eff _ _ (by rfl) (by rfl) (fun wq hSq hkq K hK=>?_) (fun g1=>?_)
  ·go_simp
   refine (text_c (sttZ 0) adZ _ wq (HV1.out.now hSq) (zOk wq 0) (fun x hx=>(nomatch hx)) (zNums 0) zText).mono ?_
   rintro e4 w4 ⟨rfl,hb4⟩
   go_wp2_with fail
   exact hK.out ((sttZ 0,adZ)) _ (hSq.trans (hb4.mono hSq.size)) hb4 (trivial) _ rfl
  simp only [Act.put,sA,sB,sC]
  repeat (first
   | (refine DetE.skip (by rfl) ?_;simp only [Act.put,sA,sB,sC])
   | (refine DetE.read (v:=?_) (by rfl) (by rfl) ?_ ?_;rotate_left;(· (intro wq hSq hkq;skip;go_simp;try with_reducible rfl));simp only [Act.put,sA,sB,sC])
   | fail)
  refine DetE.eff _ _ (by rfl) (by rfl) (fun wq hSq hkq K hK=>?_) (fun g4=>?_)
  ·go_simp
   refine (example_any wq).mono ?_
   rintro e4 w4 ⟨n4,rfl,hr4,hb4⟩
   go_wp2_with fail
   exact hK.out ((exS,exA n4)) _ (hSq.trans (hb4.mono hSq.size)) hb4 (hr4) _ rfl
  simp only [Act.put,sA,sB,sC]
  refine DetE.eff _ _ (by rfl) (by rfl) (fun wq hSq hkq K hK=>?_) (fun g5=>?_)
  ·go_simp
   refine (text_c exS g4.2 _ wq (HV1.out.now hSq) (hkq 4 _ rfl (by kernel_rfl)) (fun x hx=>(nomatch hx)) exNums exText).mono ?_
   rintro e4 w4 ⟨rfl,hb4⟩
   go_wp2_with fail
   exact hK.out ((sttZ 0,adZ)) _ (hSq.trans (hb4.mono hSq.size)) hb4 (trivial) _ rfl
  simp only [Act.put,sA,sB,sC]
  repeat (first
   | (refine DetE.skip (by rfl) ?_;simp only [Act.put,sA,sB,sC])
   | (refine DetE.read (v:=?_) (by rfl) (by rfl) ?_ ?_;rotate_left;(· (intro wq hSq hkq;skip;go_simp;try with_reducible rfl));simp only [Act.put,sA,sB,sC])
   | fail)
  refine DetE.loadS (by rfl) (by rfl) 34 _ rfl b2 0 rfl (s.arr a).toList _ (fun wq hSq=>range_block (HX.out.now hSq) rfl) Tryz.underlying34 rfl (by kernel_rfl) ?_
  simp only [Act.put,sA,sB,sC]
  refine DetE.eff _ _ (by rfl) (by rfl) (fun wq hSq hkq K hK=>?_) (fun g15=>?_)
  ·go_simp
   refine (example_any wq).mono ?_
   rintro e4 w4 ⟨n4,rfl,hr4,hb4⟩
   go_wp2_with fail
   exact hK.out ((exS,exA n4)) _ (hSq.trans (hb4.mono hSq.size)) hb4 (hr4) _ rfl
  simp only [Act.put,sA,sB,sC]
  refine DetE.eff _ _ (by rfl) (by rfl) (fun wq hSq hkq K hK=>?_) (fun g16=>?_)
  ·go_simp
   refine (rsame_c s exS a g15.2 wq (HR.out.now hSq) (hkq 15 _ rfl (by kernel_rfl)) HPl.out).mono ?_
   rintro e4 w4 ⟨rfl,hb4⟩
   go_wp2_with fail
   exact hK.out ((sttZ 0,adZ)) _ (hSq.trans (hb4.mono hSq.size)) hb4 (trivial) _ rfl
  simp only [Act.put,sA,sB,sC]
  repeat (first
   | (refine DetE.skip (by rfl) ?_;simp only [Act.put,sA,sB,sC])
   | (refine DetE.read (v:=?_) (by rfl) (by rfl) ?_ ?_;rotate_left;(· (intro wq hSq hkq;skip;go_simp;try with_reducible rfl));simp only [Act.put,sA,sB,sC])
   | fail)
  refine DetE.done fun wz hz hkz=>?_
  go_wp2
  go_meet
  exact ⟨rfl,hz⟩
 obtain ⟨rfl,hbc⟩:=hcut
 have HB:=hid (HB.out.trans (hbc.mono HB.out.size))
 have HR:=hid (HR.out.now hbc)
 have HV1:=hid (HV1.out.now hbc)
 have HX:=hid (HX.out.now hbc)
 have HBr:Hid (stateB s=true):=hid (by rw [stateB_pl,HPl.out,← stateB_pl];exact exRight)
 have HPp:Hid (s.pairs=[]):=hid (congrArg StP.pairs HPl.out)
 clear hbc
 go_wp2_with fail
 refine wp_region_belowS [(3,fun _=>.string ⟨#[]⟩,fun _ _=>True),(8,fun g=>exS.v g.2,fun g w'=>StOk w' w'.heap.size exS g.2),(9,fun _=>.bool true,fun _ _=>True),(13,fun _=>.bool true,fun _ _=>True),(16,fun g=>exS.v g.2,fun g w'=>StOk w' w'.heap.size exS g.2),(17,fun g=>g.1.v g.2,fun g w'=>g.1.pl=exS.pl∧StOk w' w'.heap.size g.1 g.2),(19,fun _=>.bool true,fun _ _=>True)] (by kernel_rfl) (by kernel_rfl) (by repeat (first | exact trivial | refine ⟨fun g wa wb hs hs' ht h=>by first | exact trivial | exact ⟨h.1,h.2.now ht⟩ | exact h.now ht | exact h,?_⟩)) ?_
 rw [List.toList_toArray]
 repeat (first
  | (refine DetE.skip (by rfl) ?_;simp only [Act.put,sA,sB,sC])
  | (refine DetE.read (v:=?_) (by rfl) (by rfl) ?_ ?_;rotate_left;(· (intro wq hSq hkq;skip;go_simp;try with_reducible rfl));simp only [Act.put,sA,sB,sC])
  | fail)
 refine DetE.eff _ _ (by rfl) (by rfl) (fun wq hSq hkq K hK=>?_) (fun g1=>?_)
 ·go_simp
  refine (text_c (sttZ (-1)) adZ _ wq (HV1.out.now hSq) (zOk wq (-1)) (fun x hx=>(nomatch hx)) (zNums (-1)) mText).mono ?_
  rintro e4 w4 ⟨rfl,hb4⟩
  go_wp2_with fail
  exact hK.out ((sttZ 0,adZ)) _ (hSq.trans (hb4.mono hSq.size)) hb4 (trivial) _ rfl
 simp only [Act.put,sA,sB,sC]
 repeat (first
  | (refine DetE.skip (by rfl) ?_;simp only [Act.put,sA,sB,sC])
  | (refine DetE.read (v:=?_) (by rfl) (by rfl) ?_ ?_;rotate_left;(· (intro wq hSq hkq;skip;go_simp;try with_reducible rfl));simp only [Act.put,sA,sB,sC])
  | fail)
 refine DetE.loadS (by rfl) (by rfl) 34 _ rfl b2 0 rfl (s.arr a).toList _ (fun wq hSq=>range_block (HX.out.now hSq) rfl) Tryz.underlying34 rfl (by kernel_rfl) ?_
 simp only [Act.put,sA,sB,sC]
 refine DetE.eff _ _ (by rfl) (by rfl) (fun wq hSq hkq K hK=>?_) (fun g8=>?_)
 ·go_simp
  refine (example_any wq).mono ?_
  rintro e4 w4 ⟨n4,rfl,hr4,hb4⟩
  go_wp2_with fail
  exact hK.out ((exS,exA n4)) _ (hSq.trans (hb4.mono hSq.size)) hb4 (hr4) _ rfl
 simp only [Act.put,sA,sB,sC]
 refine DetE.eff _ _ (by rfl) (by rfl) (fun wq hSq hkq K hK=>?_) (fun g9=>?_)
 ·go_simp
  refine (ssame_c s exS a g8.2 wq (HR.out.now hSq) (hkq 8 _ rfl (by kernel_rfl)) HPl.out).mono ?_
  rintro e4 w4 ⟨rfl,hb4⟩
  go_wp2_with fail
  exact hK.out ((sttZ 0,adZ)) _ (hSq.trans (hb4.mono hSq.size)) hb4 (trivial) _ rfl
 simp only [Act.put,sA,sB,sC]
 repeat (first
  | (refine DetE.skip (by rfl) ?_;simp only [Act.put,sA,sB,sC])
  | (refine DetE.read (v:=?_) (by rfl) (by rfl) ?_ ?_;rotate_left;(· (intro wq hSq hkq;skip;go_simp;try with_reducible rfl));simp only [Act.put,sA,sB,sC])
  | fail)
 refine DetE.loadS (by rfl) (by rfl) 34 _ rfl b2 0 rfl (s.arr a).toList _ (fun wq hSq=>range_block (HX.out.now hSq) rfl) Tryz.underlying34 rfl (by kernel_rfl) ?_
 simp only [Act.put,sA,sB,sC]
 refine DetE.eff _ _ (by rfl) (by rfl) (fun wq hSq hkq K hK=>?_) (fun g13=>?_)
 ·go_simp
  refine (right_c s a wq (HR.out.now hSq) (by rw [HPp.out];simp) (by rw [HPp.out];intro x hx;simp at hx) HBr.out).mono ?_
  rintro e4 w4 ⟨rfl,hb4⟩
  go_wp2_with fail
  exact hK.out ((sttZ 0,adZ)) _ (hSq.trans (hb4.mono hSq.size)) hb4 (trivial) _ rfl
 simp only [Act.put,sA,sB,sC]
 repeat (first
  | (refine DetE.skip (by rfl) ?_;simp only [Act.put,sA,sB,sC])
  | (refine DetE.read (v:=?_) (by rfl) (by rfl) ?_ ?_;rotate_left;(· (intro wq hSq hkq;skip;go_simp;try with_reducible rfl));simp only [Act.put,sA,sB,sC])
  | fail)
 refine DetE.eff _ _ (by rfl) (by rfl) (fun wq hSq hkq K hK=>?_) (fun g16=>?_)
 ·go_simp
  refine (example_any wq).mono ?_
  rintro e4 w4 ⟨n4,rfl,hr4,hb4⟩
  go_wp2_with fail
  exact hK.out ((exS,exA n4)) _ (hSq.trans (hb4.mono hSq.size)) hb4 (hr4) _ rfl
 simp only [Act.put,sA,sB,sC]
 refine DetE.eff _ _ (by rfl) (by rfl) (fun wq hSq hkq K hK=>?_) (fun g17=>?_)
 ·go_simp
  refine (stCopy_any exS g16.2 wq (hkq 16 _ rfl (by kernel_rfl)) exCap).mono ?_
  rintro e4 w4 ⟨t4,c4,lo4,rfl,hp4,_,hr4,_,_,hb4⟩
  go_wp2_with fail
  exact hK.out ((t4,c4)) _ (hSq.trans (hb4.mono hSq.size)) hb4 (⟨hp4,hr4.ok⟩) _ rfl
 simp only [Act.put,sA,sB,sC]
 refine DetE.loadS (by rfl) (by rfl) 34 _ rfl b2 0 rfl (s.arr a).toList _ (fun wq hSq=>range_block (HX.out.now hSq) rfl) Tryz.underlying34 rfl (by kernel_rfl) ?_
 simp only [Act.put,sA,sB,sC]
 refine DetE.eff _ _ (by rfl) (by rfl) (fun wq hSq hkq K hK=>?_) (fun g19=>?_)
 ·go_simp
  refine (rsame_c g17.1 s g17.2 a wq (hkq 17 _ rfl (by kernel_rfl)).2 (HR.out.now hSq) ((hkq 17 _ rfl (by kernel_rfl)).1.trans HPl.out.symm)).mono ?_
  rintro e4 w4 ⟨rfl,hb4⟩
  go_wp2_with fail
  exact hK.out ((sttZ 0,adZ)) _ (hSq.trans (hb4.mono hSq.size)) hb4 (trivial) _ rfl
 simp only [Act.put,sA,sB,sC]
 repeat (first
  | (refine DetE.skip (by rfl) ?_;simp only [Act.put,sA,sB,sC])
  | (refine DetE.read (v:=?_) (by rfl) (by rfl) ?_ ?_;rotate_left;(· (intro wq hSq hkq;skip;go_simp;try with_reducible rfl));simp only [Act.put,sA,sB,sC])
  | fail)
 refine DetE.done fun wz hz hkz=>?_
 go_wp2
 go_ret
 exact ⟨rfl,HB.out.trans (hz.mono HB.out.size)⟩
end Go.Proofs.YthlpehhlhebhbaaGreatDoor
