/- Contracts and plain laws, joined: BfA, BfB. -/
import Derived.Test.YtlnnjdibkbabiaaGreatDoorQbj
import Derived.Test.YtlnnjdibkbabiaaGreatDoorQbq
import Derived.Test.YtlnnjdibkbabiaaGreatDoorQac
import Derived.Test.YtlnnjdibkbabiaaGreatDoorQbx
import Derived.Test.YtlnnjdibkbabiaaGreatDoorQam
import Derived.Test.YtlnnjdibkbabiaaGreatDoorQbd
import Derived.Test.YtlnnjdibkbabiaaGreatDoorQbn
import Derived.Test.YtlnnjdibkbabiaaGreatDoorQbt
import Derived.Test.YtlnnjdibkbabiaaGreatDoorQat
import Derived.Test.YtlnnjdibkbabiaaGreatDoorQay
/- Contracts of lingualaw23: plain,local (BackForth). -/
set_option linter.unusedSimpArgs false
set_option linter.unusedVariables false
namespace Go.Proofs.YtlnnjdibkbabiaaGreatDoor
set_option maxHeartbeats 8000000
open _root_.Go.Lib (hid)
open Go.RowKit
set_option maxRecDepth 100000
theorem bfLocal_any (xs:List Pair) (A:Option Addr) (c:Nat) (net id:Int) (w:World) (hr:RdP w w.heap.size A xs) (hm:xs.length≤9223372036854775807) :
  Calls Tryz.prog 16 #[.slice A xs.length c,.int .i64 net,.int .i64 id] w fun e w'=>e=.returned (.int .i64 (numB xs net id))∧Below w.heap.size w w':=by
 have HC:=hid (plocal_any xs A c net id 0 w hr hm)
 have HN:Hid (numB xs net id=if (findF (fNEP net id 0) xs).isSome=true then locOf (findF (fNEP net id 0) xs) else -1):=hid rfl
 clear hr
 generalize (findF (fNEP net id 0) xs).isSome=q at *
 generalize locOf (findF (fNEP net id 0) xs)=lo at *
 go_enter Tryz.func16,Tryz.ntmps16
 go_wp2_with fail
 refine HC.out.mono ?_
 rintro e w1 ⟨rfl,hb1⟩
 cases q
 ·go_wp2_with fail
  go_ret
  exact ⟨by rw [HN.out];rfl,hb1⟩
 ·go_wp2_with fail
  go_ret
  exact ⟨by rw [HN.out];rfl,hb1⟩
theorem bfPlain_any (W:List (Int × Int)) (wA:Option Addr) (wc:Nat) (e:EvL) (xs:List ItL) (A:Option Addr) (c:Nat) (w:World) (hw:RdL 2 wayC w w.heap.size wA W) (h9:W.length=9) (hr:RdL 11 ItL.cs w w.heap.size A xs) (hl:xs.length≤1000) :
  Calls Tryz.prog 15 #[.slice wA W.length wc,e.v,.slice A xs.length c] w fun en w'=>en=.returned (.bool (plainB W e.ev (itsL xs)))∧Below w.heap.size w w':=by
 have hb0:Below w.heap.size w (w.alloc (.cells (e.ev.cs e.cA e.cc e.fA e.fc) 40)):=(Below.refl _ _).alloc (Nat.le_refl _) _
 have HX0:Hid ((w.alloc (.cells (e.ev.cs e.cA e.cc e.fA e.fc) 40)).heap[w.heap.size]?=some (.cells (e.ev.cs e.cA e.cc e.fA e.fc) 40 (0,0))):=hid (MapKept.heap_alloc w _).1
 have HB:=hid hb0
 have hwl:((W.length:Int)==9)=true:=by simp [h9]
 have hwn:((W.length:Int) != 9)=false:=by simp [h9]
 have HR:=hid (hr.now hb0)
 have HW:=hid (hw.now hb0)
 have H9:=hid h9
 clear hw hr hb0 h9
 by_cases h1:xs.length=1
 rotate_left
 ·have hn:((xs.length:Int) != 1)=true:=by rw [bne_iff_ne];omega
  have HP:Hid (plainB W e.ev (itsL xs)=false):=hid (by
   unfold plainB
   rw [decide_eq_false (by simpa using h1)]
   rfl)
  clear h1
  go_enter Tryz.func15,Tryz.ntmps15
  go_wp2_with fail
  go_ret
  exact ⟨by rw [HP.out];rfl,HB.out⟩
 have hn:((xs.length:Int) != 1)=false:=by simp [h1]
 obtain ⟨x,hx⟩:=List.length_eq_one_iff.1 h1
 subst hx
 have hpl:plainB W e.ev (itsL [x])=plainX W e.ev x.it:=by
  unfold plainB
  simp
 have HPl:=hid hpl
 obtain ⟨g,off,rfl,hg,hcc⟩:=HR.out.at_ (k:=0) (by simp)
 have HRg:Hid ((w.alloc (.cells (e.ev.cs e.cA e.cc e.fA e.fc) 40)).rangeAt g off (x.it.cs x.fA x.fc).toList):=hid (fun j v hj=>by simpa using hcc j v hj)
 obtain ⟨wg,wo,rfl,hwg,hwc⟩:=HW.out.base (by intro h;have:=H9.out;rw [h] at this;cases this)
 have HWc:Hid (∀ wq,Below (w.alloc (.cells (e.ev.cs e.cA e.cc e.fA e.fc) 40)).heap.size (w.alloc (.cells (e.ev.cs e.cA e.cc e.fA e.fc) 40)) wq→∀ k:Nat,k<9→wq.cell? ⟨wg,wo+k * 2,none⟩=some (.int .i64 (W.getD k (0,0)).1)):=hid (fun wq hq k hk=>by
  have hkl:k<W.length:=by have:=H9.out;omega
  have h2:=hwc k W[k] (List.getElem?_eq_getElem hkl) 0 (.int .i64 W[k].1) rfl
  have h3:=(hq.cell (p:=⟨wg,wo+k * 2+0,none⟩) hwg).trans h2
  have h4:W.getD k (0,0)=W[k]:=by rw [List.getD_eq_getElem?_getD,List.getElem?_eq_getElem hkl];rfl
  rw [h4]
  exact h3)
 have h9b:(9:Int)=(W.length:Int):=by have:=H9.out;omega
 clear hpl hcc hwc h1 HR HW
 have hw9:W.length=9:=H9.out
 have HWl:=hid hw9
 clear hw9 h9b
 go_enter Tryz.func15,Tryz.ntmps15
 go_upto_region 1 with fail
 change Code.wp _ _ _ _ (w.alloc (.cells (e.ev.cs e.cA e.cc e.fA e.fc) 40))
 obtain ⟨b,hb⟩:∃ y,y=w.heap.size:=⟨_,rfl⟩
 rw [← hb] at HX0 ⊢
 clear hb
 generalize w.alloc (.cells (e.ev.cs e.cA e.cc e.fA e.fc) 40)=w0 at *
 go_upto_region 4 with (first
  | ((with_reducible show wpList _ _ _ (Oper.mk _ (Op.load 46 _) _ _ _ _::_) _ _);refine wpList_load_g rfl 46 _ rfl g off rfl (x.it.cs x.fA x.fc).toList _ HRg.out Tryz.underlying46 rfl (by kernel_rfl) ?_)
  | fail)
 change Code.wp _ _ _ _ (w0.alloc (.cells (x.it.cs x.fA x.fc) 46))
 have hb1:Below w0.heap.size w0 (w0.alloc (.cells (x.it.cs x.fA x.fc) 46)):=(Below.refl _ _).alloc (Nat.le_refl _) _
 have hx1:(w0.alloc (.cells (x.it.cs x.fA x.fc) 46)).heap[w0.heap.size]?=some (.cells (x.it.cs x.fA x.fc) 46 (0,0)):=(MapKept.heap_alloc w0 _).1
 have HBr:=hid (HB.out.trans (hb1.mono HB.out.size))
 have HX1:=hid hx1
 have HXe:=hid ((hb1.block b (box_lt HX0.out)).trans HX0.out)
 have HWq:=hid (fun k hk=>HWc.out _ hb1 k hk)
 clear hb1 hx1 HRg HX0 HWc HB
 obtain ⟨xb,hxb⟩:∃ y,y=w0.heap.size:=⟨_,rfl⟩
 rw [← hxb] at HX1 ⊢
 clear hxb
 obtain ⟨wr,hwr⟩:∃ y,y=w0.alloc (.cells (x.it.cs x.fA x.fc) 46):=⟨_,rfl⟩
 rw [← hwr] at HBr HX1 HXe HWq ⊢
 clear hwr
 have v2:wr.cell? ⟨wg,wo+4,none⟩=_:=HWq.out 2 (by omega)
 have v3:wr.cell? ⟨wg,wo+6,none⟩=_:=HWq.out 3 (by omega)
 have v4:wr.cell? ⟨wg,wo+8,none⟩=_:=HWq.out 4 (by omega)
 have v5:wr.cell? ⟨wg,wo+10,none⟩=_:=HWq.out 5 (by omega)
 have v6:wr.cell? ⟨wg,wo+12,none⟩=_:=HWq.out 6 (by omega)
 have v7:wr.cell? ⟨wg,wo+14,none⟩=_:=HWq.out 7 (by omega)
 have e3:=box_cell HXe.out 3 (.int .i64 e.ev.kind) rfl
 have e5:=box_cell HXe.out 5 (.int .i64 e.ev.target) rfl
 have e6:=box_cell HXe.out 6 (.int .i64 e.ev.quote) rfl
 have e7:=box_cell HXe.out 7 (.int .i64 e.ev.who) rfl
 have e9:=box_cell HXe.out 9 (.string e.ev.text) rfl
 have e10:=box_cell HXe.out 10 (.slice e.fA e.ev.files.length e.fc) rfl
 have x6:=box_cell HX1.out 6 (.int .i64 x.it.quote) rfl
 have x9:=box_cell HX1.out 9 (.string (bs x.it.text)) rfl
 have x10:=box_cell HX1.out 10 (.slice x.fA x.it.files.length x.fc) rfl
 have HP:Hid (plainB W e.ev [x.it]=if e.ev.kind=0 then ((e.ev.target==-1) || ((W.getD 5 (0,0)).1==0)) && (((e.ev.quote==-1) || (((W.getD 6 (0,0)).1==0) && (x.it.quote==e.ev.quote))) && (((e.ev.who==-1) || ((W.getD 7 (0,0)).1==0)) && (((bs x.it.text).toList==e.ev.text.toList) && ((x.it.files.length:Int)==(e.ev.files.length:Int)))))
  else if e.ev.kind=1 then ((W.getD 2 (0,0)).1==0) && (((bs x.it.text).toList==e.ev.text.toList) && ((x.it.files.length:Int)==(e.ev.files.length:Int)))
  else if e.ev.kind=2 then ((W.getD 3 (0,0)).1==0) else ((W.getD 4 (0,0)).1==0)):=hid (by
  have hf:((x.it.files.length:Int)==(e.ev.files.length:Int))=decide (x.it.files.length=e.ev.files.length):=by
   rw [Bool.eq_iff_iff]
   simp
   omega
  have hq:plainB W e.ev [x.it]=plainX W e.ev x.it:=HPl.out
  rw [hq,hf,← str_eqB]
  rfl)
 clear HX1 HXe HWq HPl
 rw [HWl.out]
 generalize (W.getD 2 (0,0)).1=w2 at *
 generalize (W.getD 3 (0,0)).1=w3 at *
 generalize (W.getD 4 (0,0)).1=w4 at *
 generalize (W.getD 5 (0,0)).1=w5 at *
 generalize (W.getD 6 (0,0)).1=w6 at *
 generalize (W.getD 7 (0,0)).1=w7 at *
 generalize e.ev.kind=ek at *
 generalize e.ev.target=et at *
 generalize e.ev.quote=eq at *
 generalize e.ev.who=ew at *
 generalize e.ev.text=es at *
 generalize e.ev.files.length=ef at *
 generalize x.it.quote=xq at *
 generalize bs x.it.text=xs at *
 generalize x.it.files.length=xf at *
 by_cases k0:ek=0
 ·subst k0
  have HZ:=hid (HP.out.trans (if_pos rfl))
  clear HP
  obtain ⟨r5,hr5⟩:∃ z:Bool,z=((et==-1) || (w5==0)):=⟨_,rfl⟩
  obtain ⟨r6,hr6⟩:∃ z:Bool,z=((eq==-1) || ((w6==0) && (xq==eq))):=⟨_,rfl⟩
  obtain ⟨r7,hr7⟩:∃ z:Bool,z=((ew==-1) || (w7==0)):=⟨_,rfl⟩
  rw [← hr5,← hr6,← hr7] at HZ
  have H5:=hid hr5
  have H6:=hid hr6
  have H7:=hid hr7
  clear hr5 hr6 hr7
  go_upto_region 6 with fail
  go_cut [8] (fun v wx=>v=.bool r5∧wx=wr)
  case first=>as_aux_lemma =>
   cases q1:et==-1
   ·have HQ:Hid (r5=(w5==0)):=hid (by rw [H5.out,q1];rfl)
    go_wp2_with fail
    go_meet
    exact ⟨by rw [HQ.out],rfl⟩
   ·have HQ:Hid (r5=true):=hid (by rw [H5.out,q1];rfl)
    go_wp2_with fail
    go_meet
    exact ⟨by rw [HQ.out],rfl⟩
  case rest =>
   obtain ⟨rfl,rfl⟩:=hcut
   clear H5
   obtain ⟨wr,hwr⟩:∃ y,y=wc:=⟨_,rfl⟩
   subst hwr
   go_upto_region 7 with fail
   go_cut [9] (fun v wx=>v=.bool r6∧wx=wr)
   case first=>as_aux_lemma =>
    cases q1:eq==-1
    ·cases q2:w6==0
     ·have HQ:Hid (r6=false):=hid (by rw [H6.out,q1,q2];rfl)
      go_wp2_with fail
      go_meet
      exact ⟨by rw [HQ.out],rfl⟩
     ·have HQ:Hid (r6=(xq==eq)):=hid (by rw [H6.out,q1,q2];rfl)
      go_wp2_with fail
      go_meet
      exact ⟨by rw [HQ.out],rfl⟩
    ·have HQ:Hid (r6=true):=hid (by rw [H6.out,q1];rfl)
     go_wp2_with fail
     go_meet
     exact ⟨by rw [HQ.out],rfl⟩
   case rest =>
    obtain ⟨rfl,rfl⟩:=hcut
    clear H6
    obtain ⟨wr,hwr⟩:∃ y,y=wc:=⟨_,rfl⟩
    subst hwr
    go_upto_region 8 with fail
    go_cut [10] (fun v wx=>v=.bool r7∧wx=wr)
    case first=>as_aux_lemma =>
     cases q1:ew==-1
     ·have HQ:Hid (r7=(w7==0)):=hid (by rw [H7.out,q1];rfl)
      go_wp2_with fail
      go_meet
      exact ⟨by rw [HQ.out],rfl⟩
     ·have HQ:Hid (r7=true):=hid (by rw [H7.out,q1];rfl)
      go_wp2_with fail
      go_meet
      exact ⟨by rw [HQ.out],rfl⟩
    case rest =>
     obtain ⟨rfl,rfl⟩:=hcut
     clear H7
     cases r5
     ·skip
      go_wp2_with fail
      go_ret
      exact ⟨by show _=Ending.returned (Value.bool (plainB W e.ev [x.it]));rw [HZ.out];first | rfl | (simp only [Bool.and_true,Bool.true_and,Bool.false_and];done) | (simp [Bool.and_true];done) | (simp;done),HBr.out⟩
     cases r6
     ·skip
      go_wp2_with fail
      go_ret
      exact ⟨by show _=Ending.returned (Value.bool (plainB W e.ev [x.it]));rw [HZ.out];first | rfl | (simp only [Bool.and_true,Bool.true_and,Bool.false_and];done) | (simp [Bool.and_true];done) | (simp;done),HBr.out⟩
     cases r7
     ·skip
      go_wp2_with fail
      go_ret
      exact ⟨by show _=Ending.returned (Value.bool (plainB W e.ev [x.it]));rw [HZ.out];first | rfl | (simp only [Bool.and_true,Bool.true_and,Bool.false_and];done) | (simp [Bool.and_true];done) | (simp;done),HBr.out⟩
     cases qt:xs.toList==es.toList
     ·skip
      go_wp2_with fail
      go_ret
      exact ⟨by show _=Ending.returned (Value.bool (plainB W e.ev [x.it]));rw [HZ.out];first | rfl | (simp only [qt,Bool.true_and,Bool.false_and];done) | (simp [qt];done) | (simp;done),HBr.out⟩
     ·skip
      go_wp2_with fail
      go_ret
      exact ⟨by show _=Ending.returned (Value.bool (plainB W e.ev [x.it]));rw [HZ.out];first | rfl | (simp only [qt,Bool.true_and,Bool.false_and];done) | (simp [qt];done) | (simp;done),HBr.out⟩
 have HP:=hid (HP.out.trans (if_neg k0))
 have k0b:(ek==0)=false:=by simpa using k0
 clear k0
 by_cases k1:ek=1
 ·subst k1
  have HZ:=hid (HP.out.trans (if_pos rfl))
  clear HP
  cases q2:w2==0
  ·skip
   go_wp2_with fail
   go_ret
   exact ⟨by show _=Ending.returned (Value.bool (plainB W e.ev [x.it]));rw [HZ.out];first | rfl | (simp only [q2,Bool.true_and,Bool.false_and];done) | (simp [q2];done) | (simp;done),HBr.out⟩
  cases qt:xs.toList==es.toList
  ·skip
   go_wp2_with fail
   go_ret
   exact ⟨by show _=Ending.returned (Value.bool (plainB W e.ev [x.it]));rw [HZ.out];first | rfl | (simp only [q2,qt,Bool.true_and,Bool.false_and];done) | (simp [q2,qt];done) | (simp;done),HBr.out⟩
  ·skip
   go_wp2_with fail
   go_ret
   exact ⟨by show _=Ending.returned (Value.bool (plainB W e.ev [x.it]));rw [HZ.out];first | rfl | (simp only [q2,qt,Bool.true_and,Bool.false_and];done) | (simp [q2,qt];done) | (simp;done),HBr.out⟩
 have HP:=hid (HP.out.trans (if_neg k1))
 have k1b:(ek==1)=false:=by simpa using k1
 clear k1
 by_cases k2:ek=2
 ·subst k2
  have HZ:=hid (HP.out.trans (if_pos rfl))
  clear HP
  go_wp2_with fail
  go_ret
  exact ⟨by show _=Ending.returned (Value.bool (plainB W e.ev [x.it]));rw [HZ.out];first | rfl | (simp only [Bool.and_true,Bool.true_and,Bool.false_and];done) | (simp [Bool.and_true];done) | (simp;done),HBr.out⟩
 have HP:=hid (HP.out.trans (if_neg k2))
 have k2b:(ek==2)=false:=by simpa using k2
 clear k2
 have HZ:=HP
 go_wp2_with fail
 go_ret
 exact ⟨by show _=Ending.returned (Value.bool (plainB W e.ev [x.it]));rw [HZ.out];first | rfl | (simp only [Bool.and_true,Bool.true_and,Bool.false_and];done) | (simp [Bool.and_true];done) | (simp;done),HBr.out⟩
/- The walk of BackForth (layer 23). -/
theorem fewAll_len {E:List EvL} (h:fewAllB E 8=true):E.length≤8:=by
 unfold fewAllB at h
 simp only [Bool.and_eq_true,decide_eq_true_eq] at h
 omega
theorem bf_many {p:Prof} (hp:profCheck p=0) {E:List EvM} {nt:Int}:∀ n:Nat,n≤8→(bfPs p E nt n).length≤10000:=by
 have main:∀ n:Nat,(bfPs p E nt n).length≤n * 20:=by
  intro n
  induction n with
  | zero=>simp [bfPs]
  | succ n ih =>
   show (bfPs p E nt n++bfMore p E nt n).length≤_
   have h1:(bfMore p E nt n).length≤20:=by
    unfold bfMore
    split
    ·unfold bfNew
     rw [List.length_map,List.length_range]
     exact all_count hp
    ·simp
   rw [List.length_append]
   omega
 intro n hn
 have:=main n
 omega
theorem i64_of {n:Int} (h:InInt n):i64ok n:=by
 unfold i64ok
 simp [Lit.wf,IntKind.min,IntKind.max,IntKind.bits,IntKind.signed]
 unfold InInt at h
 omega
theorem bf_wf {E:List EvM} {nt:Int} (hn:0≤nt∧nt<12) {ps:List Pair} {k j n:Nat} (h:BfOk E nt ps k) (hk:k<n) (hn8:n≤8) (hj:j≤20):(∀ q∈ps++bfNew nt k j,q.wf)∧(j<20→(⟨nt,32 * (k:Int)+j,k,j⟩:Pair).wf):=by
 have one:∀ a b:Nat,a<100→b<100→(⟨nt,32 * (a:Int)+b,a,b⟩:Pair).wf:=fun a b ha hb=>⟨i64_of ⟨by show _≤nt;omega,by show nt≤_;omega⟩,i64_of ⟨by show _≤32 * (a:Int)+b;omega,by show 32 * (a:Int)+b≤_;omega⟩,i64_of ⟨by show _≤(a:Int);omega,by show (a:Int)≤_;omega⟩,i64_of ⟨by show _≤(b:Int);omega,by show (b:Int)≤_;omega⟩⟩
 refine ⟨fun q hq=>?_,fun hj2=>one k j (by omega) (by omega)⟩
 rcases List.mem_append.1 hq with hq | hq
 ·obtain ⟨a,b,h1,h2,rfl⟩:=h.at_ q hq
  exact one a b (by omega) (by omega)
 ·obtain ⟨b,h2,rfl⟩:=mem_new hq
  exact one k b (by omega) (by omega)
theorem wpList_valB {P:Program} {ops:Array Oper} {Q:Exit→Act→World→Prop} {a:Act} {w:World} {rest:List Oper} {o:Oper} {v:Value} (hg:Region.wanted o (yielded ops a.tmps)=true) (hrun:(execOp a.eval o).run P w=.ok (.value v) w) (h:wpList P ops Q rest (a.put o.dst v) w):wpList P ops Q (o::rest) a w :=
 BigFrame.wpList_want hg fun K hK=>by
  unfold Oper.wp
  rw [hrun]
  exact hK _ _ h
theorem run_rawB (ρ:Operand→Value) (o:Oper) (w:World) (a k g wh n:Int) (t:ByteArray) (fA:Option Addr) (fl fc:Nat)
  (ho:o.op=.build 48 #[(0,.tmp 100),(2,.tmp 102),(3,.tmp 104),(4,.const (.int .i64 (-1))),(5,.const (.int .i64 (-1))),(6,.tmp 106),(7,.tmp 108),(8,.tmp 110),(9,.tmp 112)])
  (hc:∀ v,ρ (.const v)=v) (h1:ρ (.tmp 100)=.int .i64 a) (h2:ρ (.tmp 102)=.int .i64 k) (h3:ρ (.tmp 104)=.int .i64 g) (h6:ρ (.tmp 106)=.int .i64 wh) (h7:ρ (.tmp 108)=.int .i64 n) (h8:ρ (.tmp 110)=.string t) (h9:ρ (.tmp 112)=.slice fA fl fc) :
  (execOp ρ o).run Tryz.prog w=.ok (.value (.agg #[.int .i64 a,.int .i64 0,.int .i64 k,.int .i64 g,.int .i64 (-1),.int .i64 (-1),.int .i64 wh,.int .i64 n,.string t,.slice fA fl fc])) w:=by
 unfold execOp
 simp only [ho]
 go_simp
def raw00 (nt:Int) (e:EvM) (x:ItM):RawM:=⟨nt,0,e.kind,e.group,-1,-1,x.who,x.n,bs x.text,x.files⟩
structure BFW (B:Nat) (w wx:World) (b:Nat) (p:Prof) (pA:Option Addr) (pc:Nat) (wA:Option Addr) (wc:Nat) (E:List EvL) (A:Option Addr) (c:Nat):Prop where
 hb:Below w.heap.size w wx
 vs:Vs B wx
 rg:wx.rangeAt b 0 (p.cs pA pc).toList
 lt:b<wx.heap.size
 net:NetOk wx ⟨p,pA,pc,wayL p,wA,wc,E,A,c,[],none,0⟩
theorem BFW.now {B:Nat} {w wx wy:World} {b:Nat} {p:Prof} {pA wA A:Option Addr} {pc wc c:Nat} {E:List EvL} (h:BFW B w wx b p pA pc wA wc E A c) (hb:Below wx.heap.size wx wy):BFW B w wy b p pA pc wA wc E A c :=
 ⟨h.hb.trans (hb.mono h.hb.size),h.vs.now hb,fun j v hj=>(hb.cell (p:=⟨b,0+j,none⟩) h.lt).trans (h.rg j v hj),Nat.lt_of_lt_of_le h.lt hb.size,h.net.now hb⟩
theorem backForth_i {B:Nat} (p:Prof) (pA:Option Addr) (pc:Nat) (E:List EvL) (A:Option Addr) (c:Nat) (n step:Int) (w:World) (hV:Vs B w) (hp:ProfOk w w.heap.size pA p) (hpc:p.types.length≤pc) (hr:RdL 12 EvL.cs w w.heap.size A E) (he:∀ x∈E,EvLOk w w.heap.size x) (hl:E.length≤9223372036854775807) (hn:0≤n∧n≤255) :
  Calls Tryz.prog 3 #[p.v pA pc,.slice A E.length c,.int .u8 n,.int .i64 step] w fun e w'=>e=.returned (.bool true)∧Below w.heap.size w w':=by
 have hb1:Below w.heap.size w (w.alloc (.cells (p.cs pA pc) 24)):=(Below.refl _ _).alloc (Nat.le_refl _) _
 have HRg:Hid (∀ wq,Below (w.alloc (.cells (p.cs pA pc) 24)).heap.size (w.alloc (.cells (p.cs pA pc) 24)) wq→wq.rangeAt w.heap.size 0 (p.cs pA pc).toList):=hid (fun wq hq=>boxRange w (p.cs pA pc) 24 hq)
 have HV:=hid (fun wq (hq:Below w.heap.size w wq)=>hV.now hq)
 have HP:=hid (fun wq (hq:Below w.heap.size w wq)=>hp.now hq)
 have HR:=hid (fun wq (hq:Below w.heap.size w wq)=>hr.now hq)
 have HE:=hid (fun wq (hq:Below w.heap.size w wq)=>fun x hx=>(he x hx).now hq)
 have HB:=hid hb1
 have HLt:Hid (w.heap.size<(w.alloc (.cells (p.cs pA pc) 24)).heap.size):=hid (by simp)
 clear hb1 hV hp hr he
 go_enter Tryz.func3,Tryz.ntmps3
 go_upto_region 1 with fail
 change Code.wp _ _ _ _ (w.alloc (.cells (p.cs pA pc) 24))
 obtain ⟨b,hb⟩:∃ y,y=w.heap.size:=⟨_,rfl⟩
 rw [← hb] at HRg HLt ⊢
 have HBq:=hid hb
 clear hb
 generalize w.alloc (.cells (p.cs pA pc) 24)=w0 at *
 go_wp2_with fail
 refine (lSmallB_any w0).mono ?_
 rintro e1 w1 ⟨rfl,hb1⟩
 have HB1:=hid (HB.out.trans (hb1.mono HB.out.size))
 have HG1:=hid (fun wq (hq:Below w1.heap.size w1 wq)=>HRg.out wq (hb1.trans (hq.mono hb1.size)))
 have HLt:=hid (Nat.lt_of_lt_of_le HLt.out hb1.size)
 clear hb1 HB HRg
 go_wp2_with (first
  | ((with_reducible show wpList _ _ _ (Oper.mk _ (Op.load 24 _) _ _ _ _::_) _ _);refine wpList_load_g (by rfl) 24 _ rfl b 0 rfl (p.cs pA pc).toList _ (HG1.out w1 (Below.refl _ _)) Tryz.underlying24 rfl (by kernel_rfl) ?_)
  | fail)
 refine (few_anyV p pA pc w1 (HP.out w1 HB1.out)).mono ?_
 rintro e2 w2 ⟨⟨q,rfl,_⟩,hb2⟩
 have HB2:=hid (HB1.out.trans (hb2.mono HB1.out.size))
 have HG2:=hid (fun wq (hq:Below w2.heap.size w2 wq)=>HG1.out wq (hb2.trans (hq.mono hb2.size)))
 have HLt:=hid (Nat.lt_of_lt_of_le HLt.out hb2.size)
 clear hb2 HB1 HG1
 cases q
 ·skip
  go_wp2_with fail
  go_ret
  exact ⟨rfl,HB2.out⟩
 go_wp2_with fail
 refine (rFewAll_any E 8 A c w2 (HR.out w2 HB2.out) hl).mono ?_
 rintro e3 w3 ⟨rfl,hb3⟩
 have HB3:=hid (HB2.out.trans (hb3.mono HB2.out.size))
 have HG3:=hid (fun wq (hq:Below w3.heap.size w3 wq)=>HG2.out wq (hb3.trans (hq.mono hb3.size)))
 have HLt:=hid (Nat.lt_of_lt_of_le HLt.out hb3.size)
 clear hb3 HB2 HG2
 cases hf:fewAllB E 8
 ·skip
  go_wp2_with fail
  go_ret
  exact ⟨rfl,HB3.out⟩
 have hl8:E.length≤8:=fewAll_len hf
 clear hf
 go_wp2_with (first
  | ((with_reducible show wpList _ _ _ (Oper.mk _ (Op.load 24 _) _ _ _ _::_) _ _);refine wpList_load_g (by rfl) 24 _ rfl b 0 rfl (p.cs pA pc).toList _ (HG3.out w3 (Below.refl _ _)) Tryz.underlying24 rfl (by kernel_rfl) ?_)
  | fail)
 refine (pCheck_any p pA pc w3 (HP.out w3 HB3.out) hpc).mono ?_
 rintro e4 w4 ⟨rfl,hb4⟩
 have HBw:=hid (HB3.out.trans (hb4.mono HB3.out.size))
 have HG4:=hid (fun wq (hq:Below w4.heap.size w4 wq)=>HG3.out wq (hb4.trans (hq.mono hb4.size)))
 have HLt:=hid (Nat.lt_of_lt_of_le HLt.out hb4.size)
 clear hb4 HB3 HG3
 by_cases hck:profCheck p=0
 rotate_left
 ·have hc2:(profCheck p != 0)=true:=by simp [hck]
  clear hck
  go_wp2_with fail
  go_ret
  exact ⟨rfl,HBw.out⟩
 have hc2:(profCheck p != 0)=false:=by simp [hck]
 have HCk:=hid hck
 clear hck
 by_cases hs0:step<0
 ·have d0:decide (step<0)=true:=decide_eq_true hs0
  go_wp2_with fail
  go_ret
  exact ⟨rfl,HBw.out⟩
 have d0:decide (step<0)=false:=decide_eq_false hs0
 by_cases hs1:1073741824<step
 ·have d1:decide (1073741824<step)=true:=decide_eq_true hs1
  go_wp2_with fail
  go_ret
  exact ⟨rfl,HBw.out⟩
 have d1:decide (1073741824<step)=false:=decide_eq_false hs1
 have HSt:Hid (0≤step∧step≤1073741824):=hid ⟨by omega,by omega⟩
 clear hs0 hs1
 go_wp2_with fail
 refine (cvOpen_any E A c w4 (HR.out w4 HBw.out) (HE.out w4 HBw.out) hl).mono ?_
 rintro e5 w5 ⟨hb5,ho⟩
 have HB5:=hid (HBw.out.trans (hb5.mono HBw.out.size))
 have HG5:=hid (fun wq (hq:Below w5.heap.size w5 wq)=>HG4.out wq (hb5.trans (hq.mono hb5.size)))
 have HLt:=hid (Nat.lt_of_lt_of_le HLt.out hb5.size)
 clear hb5 HBw HG4
 have HQ:Hid (waysOf p=wayL p):=hid (by unfold waysOf;rw [if_pos HCk.out])
 rcases ho with ⟨ho,rfl⟩ | ⟨ho,pc2,C,rfl,hcv,hfr⟩
 ·have HNo:=hid ho
  clear ho
  go_wp2_with (first
   | ((with_reducible show wpList _ _ _ (Oper.mk _ (Op.load 24 _) _ _ _ _::_) _ _);refine wpList_load_g (by rfl) 24 _ rfl b 0 rfl (p.cs pA pc).toList _ (HG5.out w5 (Below.refl _ _)) Tryz.underlying24 rfl (by kernel_rfl) ?_)
   | fail)
  refine (pCompile_any p pA pc w5 (HP.out w5 HB5.out) hpc).mono ?_
  rintro e6 w6 ⟨hb6,wA,wc,rfl,hw6⟩
  have HB6:=hid (HB5.out.trans (hb6.mono HB5.out.size))
  clear hb6 hw6
  go_wp2_with fail
  go_ret
  exact ⟨rfl,HB6.out⟩
 have HO:=hid ho
 have HCv:=hid hcv
 clear ho hcv hfr
 go_wp2_with (first
  | ((with_reducible show wpList _ _ _ (Oper.mk _ (Op.load 24 _) _ _ _ _::_) _ _);refine wpList_load_g (by rfl) 24 _ rfl b 0 rfl (p.cs pA pc).toList _ (HG5.out w5 (Below.refl _ _)) Tryz.underlying24 rfl (by kernel_rfl) ?_)
  | fail)
 refine (pCompile_any p pA pc w5 (HP.out w5 HB5.out) hpc).mono ?_
 rintro e6 w6 ⟨hb6,wA,wc,rfl,hw6⟩
 rw [HQ.out] at hw6 ⊢
 have HB6:=hid (HB5.out.trans (hb6.mono HB5.out.size))
 have HCv6:=hid (HCv.out.below hb6)
 have HW:Hid (BFW B w w6 b p pA pc wA wc E A c):=hid ⟨HB6.out,HV.out w6 HB6.out,HG5.out w6 hb6,Nat.lt_of_lt_of_le HLt.out hb6.size,HP.out w6 HB6.out,hw6,HR.out w6 HB6.out,HE.out w6 HB6.out,RdL.nil_,rfl,by show E.length≤1000;omega,by simp,fun x hx=>by
  have hm:x.ev∈evsL E:=List.mem_map_of_mem hx
  obtain ⟨i,hi,hie⟩:=List.getElem_of_mem hm
  have:=(conv_at HO.out hi).right
  rw [evAt_lt hi,hie] at this
  exact this,HCk.out⟩
 clear hb6 hw6 HB5 HG5 HQ HCv HLt HV HP HB6
 obtain ⟨nt,hnt⟩:∃ nt,nt=n % 12:=⟨_,rfl⟩
 have HNt:Hid (0≤nt∧nt<12):=hid (by omega)
 have hwn:IntKind.i64.wrap n=n:=by rw [IntKind.wrap_i64];omega
 go_upto_region 11 with fail
 rw [← hnt]
 clear hnt hwn
 go_wp2_with fail
 go_loopw [15,16,17,18,19,20,21,22,23,24,25,26,27] (fun P i _ _ _ _ _ _ _ _ _ _ _ wx=>∃ (k:Nat) (PA:Option Addr) (Pc:Nat),k≤E.length∧i=.int .i64 k∧P=.slice PA (bfPs p (evsL E) nt k).length Pc∧RdP wx wx.heap.size PA (bfPs p (evsL E) nt k)∧Below w6.heap.size w6 wx) (fun _ i _ _ _ _ _ _ _ _ _ _ _ _=>E.length - (intOf i).toNat)
 case atStart=>exact ⟨0,none,0,Nat.zero_le _,rfl,rfl,RdL.nil_,Below.refl _ _⟩
 case round =>
  obtain ⟨k,PA,Pc,hk,rfl,rfl,hps,hbk⟩:=hrel
  have HPs:=hid hps
  have HBk:=hid hbk
  have HWk:=hid (HW.out.now hbk)
  clear hps hbk
  by_cases hlt:k<E.length
  ·obtain ⟨ge,oe,rfl,hge,hce⟩:=HWk.out.net.ev.at_ hlt
   have HRe:Hid (wr.rangeAt ge (oe+k * 12) E[k].cs):=hid (fun j v hj=>hce j v hj)
   have HXo:=hid (HWk.out.net.ok _ (List.getElem_mem hlt))
   have HEa:Hid (evAt (evsL E) k=E[k].ev):=hid (ev_at hlt)
   clear hce
   generalize E[k]=x at *
   go_upto_region 16 with (first
    | ((with_reducible show wpList _ _ _ (Oper.mk _ (Op.load 40 _) _ _ _ _::_) _ _);refine wpList_load_g rfl 40 _ rfl ge (oe+k * 12) rfl (x.ev.cs x.cA x.cc x.fA x.fc).toList _ HRe.out Tryz.underlying40 rfl (by kernel_rfl) ?_)
    | fail)
   change Code.wp _ _ _ _ (wr.alloc (.cells (x.ev.cs x.cA x.cc x.fA x.fc) 40))
   have hb1:Below wr.heap.size wr (wr.alloc (.cells (x.ev.cs x.cA x.cc x.fA x.fc) 40)):=(Below.refl _ _).alloc (Nat.le_refl _) _
   have hx1:(wr.alloc (.cells (x.ev.cs x.cA x.cc x.fA x.fc) 40)).heap[wr.heap.size]?=some (.cells (x.ev.cs x.cA x.cc x.fA x.fc) 40 (0,0)):=(MapKept.heap_alloc wr _).1
   have HW1:=hid (HWk.out.now hb1)
   have HBx:=hid hx1
   have HB1:=hid (HBk.out.trans (hb1.mono HBk.out.size))
   have HX1:=hid (HXo.out.now hb1)
   have HP1:=hid (HPs.out.now hb1)
   clear hb1 hx1 HRe HWk HXo HPs
   obtain ⟨mb,hmb⟩:∃ y,y=wr.heap.size:=⟨_,rfl⟩
   rw [← hmb] at HBx ⊢
   clear hmb
   obtain ⟨wu,hwu⟩:∃ y,y=wr.alloc (.cells (x.ev.cs x.cA x.cc x.fA x.fc) 40):=⟨_,rfl⟩
   rw [← hwu] at HW1 HBx HB1 HX1 HP1 ⊢
   clear hwu
   obtain ⟨L,hL⟩:∃ y,y=allP p (wayL p) (evsL E) [] k:=⟨_,rfl⟩
   have HF:Hid (Calls Tryz.prog 14 #[p.v pA pc,.slice wA (wayL p).length wc,.slice (some ⟨ge,oe,none⟩) E.length c,.slice none 0 0,.int .i64 k] wu (ForthOut L wu)):=hid (by
    rw [hL]
    exact forth_any ⟨p,pA,pc,wayL p,wA,wc,E,some ⟨ge,oe,none⟩,c,[],none,0⟩ k hlt wu HW1.out.vs HW1.out.net rfl hpc)
   have HL:=hid hL
   clear hL
   go_wp2_with (first
    | ((with_reducible show wpList _ _ _ (Oper.mk _ (Op.load 24 _) _ _ _ _::_) _ _);refine wpList_load_g (by rfl) 24 _ rfl b 0 rfl (p.cs pA pc).toList _ (HW1.out.rg) Tryz.underlying24 rfl (by kernel_rfl) ?_)
    | fail)
   refine HF.out.mono ?_
   rintro e7 w7 ⟨A2,c2,its,rfl,hits,hb7⟩
   have HIt:=hid hits
   have HW7:=hid (HW1.out.now hb7)
   have HB7:=hid (HB1.out.trans (hb7.mono HB1.out.size))
   have HBx:=hid ((hb7.block mb (box_lt HBx.out)).trans HBx.out)
   have HX7:=hid (HX1.out.now hb7)
   have HP7:=hid (HP1.out.now hb7)
   have HL20:Hid (L.length≤20):=hid (by rw [HL.out];exact all_count HCk.out)
   clear hits hb7 HF HW1 HB1 HX1 HP1
   have HPl:Hid (Calls Tryz.prog 15 #[.slice wA (wayL p).length wc,x.v,.slice A2 L.length c2] w7 fun en w'=>en=.returned (.bool (plainB (wayL p) x.ev L))∧Below w7.heap.size w7 w'):=hid (by
    have:=bfPlain_any (wayL p) wA wc x its A2 c2 w7 HW7.out.net.wy rfl (HIt.out.own.rd layIt) (by rw [HIt.out.len];have:=HL20.out;omega)
    rw [HIt.out.len,HIt.out.eq] at this
    exact this)
   have HRx:=hid (range_block HBx.out rfl)
   go_wp2_with (first
    | ((with_reducible show wpList _ _ _ (Oper.mk _ (Op.load 40 _) _ _ _ _::_) _ _);refine wpList_load_g rfl 40 _ rfl mb 0 rfl (x.ev.cs x.cA x.cc x.fA x.fc).toList _ HRx.out Tryz.underlying40 rfl (by kernel_rfl) ?_)
    | fail)
   refine HPl.out.mono ?_
   rintro e8 w8 ⟨rfl,hb8⟩
   have HIt8:=hid (HIt.out.on hb8)
   have HW8:=hid (HW7.out.now hb8)
   have HB8:=hid (HB7.out.trans (hb8.mono HB7.out.size))
   have HBx:=hid ((hb8.block mb (box_lt HBx.out)).trans HBx.out)
   have HX8:=hid (HX7.out.now hb8)
   have HP8:=hid (HP7.out.now hb8)
   clear hb8 HPl HW7 HB7 HX7 HP7 HRx HIt
   obtain ⟨q,hq⟩:∃ z,z=plainB (wayL p) x.ev L:=⟨_,rfl⟩
   rw [← hq]
   have HQ:=hid hq
   clear hq
   obtain ⟨wS,hwS⟩:∃ y,y=w8:=⟨_,rfl⟩
   subst hwS
   go_upto_if 96 with fail
   go_cut [] (fun wx=>Below wS.heap.size wS wx)
   case first=>as_aux_lemma =>
    cases q
    ·go_wp2_with fail
     go_meet
     exact Below.refl _ _
    ·have hq:plainB (wayL p) x.ev L=true:=HQ.out.symm
     have hl1:L.length=1:=by
      have h9:=hq
      unfold plainB at h9
      simp only [Bool.and_eq_true,decide_eq_true_eq] at h9
      exact h9.1
     obtain ⟨y,hy⟩:=List.length_eq_one_iff.1 (HIt8.out.len.trans hl1)
     have hLy:L=[y.it]:=by rw [← HIt8.out.eq,hy];rfl
     have hC:=conv_at HO.out (id:=k) (by simpa using hlt)
     have hsm:=all_small HCk.out (E:=evsL E) (by simp;omega) hC (right_nums hC.right).2.2.1 y.it (by rw [← HL.out,hLy];exact List.mem_singleton.2 rfl)
     have HMn:=hid (bf_main (nt:=nt) (step:=step) HCk.out HO.out (id:=k) (by simpa using hlt) (bf_ok HCk.out k) HNt.out HSt.out (by rw [HEa.out,← HL.out];exact hq))
     have HHd:Hid ((allP p (wayL p) (evsL E) [] k).headD noIt=y.it):=hid (by rw [← HL.out,hLy];rfl)
     rw [HHd.out,HEa.out] at HMn
     have hlen0:0<its.length:=by rw [hy];simp
     obtain ⟨gi,oi,hA2,hgi,hci⟩:=(HIt8.out.own.rd layIt).at_ hlen0
     have hi0:its[0]'hlen0=y:=by simp [hy]
     rw [hi0] at hci
     have HRi:Hid (wS.rangeAt gi oi (y.it.cs y.fA y.fc).toList):=hid (fun j v hj=>by simpa using hci j v hj)
     have HYo:=hid (HIt8.out.ok y (by rw [hy];exact List.mem_singleton.2 rfl))
     have HYs:Hid (y.it.files.length≤4∧(bs y.it.text).size≤10000):=hid ⟨hsm.files,by rw [bs_size];exact hsm.text⟩
     subst hA2
     have hlp:0<L.length:=by omega
     clear hq hy hLy hC hsm hlen0 hci hi0 HHd hl1
     go_upto_region 21 with (first
      | ((with_reducible show wpList _ _ _ (Oper.mk _ (Op.load 46 _) _ _ _ _::_) _ _);refine wpList_load_g rfl 46 _ rfl gi oi rfl (y.it.cs y.fA y.fc).toList _ HRi.out Tryz.underlying46 rfl (by kernel_rfl) ?_)
      | fail)
     change Code.wp _ _ _ _ (wS.alloc (.cells (y.it.cs y.fA y.fc) 46))
     have hb1:Below wS.heap.size wS (wS.alloc (.cells (y.it.cs y.fA y.fc) 46)):=(Below.refl _ _).alloc (Nat.le_refl _) _
     have hx1:(wS.alloc (.cells (y.it.cs y.fA y.fc) 46)).heap[wS.heap.size]?=some (.cells (y.it.cs y.fA y.fc) 46 (0,0)):=(MapKept.heap_alloc wS _).1
     have HB1:=hid hb1
     have HBi:=hid hx1
     have HBx1:=hid ((hb1.block mb (box_lt HBx.out)).trans HBx.out)
     clear hb1 hx1 HRi
     obtain ⟨ib,hib⟩:∃ z,z=wS.heap.size:=⟨_,rfl⟩
     rw [← hib] at HBi ⊢
     have HIb:=hid hib
     clear hib
     obtain ⟨w1,hw1⟩:∃ z,z=wS.alloc (.cells (y.it.cs y.fA y.fc) 46):=⟨_,rfl⟩
     rw [← hw1] at HB1 HBi HBx1 ⊢
     clear hw1
     have x3:=box_cell HBx1.out 3 (.int .i64 x.ev.kind) rfl
     have x4:=box_cell HBx1.out 4 (.int .i64 x.ev.group) rfl
     have y7:=box_cell HBi.out 7 (.int .i64 y.it.who) rfl
     have y8:=box_cell HBi.out 8 (.int .i64 y.it.n) rfl
     have y9:=box_cell HBi.out 9 (.string (bs y.it.text)) rfl
     have y10:=box_cell HBi.out 10 (.slice y.fA y.it.files.length y.fc) rfl
     go_upto_region 22 with (first
      | ((with_reducible show wpList _ _ _ (Oper.mk _ (Op.build 48 _) _ _ _ _::_) _ _);refine wpList_valB rfl (run_rawB _ _ w1 nt x.ev.kind x.ev.group y.it.who y.it.n (bs y.it.text) y.fA y.it.files.length y.fc rfl (fun _=>rfl) rfl rfl rfl rfl rfl rfl rfl) ?_)
      | fail)
     change Code.wp _ _ _ _ (w1.alloc (.cells ((raw00 nt x.ev y.it).cs y.fA y.fc) 48))
     have hb2:Below w1.heap.size w1 (w1.alloc (.cells ((raw00 nt x.ev y.it).cs y.fA y.fc) 48)):=(Below.refl _ _).alloc (Nat.le_refl _) _
     have hx2:(w1.alloc (.cells ((raw00 nt x.ev y.it).cs y.fA y.fc) 48)).heap[w1.heap.size]?=some (.cells ((raw00 nt x.ev y.it).cs y.fA y.fc) 48 (0,0)):=(MapKept.heap_alloc w1 _).1
     have HB2:=hid (HB1.out.trans (hb2.mono HB1.out.size))
     have HBr:=hid hx2
     have HBi2:=hid ((hb2.block ib (box_lt HBi.out)).trans HBi.out)
     have HRo:Hid (wS.heap.size≤w1.heap.size):=hid HB1.out.size
     have HNe:Hid (ib<w1.heap.size):=hid (box_lt HBi.out)
     clear hb2 hx2 HB1 HBi HBx1 x3 x4 y7 y8 y9 y10
     obtain ⟨rb,hrb⟩:∃ z,z=w1.heap.size:=⟨_,rfl⟩
     rw [← hrb] at HBr HRo HNe ⊢
     clear hrb
     obtain ⟨w2,hw2⟩:∃ z,z=w1.alloc (.cells ((raw00 nt x.ev y.it).cs y.fA y.fc) 48):=⟨_,rfl⟩
     rw [← hw2] at HB2 HBi2 HBr ⊢
     clear hw2
     have HPl2:Hid ((bfPs p (evsL E) nt k).length≤10000):=hid (bf_many HCk.out k (by omega))
     have HR1:Hid ((rawB (bfPs p (evsL E) nt k) nt x.ev y.it).on=if y.it.on<0 then -1 else numB (bfPs p (evsL E) nt k) nt y.it.on):=hid rfl
     have HR2:Hid ((rawB (bfPs p (evsL E) nt k) nt x.ev y.it).quote=if y.it.quote<0 then -1 else numB (bfPs p (evsL E) nt k) nt y.it.quote):=hid rfl
     have y4:=box_cell HBi2.out 4 (.int .i64 y.it.on) rfl
     go_upto_if 116 with fail
     go_cut [] (fun wx=>wx.heap[rb]?=some (.cells (({raw00 nt x.ev y.it with on:=(rawB (bfPs p (evsL E) nt k) nt x.ev y.it).on}:RawM).cs y.fA y.fc) 48 (0,0))∧wx.heap[ib]?=some (.cells (y.it.cs y.fA y.fc) 46 (0,0))∧Below wS.heap.size wS wx)
     case first=>as_aux_lemma =>
      by_cases d0:y.it.on<0
      ·have d2:decide (0≤y.it.on)=false:=by simp;omega
       have HV:Hid (({raw00 nt x.ev y.it with on:=(rawB (bfPs p (evsL E) nt k) nt x.ev y.it).on}:RawM)=raw00 nt x.ev y.it):=hid (by rw [HR1.out,if_pos d0];rfl)
       go_wp2_with fail
       go_meet
       exact ⟨by rw [HV.out];exact HBr.out,HBi2.out,HB2.out⟩
      ·have d2:decide (0≤y.it.on)=true:=by simp;omega
       have HV:Hid ((rawB (bfPs p (evsL E) nt k) nt x.ev y.it).on=numB (bfPs p (evsL E) nt k) nt y.it.on):=hid (by rw [HR1.out,if_neg d0])
       have HC:=hid (bfLocal_any (bfPs p (evsL E) nt k) PA Pc nt y.it.on w2 (HP8.out.now HB2.out) (by have:=HPl2.out;omega))
       generalize numB (bfPs p (evsL E) nt k) nt y.it.on=nn at *
       go_wp2_with fail
       refine HC.out.mono ?_
       rintro e9 w9 ⟨rfl,hb9⟩
       have HBr9:=hid ((hb9.block rb (box_lt HBr.out)).trans HBr.out)
       have HB9:=hid (HB2.out.trans (hb9.mono HB2.out.size))
       have HBi9:=hid ((hb9.block ib (box_lt HBi2.out)).trans HBi2.out)
       clear hb9
       have z4:=box_cell HBr9.out 4 (.int .i64 (-1)) rfl
       have fz:=fun q=>box_free HBr9.out q
       go_wp2_with fail
       go_meet
       refine ⟨?_,(heap_setCell_other w9 ⟨rb,4,none⟩ ib _ (by have:=HNe.out;show ib≠rb;omega)).trans HBi9.out,HB9.out.setCell (p:=⟨rb,4,none⟩) HRo.out (.int .i64 nn)⟩
       have hs:=heap_setCell_same w9 rb 4 _ _ (.int .i64 nn) HBr9.out
       rw [HV.out]
       exact hs
     case rest =>
      obtain ⟨hrow,hib,hcb⟩:=hcut
      have HB3:=hid hcb
      have HBr3:=hid hrow
      have HBi3:=hid hib
      clear hrow hib hcb HB2 HBr HBi2 HR1 y4
      obtain ⟨onv,hon⟩:∃ z,z=(rawB (bfPs p (evsL E) nt k) nt x.ev y.it).on:=⟨_,rfl⟩
      rw [← hon] at HBr3
      have HOn:=hid hon
      clear hon
      obtain ⟨w3,hw3⟩:∃ z,z=wc:=⟨_,rfl⟩
      subst hw3
      have y6:=box_cell HBi3.out 6 (.int .i64 y.it.quote) rfl
      go_upto_if 125 with fail
      go_cut [] (fun wx=>wx.heap[rb]?=some (.cells (({raw00 nt x.ev y.it with on:=onv,quote:=(rawB (bfPs p (evsL E) nt k) nt x.ev y.it).quote}:RawM).cs y.fA y.fc) 48 (0,0))∧Below wS.heap.size wS wx)
      case first=>as_aux_lemma =>
       by_cases d0:y.it.quote<0
       ·have d2:decide (0≤y.it.quote)=false:=by simp;omega
        have HV:Hid (({raw00 nt x.ev y.it with on:=onv,quote:=(rawB (bfPs p (evsL E) nt k) nt x.ev y.it).quote}:RawM)={raw00 nt x.ev y.it with on:=onv}):=hid (by rw [HR2.out,if_pos d0];rfl)
        go_wp2_with fail
        go_meet
        exact ⟨by rw [HV.out];exact HBr3.out,HB3.out⟩
       ·have d2:decide (0≤y.it.quote)=true:=by simp;omega
        have HV:Hid ((rawB (bfPs p (evsL E) nt k) nt x.ev y.it).quote=numB (bfPs p (evsL E) nt k) nt y.it.quote):=hid (by rw [HR2.out,if_neg d0])
        have HC:=hid (bfLocal_any (bfPs p (evsL E) nt k) PA Pc nt y.it.quote w3 (HP8.out.now HB3.out) (by have:=HPl2.out;omega))
        generalize numB (bfPs p (evsL E) nt k) nt y.it.quote=nn at *
        go_wp2_with fail
        refine HC.out.mono ?_
        rintro e9 w9 ⟨rfl,hb9⟩
        have HBr9:=hid ((hb9.block rb (box_lt HBr3.out)).trans HBr3.out)
        have HB9:=hid (HB3.out.trans (hb9.mono HB3.out.size))
        clear hb9
        have z4:=box_cell HBr9.out 5 (.int .i64 (-1)) rfl
        have fz:=fun q=>box_free HBr9.out q
        go_wp2_with fail
        go_meet
        refine ⟨?_,HB9.out.setCell (p:=⟨rb,5,none⟩) HRo.out (.int .i64 nn)⟩
        have hs:=heap_setCell_same w9 rb 5 _ _ (.int .i64 nn) HBr9.out
        rw [HV.out]
        exact hs
      case rest =>
       obtain ⟨hrow,hcb⟩:=hcut
       have HRw:Hid (({raw00 nt x.ev y.it with on:=onv,quote:=(rawB (bfPs p (evsL E) nt k) nt x.ev y.it).quote}:RawM)=rawB (bfPs p (evsL E) nt k) nt x.ev y.it):=hid (by rw [HOn.out];rfl)
       rw [HRw.out] at hrow
       have HB4:=hid hcb
       have HBr4:=hid (range_block hrow rfl)
       have HW4:=hid (HW8.out.now hcb)
       have HX4:=hid (HX8.out.now hcb)
       have HBx4:=hid ((hcb.block mb (box_lt HBx.out)).trans HBx.out)
       have HP4:=hid (HP8.out.now hcb)
       have HY4:=hid (HYo.out.now hcb)
       clear hrow hcb HB3 HBr3 HBi3 y6 HR2 HRw HW8 HX8 HP8 HYo HOn
       generalize hrw:rawB (bfPs p (evsL E) nt k) nt x.ev y.it=rw_ at *
       have HFi:Hid (rw_.files=y.it.files∧rw_.text=bs y.it.text):=hid (by rw [← hrw];exact ⟨rfl,rfl⟩)
       clear hrw
       have HBk2:Hid (∀ wq,Below wc.heap.size wc wq→Calls Tryz.prog 17 #[p.v pA pc,.slice PA (bfPs p (evsL E) nt k).length Pc,.int .i64 nt,rw_.v y.fA y.fc,.int .i64 step] wq (fun en w'=>Below wq.heap.size wq w'∧∃ fA fc,en=.returned (.tuple #[(asB nt step x.ev).v none 0 fA fc,.int .i64 0])∧RdI w' w'.heap.size fA x.ev.files∧x.ev.files.length≤fc)):=hid (fun wq hq=>by
        have hY:=HY4.out.now hq
        refine (bBack_any p pA pc (bfPs p (evsL E) nt k) PA (bfPs p (evsL E) nt k).length Pc nt rw_ y.fA y.fc step wq rfl (HW4.out.now hq).net.pf hpc (HP4.out.now hq) (by have:=HPl2.out;omega) ⟨by rw [HFi.out.1];exact hY.fi,by rw [HFi.out.1];have:=HYs.out.1;omega,by rw [HFi.out.2];have:=HYs.out.2;omega⟩ (by rw [HFi.out.1];exact hY.cap)).mono ?_
        rintro en w' ⟨h1,fA,fc,h2,h3,h4,_⟩
        rw [HMn.out] at h2 h3 h4
        exact ⟨h1,fA,fc,h2,h3,h4⟩)
       have HRp:=hid HW4.out.rg
       go_wp2_with (first
        | ((with_reducible show wpList _ _ _ (Oper.mk _ (Op.load 24 _) _ _ _ _::_) _ _);refine wpList_load_g (by rfl) 24 _ rfl b 0 rfl (p.cs pA pc).toList _ HRp.out Tryz.underlying24 rfl (by kernel_rfl) ?_)
        | ((with_reducible show wpList _ _ _ (Oper.mk _ (Op.load 48 _) _ _ _ _::_) _ _);refine wpList_load_g (by rfl) 48 _ rfl rb 0 rfl (rw_.cs y.fA y.fc).toList _ HBr4.out Tryz.underlying48 rfl (by kernel_rfl) ?_)
        | fail)
       refine (HBk2.out wc (Below.refl _ _)).mono ?_
       rintro e9 w9 ⟨hb9,fA,fc,rfl,hf9,hc9⟩
       have HB9:=hid (HB4.out.trans (hb9.mono HB4.out.size))
       have HX9:=hid (HX4.out.now hb9)
       have HBx9:=hid ((hb9.block mb (box_lt HBx4.out)).trans HBx4.out)
       have HF9:=hid hf9
       have HC9:=hid hc9
       clear hb9 hf9 hc9 HBk2 HRp HBr4 HB4 HW4 HX4 HBx4 HP4 HY4 HFi HMn
       go_upto_region 27 with fail
       change Code.wp _ _ _ _ (w9.alloc (.cells ((asB nt step x.ev).cs none 0 fA fc) 40))
       have hb10:Below w9.heap.size w9 (w9.alloc (.cells ((asB nt step x.ev).cs none 0 fA fc) 40)):=(Below.refl _ _).alloc (Nat.le_refl _) _
       have hx10:(w9.alloc (.cells ((asB nt step x.ev).cs none 0 fA fc) 40)).heap[w9.heap.size]?=some (.cells ((asB nt step x.ev).cs none 0 fA fc) 40 (0,0)):=(MapKept.heap_alloc w9 _).1
       have HB10:=hid (HB9.out.trans (hb10.mono HB9.out.size))
       have HX10:=hid (HX9.out.now hb10)
       have HRx10:=hid (range_block ((hb10.block mb (box_lt HBx9.out)).trans HBx9.out) rfl)
       have HF10:Hid (RdI _ _ fA x.ev.files):=hid (HF9.out.now hb10)
       have HZb:=hid hx10
       clear hb10 hx10 HB9 HX9 HBx9 HF9
       obtain ⟨zb,hzb⟩:∃ z,z=w9.heap.size:=⟨_,rfl⟩
       rw [← hzb] at HZb ⊢
       clear hzb
       obtain ⟨wt,hwt⟩:∃ z,z=w9.alloc (.cells ((asB nt step x.ev).cs none 0 fA fc) 40):=⟨_,rfl⟩
       rw [← hwt] at HB10 HX10 HRx10 HF10 HZb ⊢
       clear hwt
       go_upto_region 28 with (first
        | ((with_reducible show wpList _ _ _ (Oper.mk _ (Op.load 40 _) _ _ _ _::_) _ _);refine wpList_load_g rfl 40 _ rfl mb 0 rfl (x.ev.cs x.cA x.cc x.fA x.fc).toList _ HRx10.out Tryz.underlying40 rfl (by kernel_rfl) ?_)
        | fail)
       change Code.wp _ _ _ _ (wt.alloc (.cells (x.ev.cs x.cA x.cc x.fA x.fc) 40))
       have hb11:Below wt.heap.size wt (wt.alloc (.cells (x.ev.cs x.cA x.cc x.fA x.fc) 40)):=(Below.refl _ _).alloc (Nat.le_refl _) _
       have HCb:Hid ((wt.alloc (.cells (x.ev.cs x.cA x.cc x.fA x.fc) 40)).heap[wt.heap.size]?=some (.cells (x.ev.cs x.cA x.cc x.fA x.fc) 40 (0,0))):=hid (MapKept.heap_alloc wt _).1
       have HBs:=hid (HB10.out.trans (hb11.mono HB10.out.size))
       have HBt:Hid (Below wt.heap.size wt (wt.alloc (.cells (x.ev.cs x.cA x.cc x.fA x.fc) 40))):=hid hb11
       have HZl:=hid (box_lt HZb.out)
       have HCl:Hid (wS.heap.size≤wt.heap.size):=hid HB10.out.size
       clear hb11
       obtain ⟨cb,hcb2⟩:∃ z,z=wt.heap.size:=⟨_,rfl⟩
       rw [← hcb2] at HCb HCl HZl ⊢
       have HCq:=hid hcb2
       clear hcb2
       obtain ⟨wn,hwn⟩:∃ z,z=wt.alloc (.cells (x.ev.cs x.cA x.cc x.fA x.fc) 40):=⟨_,rfl⟩
       rw [← hwn] at HCb HBs HBt ⊢
       clear hwn
       have zc:=box_cell HCb.out 0 (.int .i64 x.ev.author) rfl
       have fz:=box_free HCb.out 0
       go_upto_region 29 with fail
       have HCb:=hid (heap_setCell_same wn cb 0 _ _ (.int .i64 nt) HCb.out)
       have HBs:=hid (HBs.out.setCell (p:=⟨cb,0,none⟩) HCl.out (.int .i64 nt))
       have HBt:=hid (HBt.out.setCell (p:=⟨cb,0,none⟩) (by have:=HCq.out;show wt.heap.size≤cb;omega) (.int .i64 nt))
       clear zc fz
       obtain ⟨wm,hwm⟩:∃ z,z=World.setCell wn ⟨cb,0,none⟩ (.int .i64 nt):=⟨_,rfl⟩
       rw [← hwm] at HCb HBs HBt ⊢
       clear hwm
       obtain ⟨wn,hwn⟩:∃ z,z=wm:=⟨_,rfl⟩
       subst hwn
       have zc:=box_cell HCb.out 1 (.int .i64 x.ev.seq) rfl
       have fz:=box_free HCb.out 1
       go_upto_region 30 with fail
       have HCb:=hid (heap_setCell_same wn cb 1 _ _ (.int .i64 0) HCb.out)
       have HBs:=hid (HBs.out.setCell (p:=⟨cb,1,none⟩) HCl.out (.int .i64 0))
       have HBt:=hid (HBt.out.setCell (p:=⟨cb,1,none⟩) (by have:=HCq.out;show wt.heap.size≤cb;omega) (.int .i64 0))
       clear zc fz
       obtain ⟨wm,hwm⟩:∃ z,z=World.setCell wn ⟨cb,1,none⟩ (.int .i64 0):=⟨_,rfl⟩
       rw [← hwm] at HCb HBs HBt ⊢
       clear hwm
       obtain ⟨wn,hwn⟩:∃ z,z=wm:=⟨_,rfl⟩
       subst hwn
       have zc:=box_cell HCb.out 2 (.slice x.cA x.ev.causes.length x.cc) rfl
       have fz:=box_free HCb.out 2
       go_upto_region 31 with fail
       have HCb:=hid (heap_setCell_same wn cb 2 _ _ (.slice none 0 0) HCb.out)
       have HBs:=hid (HBs.out.setCell (p:=⟨cb,2,none⟩) HCl.out (.slice none 0 0))
       have HBt:=hid (HBt.out.setCell (p:=⟨cb,2,none⟩) (by have:=HCq.out;show wt.heap.size≤cb;omega) (.slice none 0 0))
       clear zc fz
       obtain ⟨wm,hwm⟩:∃ z,z=World.setCell wn ⟨cb,2,none⟩ (.slice none 0 0):=⟨_,rfl⟩
       rw [← hwm] at HCb HBs HBt ⊢
       clear hwm
       obtain ⟨wn,hwn⟩:∃ z,z=wm:=⟨_,rfl⟩
       subst hwn
       have zc:=box_cell HCb.out 11 (.int .i64 x.ev.step) rfl
       have fz:=box_free HCb.out 11
       go_upto_region 32 with fail
       have HCb:=hid (heap_setCell_same wn cb 11 _ _ (.int .i64 step) HCb.out)
       have HBs:=hid (HBs.out.setCell (p:=⟨cb,11,none⟩) HCl.out (.int .i64 step))
       have HBt:=hid (HBt.out.setCell (p:=⟨cb,11,none⟩) (by have:=HCq.out;show wt.heap.size≤cb;omega) (.int .i64 step))
       clear zc fz
       obtain ⟨wm,hwm⟩:∃ z,z=World.setCell wn ⟨cb,11,none⟩ (.int .i64 step):=⟨_,rfl⟩
       rw [← hwm] at HCb HBs HBt ⊢
       clear hwm
       obtain ⟨wn,hwn⟩:∃ z,z=wm:=⟨_,rfl⟩
       subst hwn
       have HRc:Hid (wn.rangeAt cb 0 ((asB nt step x.ev).cs none 0 x.fA x.fc).toList):=hid (range_block HCb.out rfl)
       have HRz:Hid (wn.rangeAt zb 0 ((asB nt step x.ev).cs none 0 fA fc).toList):=hid (range_block ((HBt.out.block zb (by have:=HZl.out;have:=HCq.out;omega)).trans HZb.out) rfl)
       have HXn:=hid (HX10.out.now HBt.out)
       have HFn:Hid (RdI wn wn.heap.size fA x.ev.files):=hid (HF10.out.now HBt.out)
       go_wp2_with (first
        | ((with_reducible show wpList _ _ _ (Oper.mk _ (Op.load 40 (.tmp 22)) _ _ _ _::_) _ _);refine wpList_load_g (by rfl) 40 _ rfl zb 0 rfl ((asB nt step x.ev).cs none 0 fA fc).toList _ HRz.out Tryz.underlying40 rfl (by kernel_rfl) ?_)
        | ((with_reducible show wpList _ _ _ (Oper.mk _ (Op.load 40 (.tmp 24)) _ _ _ _::_) _ _);refine wpList_load_g (by rfl) 40 _ rfl cb 0 rfl ((asB nt step x.ev).cs none 0 x.fA x.fc).toList _ HRc.out Tryz.underlying40 rfl (by kernel_rfl) ?_)
        | fail)
       have hs1:sameE (asB nt step x.ev) (asB nt step x.ev)=true:=(sameE_iff _ _).2 rfl
       refine (rSameE_any (asB nt step x.ev) (asB nt step x.ev) none 0 fA fc none 0 x.fA x.fc wn ⟨RdL.nil_,HFn.out,by simp [asB],HXn.out.ok.fl,HXn.out.ok.tx⟩ ⟨RdL.nil_,HXn.out.ok.fi,by simp [asB],HXn.out.ok.fl,HXn.out.ok.tx⟩).mono ?_
       rintro e12 w12 ⟨rfl,hb12⟩
       rw [hs1]
       have HBe:=hid (HBs.out.trans (hb12.mono HBs.out.size))
       clear hs1 hb12
       go_wp2_with fail
       go_meet
       exact HBe.out
   case rest =>
    have HIt:=hid (HIt8.out.on hcut)
    have HWc:=hid (HW8.out.now hcut)
    have HBc:=hid (HB8.out.trans (hcut.mono HB8.out.size))
    have HBx:=hid ((hcut.block mb (box_lt HBx.out)).trans HBx.out)
    have HPc:=hid (HP8.out.now hcut)
    clear hcut HIt8 HW8 HB8 HX8 HP8 HQ
    have HNx:Hid (bfPs p (evsL E) nt (k+1)=bfPs p (evsL E) nt k++(if x.ev.kind=0 then bfNew nt k L.length else [])):=hid (by
     show bfPs p (evsL E) nt k++bfMore p (evsL E) nt k=_
     unfold bfMore
     rw [HEa.out,← HL.out])
    have HOk:=hid (bf_ok (nt:=nt) HCk.out (E:=evsL E) k)
    have HPn:=hid (bf_many (p:=p) HCk.out (E:=evsL E) (nt:=nt) k (by omega))
    have HRi:=hid (bf_right (nt:=nt) HCk.out (E:=evsL E) HNt.out k (by omega))
    generalize bfPs p (evsL E) nt k=ps at *
    have HPl:Hid (ps.length≤10000):=HPn
    go_wp2_with fail
    obtain ⟨wM,hwM⟩:∃ y,y=wc:=⟨_,rfl⟩
    subst hwM
    go_loopw [15,25,26,27] (fun P i _ _ wx=>∃ (j:Nat) (PB:Option Addr) (Pd:Nat),j≤L.length∧i=.int .i64 j∧P=.slice PB (ps++(if x.ev.kind=0 then bfNew nt k j else [])).length Pd∧RdP wx wx.heap.size PB (ps++(if x.ev.kind=0 then bfNew nt k j else []))∧Below wM.heap.size wM wx) (fun _ i _ _ _=>L.length - (intOf i).toNat)
    case atStart =>
     have h0:ps++(if x.ev.kind=0 then bfNew nt k 0 else [])=ps:=by simp [bfNew]
     exact ⟨0,PA,Pc,Nat.zero_le _,rfl,by rw [h0],by rw [h0];exact HPc.out,Below.refl _ _⟩
    case round =>
     obtain ⟨j,PB,Pd,hj,rfl,rfl,hpr,hbj⟩:=hrel
     have HPr:=hid hpr
     have HBj:=hid hbj
     have HBy:=hid ((hbj.block mb (box_lt HBx.out)).trans HBx.out)
     clear hpr hbj
     obtain ⟨pj,hpj⟩:∃ z,z=ps++(if x.ev.kind=0 then bfNew nt k j else []):=⟨_,rfl⟩
     rw [← hpj] at HPr ⊢
     have HPj:=hid hpj
     clear hpj
     by_cases hjl:j<L.length
     ·have x3:=box_cell HBy.out 3 (.int .i64 x.ev.kind) rfl
      have hl20:=HL20.out
      by_cases hk0:x.ev.kind=0
      ·have hkb:(x.ev.kind != 0)=false:=by simp [hk0]
       have HPk:Hid (pj=ps++bfNew nt k j):=hid (by rw [HPj.out,if_pos hk0])
       have HK0:=hid hk0
       have hw1:IntKind.i64.wrap (32 * (k:Int))=32 * k:=by rw [IntKind.wrap_i64];omega
       have hw2:IntKind.i64.wrap (32 * (k:Int)+j)=32 * k+j:=by rw [IntKind.wrap_i64];omega
       have HAd:Hid (addF pj ⟨nt,32 * k+j,k,j⟩=(ps++bfNew nt k (j+1),0)):=hid (by rw [HPk.out];exact (bf_add HNt.out (by omega) HRi.out HOk.out.at_ j (by omega)).2 (by omega))
       have HAl:Hid (pj.length≤100000):=hid (by rw [HPk.out,List.length_append];unfold bfNew;rw [List.length_map,List.length_range];have:=HPl.out;omega)
       have HWf:Hid ((∀ q∈pj,q.wf)∧(j<20→(⟨nt,32 * (k:Int)+j,k,j⟩:Pair).wf)):=hid (by rw [HPk.out];exact bf_wf HNt.out HOk.out hlt hl8 (show j≤20 by omega))
       clear hk0
       go_wp2_with fail
       refine (padd_any pj ⟨nt,32 * k+j,k,j⟩ PB Pd wr HPr.out HAl.out HWf.out.1 (HWf.out.2 (by omega))).mono ?_
       rintro e9 w9 ⟨PB2,Pd2,rfl,how,hb9⟩
       rw [HAd.out] at how ⊢
       obtain ⟨pn,hpn⟩:∃ z,z=ps++bfNew nt k (j+1):=⟨_,rfl⟩
       rw [← hpn] at how ⊢
       have HPn2:=hid hpn
       clear hpn
       have HB9:=hid (HBj.out.trans (hb9.mono HBj.out.size))
       have HOw:=hid (how.rd layP)
       clear how hb9 hw1 hw2
       go_wp2_with fail
       go_roundw
       case rel=>exact ⟨j+1,PB2,Pd2,by omega,by go_num,by rw [if_pos HK0.out,← HPn2.out],by rw [if_pos HK0.out,← HPn2.out];exact HOw.out,HB9.out⟩
       case measure=>simp [intOf];omega
      ·have hkb:(x.ev.kind != 0)=true:=by simp [hk0]
       have HPk:Hid (pj=ps++(if x.ev.kind=0 then bfNew nt k (j+1) else [])):=hid (by rw [HPj.out,if_neg hk0,if_neg hk0])
       clear hk0
       go_wp2_with fail
       go_roundw
       case rel=>exact ⟨j+1,PB,Pd,by omega,by go_num,by rw [← HPk.out],by rw [← HPk.out];exact HPr.out,HBj.out⟩
       case measure=>simp [intOf];omega
     ·have hje:j=L.length:=by omega
      have d8:decide (j<L.length)=false:=decide_eq_false (by omega)
      have HN2:Hid (pj=bfPs p (evsL E) nt (k+1)):=hid (by rw [HPj.out,HNx.out,hje])
      clear hje hjl
      go_wp2_with fail
      go_roundw
      case rel=>exact ⟨k+1,PB,Pd,by omega,by go_num,by rw [← HN2.out],by rw [← HN2.out];exact HPr.out,HBc.out.trans (HBj.out.mono HBc.out.size)⟩
      case measure=>simp [intOf];omega
  ·have hke:k=E.length:=by omega
   have d9:decide (k<E.length)=false:=decide_eq_false (by omega)
   clear hke hlt
   have HCa:=hid (HCv6.out.below HBk.out)
   have HWk:=hid (HW.out.now HBk.out)
   go_wp2_with fail
   refine (cvAll_any pc2 (evsL E) C wr HCa.out (by simp;omega)).mono ?_
   rintro e9 w9 ⟨aA,aC,ys,rfl,hye,hyi,hb9⟩
   have HW9:=hid (HWk.out.now hb9)
   have HYe:=hid hye
   have HYi:=hid hyi
   have hyl:ys.length=E.length:=by have:=congrArg List.length hye;simpa using this
   have HYl:=hid hyl
   clear hye hyi hb9 hyl
   go_wp2_with fail
   refine (rSameL_any ys E aA A aC c w9 (HYi.out.own.rd layEvL) HW9.out.net.ev (fun x hx=>(HYi.out.el x hx).1.1) HW9.out.net.ok (by have:=HYl.out;omega) hl).mono ?_
   rintro e10 w10 ⟨v,rfl,hv,hb10⟩
   obtain rfl:v=true:=hv.2 HYe.out
   go_wp2_with fail
   go_ret
   exact ⟨rfl,HW9.out.hb.trans (hb10.mono HW9.out.hb.size)⟩
end Go.Proofs.YtlnnjdibkbabiaaGreatDoor
