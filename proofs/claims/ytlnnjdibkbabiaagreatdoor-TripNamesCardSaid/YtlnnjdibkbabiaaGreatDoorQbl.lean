/- Contracts and plain laws, joined: TlB, TlJ, TlK. -/
import Derived.Test.YtlnnjdibkbabiaaGreatDoorQbk
import Derived.Test.YtlnnjdibkbabiaaGreatDoorQbc
import Derived.Test.YtlnnjdibkbabiaaGreatDoorQbd
import Derived.Test.YtlnnjdibkbabiaaGreatDoorQbh
/- Contract of linguaref16.Ints. -/
set_option linter.unusedSimpArgs false
set_option linter.unusedVariables false
namespace Go.Proofs.YtlnnjdibkbabiaaGreatDoor
set_option maxHeartbeats 8000000
open _root_.Go.Lib (hid)
open Go.ChangeShapes Go.WideShapes Go.RowKit Go.Deep
theorem ints16_any (xs ys:List Int) (A B:Option Addr) (c d:Nat) (w:World) (hr:RdL 1 intE w w.heap.size A xs) (hs:RdL 1 intE w w.heap.size B ys) (hx:xs.length≤9223372036854775807) (hy:ys.length≤9223372036854775807) :
  Calls Tryz.prog 31 #[.slice A xs.length c,.slice B ys.length d] w fun e w'=>e=.returned (.bool (xs==ys))∧Below w.heap.size w w':=by
 have HR:=hid hr
 have HS:=hid hs
 have HFin:Hid (∀ b:Bool,(xs=ys ↔ b=true)→(xs==ys)=b):=hid fun b h=>by
  cases b with
  | true=>simpa using h.2 rfl
  | false=>simp only [beq_eq_false_iff_ne];intro e;exact absurd (h.1 e) (by simp)
 clear hr hs
 by_cases hl:xs.length=ys.length
 ·have hl2:((xs.length:Int) != ys.length)=false:=by simp [hl]
  go_enter Tryz.func31,Tryz.ntmps31
  have HL:=hid hl
  clear hl
  go_wp2
  go_loopw [5] (fun i wr=>∃ k:Nat,k≤xs.length∧i=.int .i64 k∧xs.take k=ys.take k∧Below w.heap.size w wr) (fun i _=>xs.length - (intOf i).toNat)
  case atStart=>exact ⟨0,Nat.zero_le _,rfl,by simp,Below.refl _ _⟩
  case round =>
   obtain ⟨k,hk,rfl,hf,hbw⟩:=hrel
   have HF:=hid hf
   have HB:=hid hbw
   clear hf
   by_cases hlt:k<xs.length
   ·have hlt2:k<ys.length:=by have:=HL.out;omega
    obtain ⟨b,off,hA,hb,c0⟩:=rd_int' (HR.out.now hbw) hlt
    obtain ⟨b2,off2,hA2,hb2,c1⟩:=rd_int' (HS.out.now hbw) hlt2
    subst hA hA2
    have HSt:=hid (eq_take xs ys k hlt hlt2 HF.out)
    have HNe:=hid (ne_at xs ys k hlt hlt2)
    have hi0:(0:Int)≤(k:Int):=by omega
    have hi1:(k:Int)<(xs.length:Int):=by omega
    have hi2:(k:Int)<(ys.length:Int):=by omega
    clear hbw
    generalize xs[k]=x at *
    generalize ys[k]=y at *
    by_cases hv:x=y
    ·have hv2:(x != y)=false:=by simp [hv]
     have hv3:(x==y)=true:=by rw [bne,Bool.not_eq_false'] at hv2;exact hv2
     have HV:=hid hv
     clear hv
     go_wp2_with fail
     go_quiet (fail)
     go_wp2
     go_roundw
     case rel=>exact ⟨k+1,by omega,by go_num,HSt.out HV.out,below_drewN HB.out _⟩
     case measure=>simp [intOf];omega
    ·have hv2:(x != y)=true:=by simp [hv]
     have hv3:(x==y)=false:=by rw [bne,Bool.not_eq_true'] at hv2;exact hv2
     have HV:=hid (HNe.out hv)
     clear hv
     go_wp2_with fail
     go_quiet (fail)
     go_wp2
     go_ret
     exact ⟨ret_bool (HFin.out false ⟨fun h=>absurd h HV.out,fun h=>by simp at h⟩).symm,below_drewN HB.out _⟩
   ·have HE:Hid (xs=ys):=hid (by
     have h1:=HF.out
     have:=HL.out
     rwa [List.take_of_length_le (by omega),List.take_of_length_le (by omega)] at h1)
    go_wp2
    go_ret
    exact ⟨ret_bool (HFin.out true ⟨fun _=>rfl,fun _=>HE.out⟩).symm,HB.out⟩
 ·have hl2:((xs.length:Int) != ys.length)=true:=by simp;omega
  have HN:=hid hl
  clear hl
  go_enter Tryz.func31,Tryz.ntmps31
  go_wp2
  go_ret
  exact ⟨ret_bool (HFin.out false ⟨fun h=>absurd (by rw [h]) HN.out,fun h=>by simp at h⟩).symm,Below.refl _ _⟩
/- Contracts of lingualaw24: names,alike. -/
open Go.RowKit
set_option maxRecDepth 100000
theorem names_hit {l:List Loss} {e m:EvM} {k:Nat} (hk:k<l.length) (h:nameB l[k].1 e m=true):namesP l e m=true:=by
 unfold namesP
 rw [List.any_eq_true]
 exact ⟨_,List.getElem_mem hk,h⟩
theorem names_step {l:List Loss} {e m:EvM} {k:Nat} (hk:k<l.length) (h0:namesP (l.take k) e m=false) (h:nameB l[k].1 e m=false):namesP (l.take (k+1)) e m=false:=by
 unfold namesP at h0 ⊢
 rw [List.take_succ_eq_append_getElem hk,List.any_append,h0]
 simp [h]
def nmX (c mk mt mq mw ek:Int) (nf:Nat):Bool :=
 ((mk==0) && (((c==5) && !(mt==-1)) || (((c==6) && !(mq==-1)) || ((c==7) && !(mw==-1))))) || ((c==1) || (((c==2) && (ek==1)) || (((c==3) && (ek==2)) || (((c==4) && ((ek==3) || (ek==4))) || ((c==8) && decide (0<nf))))))
theorem nameX (c:Int) (e m:EvM):nameB c e m=nmX c m.kind m.target m.quote m.who e.kind e.files.length:=rfl
theorem lNames_any (l:List Loss) (A:Option Addr) (c:Nat) (e m:EvL) (w:World) (hr:RdL 3 lossC w w.heap.size A l) (hl:l.length≤1000) :
  Calls Tryz.prog 28 #[.slice A l.length c,e.v,m.v] w fun en w'=>en=.returned (.bool (namesP l e.ev m.ev))∧Below w.heap.size w w':=by
 have HR:=hid hr
 have hb0:Below w.heap.size w ((w.alloc (.cells (e.ev.cs e.cA e.cc e.fA e.fc) 40)).alloc (.cells (m.ev.cs m.cA m.cc m.fA m.fc) 40)):=((Below.refl _ _).alloc (Nat.le_refl _) _).alloc (by simp) _
 have hx0:((w.alloc (.cells (e.ev.cs e.cA e.cc e.fA e.fc) 40)).alloc (.cells (m.ev.cs m.cA m.cc m.fA m.fc) 40)).heap[w.heap.size]?=some (.cells (e.ev.cs e.cA e.cc e.fA e.fc) 40 (0,0)):=(Below.heap_alloc _ _ _ (by simp)).trans (MapKept.heap_alloc w _).1
 have hx1:((w.alloc (.cells (e.ev.cs e.cA e.cc e.fA e.fc) 40)).alloc (.cells (m.ev.cs m.cA m.cc m.fA m.fc) 40)).heap[w.heap.size+1]?=some (.cells (m.ev.cs m.cA m.cc m.fA m.fc) 40 (0,0)):=by
  have:=(MapKept.heap_alloc (w.alloc (.cells (e.ev.cs e.cA e.cc e.fA e.fc) 40)) (.cells (m.ev.cs m.cA m.cc m.fA m.fc) 40)).1
  simpa using this
 have HB:=hid hb0
 have HX0:=hid hx0
 have HX1:=hid hx1
 clear hr hb0 hx0 hx1
 go_enter Tryz.func28,Tryz.ntmps28
 go_upto_region 1 with fail
 change Code.wp _ _ _ _ ((w.alloc (.cells (e.ev.cs e.cA e.cc e.fA e.fc) 40)).alloc (.cells (m.ev.cs m.cA m.cc m.fA m.fc) 40))
 obtain ⟨b,hb⟩:∃ y,y=w.heap.size:=⟨_,rfl⟩
 rw [← hb] at HX0 HX1 ⊢
 clear hb
 obtain ⟨w0,hw0⟩:∃ y,y=((w.alloc (.cells (e.ev.cs e.cA e.cc e.fA e.fc) 40)).alloc (.cells (m.ev.cs m.cA m.cc m.fA m.fc) 40)):=⟨_,rfl⟩
 rw [← hw0] at HB HX0 HX1 ⊢
 clear hw0
 go_wp2_with fail
 go_loopw [7,8,9,10,11] (fun i _ _ _ _ wx=>∃ k:Nat,k≤l.length∧i=.int .i64 k∧namesP (l.take k) e.ev m.ev=false∧wx=w0) (fun i _ _ _ _ _=>l.length - (intOf i).toNat)
 case atStart=>exact ⟨0,Nat.zero_le _,rfl,by simp [namesP],rfl⟩
 case round =>
  obtain ⟨k,hk,rfl,hno,rfl⟩:=hrel
  have HNo:=hid hno
  clear hno
  by_cases hlt:k<l.length
  ·obtain ⟨g,off,x,rfl,hg,hx,c0,c1,c2⟩:=rd_loss (HR.out.now HB.out) hlt
   have hlk:l[k]=x:=by rw [List.getElem?_eq_getElem hlt] at hx;exact Option.some.inj hx
   have HHit:Hid (nmX x.1 m.ev.kind m.ev.target m.ev.quote m.ev.who e.ev.kind e.ev.files.length=true→namesP l e.ev m.ev=true):=hid (fun h=>names_hit hlt (by rw [hlk,nameX];exact h))
   have HMis:Hid (nmX x.1 m.ev.kind m.ev.target m.ev.quote m.ev.who e.ev.kind e.ev.files.length=false→namesP (l.take (k+1)) e.ev m.ev=false):=hid (fun h=>names_step hlt HNo.out (by rw [hlk,nameX];exact h))
   have y3:=box_cell HX0.out 3 (.int .i64 e.ev.kind) rfl
   have y10:=box_cell HX0.out 10 (.slice e.fA e.ev.files.length e.fc) rfl
   have z3:=box_cell HX1.out 3 (.int .i64 m.ev.kind) rfl
   have z5:=box_cell HX1.out 5 (.int .i64 m.ev.target) rfl
   have z6:=box_cell HX1.out 6 (.int .i64 m.ev.quote) rfl
   have z7:=box_cell HX1.out 7 (.int .i64 m.ev.who) rfl
   clear hx hlk c1 c2 HX0 HX1 HNo
   obtain ⟨nAll,hnA⟩:∃ z,z=namesP l e.ev m.ev:=⟨_,rfl⟩
   have HNA:=hid hnA
   rw [← hnA] at HHit
   clear hnA
   obtain ⟨nNext,hnN⟩:∃ z,z=namesP (l.take (k+1)) e.ev m.ev:=⟨_,rfl⟩
   have HNN:=hid hnN
   rw [← hnN] at HMis
   clear hnN
   generalize m.ev.kind=mk at *
   generalize m.ev.target=mt at *
   generalize m.ev.quote=mq at *
   generalize m.ev.who=mw at *
   generalize e.ev.kind=ek at *
   generalize e.ev.files.length=nf at *
   generalize x.1=cc at *
   go_upto_region 6 with fail
   obtain ⟨rx,hrx⟩:∃ z:Bool,z=((ek==3) || (ek==4)):=⟨_,rfl⟩
   have HRx:=hid hrx
   clear hrx
   go_cut [10] (fun v wx=>v=.bool rx∧wx=wr)
   case first=>as_aux_lemma =>
    cases q3:ek==3
    ·cases q4:ek==4
     ·have HQ:Hid (rx=false):=hid (by rw [HRx.out,q3,q4];rfl)
      go_wp2_with fail
      go_meet
      exact ⟨by rw [HQ.out],rfl⟩
     ·have HQ:Hid (rx=true):=hid (by rw [HRx.out,q3,q4];rfl)
      go_wp2_with fail
      go_meet
      exact ⟨by rw [HQ.out],rfl⟩
    ·have HQ:Hid (rx=true):=hid (by rw [HRx.out,q3];rfl)
     go_wp2_with fail
     go_meet
     exact ⟨by rw [HQ.out],rfl⟩
   case rest =>
    obtain ⟨rfl,rfl⟩:=hcut
    have HHit:Hid ((((mk==0) && (((cc==5) && !(mt==-1)) || (((cc==6) && !(mq==-1)) || ((cc==7) && !(mw==-1))))) || ((cc==1) || (((cc==2) && (ek==1)) || (((cc==3) && (ek==2)) || (((cc==4) && rx) || ((cc==8) && decide (0<nf)))))))=true→nAll=true):=hid (fun h=>HHit.out (by unfold nmX;rw [← HRx.out];exact h))
    have HMis:Hid ((((mk==0) && (((cc==5) && !(mt==-1)) || (((cc==6) && !(mq==-1)) || ((cc==7) && !(mw==-1))))) || ((cc==1) || (((cc==2) && (ek==1)) || (((cc==3) && (ek==2)) || (((cc==4) && rx) || ((cc==8) && decide (0<nf)))))))=false→nNext=false):=hid (fun h=>HMis.out (by unfold nmX;rw [← HRx.out];exact h))
    clear HRx
    have hcc:cc=1∨cc=2∨cc=3∨cc=4∨cc=5∨cc=6∨cc=7∨cc=8∨(cc≠1∧cc≠2∧cc≠3∧cc≠4∧cc≠5∧cc≠6∧cc≠7∧cc≠8):=by omega
    rcases hcc with rfl | rfl | rfl | rfl | rfl | rfl | rfl | rfl | hcc
    ·cases hm0:mk==0
     ·skip
      have HT:=hid (HHit.out (by simp [hm0]))
      go_wp2_with fail
      go_ret
      exact ⟨by rw [← HNA.out,HT.out];rfl,HB.out⟩
     ·skip
      have HT:=hid (HHit.out (by simp [hm0]))
      go_wp2_with fail
      go_ret
      exact ⟨by rw [← HNA.out,HT.out];rfl,HB.out⟩
    ·skip
     cases hm0:mk==0
     ·cases hv:ek==1
      ·skip
       have HT:=hid (HMis.out (by simp [hm0,hv]))
       go_wp2_with fail
       go_roundw
       case rel=>exact ⟨k+1,by omega,by go_num,by rw [← HNN.out];exact HT.out,by first | trivial | rfl⟩
       case measure=>simp [intOf];omega
      ·skip
       have HT:=hid (HHit.out (by simp [hm0,hv]))
       go_wp2_with fail
       go_ret
       exact ⟨by rw [← HNA.out,HT.out];rfl,HB.out⟩
     ·cases hv:ek==1
      ·skip
       have HT:=hid (HMis.out (by simp [hm0,hv]))
       go_wp2_with fail
       go_roundw
       case rel=>exact ⟨k+1,by omega,by go_num,by rw [← HNN.out];exact HT.out,by first | trivial | rfl⟩
       case measure=>simp [intOf];omega
      ·skip
       have HT:=hid (HHit.out (by simp [hm0,hv]))
       go_wp2_with fail
       go_ret
       exact ⟨by rw [← HNA.out,HT.out];rfl,HB.out⟩
    ·skip
     cases hm0:mk==0
     ·cases hv:ek==2
      ·skip
       have HT:=hid (HMis.out (by simp [hm0,hv]))
       go_wp2_with fail
       go_roundw
       case rel=>exact ⟨k+1,by omega,by go_num,by rw [← HNN.out];exact HT.out,by first | trivial | rfl⟩
       case measure=>simp [intOf];omega
      ·skip
       have HT:=hid (HHit.out (by simp [hm0,hv]))
       go_wp2_with fail
       go_ret
       exact ⟨by rw [← HNA.out,HT.out];rfl,HB.out⟩
     ·cases hv:ek==2
      ·skip
       have HT:=hid (HMis.out (by simp [hm0,hv]))
       go_wp2_with fail
       go_roundw
       case rel=>exact ⟨k+1,by omega,by go_num,by rw [← HNN.out];exact HT.out,by first | trivial | rfl⟩
       case measure=>simp [intOf];omega
      ·skip
       have HT:=hid (HHit.out (by simp [hm0,hv]))
       go_wp2_with fail
       go_ret
       exact ⟨by rw [← HNA.out,HT.out];rfl,HB.out⟩
    ·skip
     cases hm0:mk==0
     ·cases hv:rx
      ·skip
       have HT:=hid (HMis.out (by simp [hm0,hv]))
       go_wp2_with fail
       go_roundw
       case rel=>exact ⟨k+1,by omega,by go_num,by rw [← HNN.out];exact HT.out,by first | trivial | rfl⟩
       case measure=>simp [intOf];omega
      ·skip
       have HT:=hid (HHit.out (by simp [hm0,hv]))
       go_wp2_with fail
       go_ret
       exact ⟨by rw [← HNA.out,HT.out];rfl,HB.out⟩
     ·cases hv:rx
      ·skip
       have HT:=hid (HMis.out (by simp [hm0,hv]))
       go_wp2_with fail
       go_roundw
       case rel=>exact ⟨k+1,by omega,by go_num,by rw [← HNN.out];exact HT.out,by first | trivial | rfl⟩
       case measure=>simp [intOf];omega
      ·skip
       have HT:=hid (HHit.out (by simp [hm0,hv]))
       go_wp2_with fail
       go_ret
       exact ⟨by rw [← HNA.out,HT.out];rfl,HB.out⟩
    ·skip
     cases hm0:mk==0
     ·skip
      have HT:=hid (HMis.out (by simp [hm0]))
      go_wp2_with fail
      go_roundw
      case rel=>exact ⟨k+1,by omega,by go_num,by rw [← HNN.out];exact HT.out,by first | trivial | rfl⟩
      case measure=>simp [intOf];omega
     ·cases hv:mt==-1
      ·have hv2:(mt != -1)=true:=by rw [bne,hv];rfl
       have HT:=hid (HHit.out (by simp [hm0,hv]))
       go_wp2_with fail
       go_ret
       exact ⟨by rw [← HNA.out,HT.out];rfl,HB.out⟩
      ·have hv2:(mt != -1)=false:=by rw [bne,hv];rfl
       have HT:=hid (HMis.out (by simp [hm0,hv]))
       go_wp2_with fail
       go_roundw
       case rel=>exact ⟨k+1,by omega,by go_num,by rw [← HNN.out];exact HT.out,by first | trivial | rfl⟩
       case measure=>simp [intOf];omega
    ·skip
     cases hm0:mk==0
     ·skip
      have HT:=hid (HMis.out (by simp [hm0]))
      go_wp2_with fail
      go_roundw
      case rel=>exact ⟨k+1,by omega,by go_num,by rw [← HNN.out];exact HT.out,by first | trivial | rfl⟩
      case measure=>simp [intOf];omega
     ·cases hv:mq==-1
      ·have hv2:(mq != -1)=true:=by rw [bne,hv];rfl
       have HT:=hid (HHit.out (by simp [hm0,hv]))
       go_wp2_with fail
       go_ret
       exact ⟨by rw [← HNA.out,HT.out];rfl,HB.out⟩
      ·have hv2:(mq != -1)=false:=by rw [bne,hv];rfl
       have HT:=hid (HMis.out (by simp [hm0,hv]))
       go_wp2_with fail
       go_roundw
       case rel=>exact ⟨k+1,by omega,by go_num,by rw [← HNN.out];exact HT.out,by first | trivial | rfl⟩
       case measure=>simp [intOf];omega
    ·skip
     cases hm0:mk==0
     ·skip
      have HT:=hid (HMis.out (by simp [hm0]))
      go_wp2_with fail
      go_roundw
      case rel=>exact ⟨k+1,by omega,by go_num,by rw [← HNN.out];exact HT.out,by first | trivial | rfl⟩
      case measure=>simp [intOf];omega
     ·cases hv:mw==-1
      ·have hv2:(mw != -1)=true:=by rw [bne,hv];rfl
       have HT:=hid (HHit.out (by simp [hm0,hv]))
       go_wp2_with fail
       go_ret
       exact ⟨by rw [← HNA.out,HT.out];rfl,HB.out⟩
      ·have hv2:(mw != -1)=false:=by rw [bne,hv];rfl
       have HT:=hid (HMis.out (by simp [hm0,hv]))
       go_wp2_with fail
       go_roundw
       case rel=>exact ⟨k+1,by omega,by go_num,by rw [← HNN.out];exact HT.out,by first | trivial | rfl⟩
       case measure=>simp [intOf];omega
    ·skip
     cases hm0:mk==0
     ·cases hv:decide (0<nf)
      ·skip
       have HT:=hid (HMis.out (by simp [hm0,hv]))
       go_wp2_with fail
       go_roundw
       case rel=>exact ⟨k+1,by omega,by go_num,by rw [← HNN.out];exact HT.out,by first | trivial | rfl⟩
       case measure=>simp [intOf];omega
      ·skip
       have HT:=hid (HHit.out (by simp [hm0,hv]))
       go_wp2_with fail
       go_ret
       exact ⟨by rw [← HNA.out,HT.out];rfl,HB.out⟩
     ·cases hv:decide (0<nf)
      ·skip
       have HT:=hid (HMis.out (by simp [hm0,hv]))
       go_wp2_with fail
       go_roundw
       case rel=>exact ⟨k+1,by omega,by go_num,by rw [← HNN.out];exact HT.out,by first | trivial | rfl⟩
       case measure=>simp [intOf];omega
      ·skip
       have HT:=hid (HHit.out (by simp [hm0,hv]))
       go_wp2_with fail
       go_ret
       exact ⟨by rw [← HNA.out,HT.out];rfl,HB.out⟩
    ·have e1:(cc==1)=false:=by simp [hcc]
     have e2:(cc==2)=false:=by simp [hcc]
     have e3:(cc==3)=false:=by simp [hcc]
     have e4:(cc==4)=false:=by simp [hcc]
     have e5:(cc==5)=false:=by simp [hcc]
     have e6:(cc==6)=false:=by simp [hcc]
     have e7:(cc==7)=false:=by simp [hcc]
     have e8:(cc==8)=false:=by simp [hcc]
     clear hcc
     cases hm0:mk==0
     ·skip
      have HT:=hid (HMis.out (by simp [hm0,e1,e2,e3,e4,e5,e6,e7,e8]))
      go_wp2_with fail
      go_roundw
      case rel=>exact ⟨k+1,by omega,by go_num,by rw [← HNN.out];exact HT.out,by first | trivial | rfl⟩
      case measure=>simp [intOf];omega
     ·skip
      have HT:=hid (HMis.out (by simp [hm0,e1,e2,e3,e4,e5,e6,e7,e8]))
      go_wp2_with fail
      go_roundw
      case rel=>exact ⟨k+1,by omega,by go_num,by rw [← HNN.out];exact HT.out,by first | trivial | rfl⟩
      case measure=>simp [intOf];omega
  ·have hke:k=l.length:=by omega
   have d1:decide (k<l.length)=false:=decide_eq_false (by omega)
   have HR2:Hid (namesP l e.ev m.ev=false):=hid (by
    have:=HNo.out
    rwa [List.take_of_length_le (by omega)] at this)
   clear hke hlt
   go_wp2_with fail
   go_ret
   exact ⟨by rw [HR2.out];rfl,HB.out⟩
/- Contracts of lingualaw24: alike. -/
theorem lAlike_any (a b:EvL) (w:World) (ha:EvLOk w w.heap.size a) (hb:EvLOk w w.heap.size b) :
  Calls Tryz.prog 27 #[a.v,b.v] w fun en w'=>∃ v:Bool,en=.returned (.bool v)∧(a.ev=b.ev→v=true)∧Below w.heap.size w w':=by
 have hb0:Below w.heap.size w ((w.alloc (.cells (a.ev.cs a.cA a.cc a.fA a.fc) 40)).alloc (.cells (b.ev.cs b.cA b.cc b.fA b.fc) 40)):=((Below.refl _ _).alloc (Nat.le_refl _) _).alloc (by simp) _
 have hx0:((w.alloc (.cells (a.ev.cs a.cA a.cc a.fA a.fc) 40)).alloc (.cells (b.ev.cs b.cA b.cc b.fA b.fc) 40)).heap[w.heap.size]?=some (.cells (a.ev.cs a.cA a.cc a.fA a.fc) 40 (0,0)):=(Below.heap_alloc _ _ _ (by simp)).trans (MapKept.heap_alloc w _).1
 have hx1:((w.alloc (.cells (a.ev.cs a.cA a.cc a.fA a.fc) 40)).alloc (.cells (b.ev.cs b.cA b.cc b.fA b.fc) 40)).heap[w.heap.size+1]?=some (.cells (b.ev.cs b.cA b.cc b.fA b.fc) 40 (0,0)):=by
  have:=(MapKept.heap_alloc (w.alloc (.cells (a.ev.cs a.cA a.cc a.fA a.fc) 40)) (.cells (b.ev.cs b.cA b.cc b.fA b.fc) 40)).1
  simpa using this
 have HIn:=hid (ints16_any a.ev.files b.ev.files a.fA b.fA a.fc b.fc _ (ha.now hb0).ok.fi (hb.now hb0).ok.fi ha.ok.fl hb.ok.fl)
 have HB:=hid hb0
 have HE:Hid (a.ev=b.ev→(a.ev.kind==b.ev.kind)=true∧(a.ev.target==b.ev.target)=true∧(a.ev.quote==b.ev.quote)=true∧(a.ev.who==b.ev.who)=true∧(a.ev.n==b.ev.n)=true∧(a.ev.text.toList==b.ev.text.toList)=true∧(a.ev.files==b.ev.files)=true):=hid (fun h=>by rw [h];simp)
 have x3:=box_cell hx0 3 (.int .i64 a.ev.kind) rfl
 have x5:=box_cell hx0 5 (.int .i64 a.ev.target) rfl
 have x6:=box_cell hx0 6 (.int .i64 a.ev.quote) rfl
 have x7:=box_cell hx0 7 (.int .i64 a.ev.who) rfl
 have x8:=box_cell hx0 8 (.int .i64 a.ev.n) rfl
 have x9:=box_cell hx0 9 (.string a.ev.text) rfl
 have x10:=box_cell hx0 10 (.slice a.fA a.ev.files.length a.fc) rfl
 have y3:=box_cell hx1 3 (.int .i64 b.ev.kind) rfl
 have y5:=box_cell hx1 5 (.int .i64 b.ev.target) rfl
 have y6:=box_cell hx1 6 (.int .i64 b.ev.quote) rfl
 have y7:=box_cell hx1 7 (.int .i64 b.ev.who) rfl
 have y8:=box_cell hx1 8 (.int .i64 b.ev.n) rfl
 have y9:=box_cell hx1 9 (.string b.ev.text) rfl
 have y10:=box_cell hx1 10 (.slice b.fA b.ev.files.length b.fc) rfl
 clear ha hb hb0 hx0 hx1
 go_enter Tryz.func27,Tryz.ntmps27
 go_upto_region 1 with fail
 change Code.wp _ _ _ _ ((w.alloc (.cells (a.ev.cs a.cA a.cc a.fA a.fc) 40)).alloc (.cells (b.ev.cs b.cA b.cc b.fA b.fc) 40))
 obtain ⟨bz,hbz⟩:∃ y,y=w.heap.size:=⟨_,rfl⟩
 rw [← hbz] at x3 x5 x6 x7 x8 x9 x10 y3 y5 y6 y7 y8 y9 y10 ⊢
 clear hbz
 obtain ⟨w0,hw0⟩:∃ y,y=((w.alloc (.cells (a.ev.cs a.cA a.cc a.fA a.fc) 40)).alloc (.cells (b.ev.cs b.cA b.cc b.fA b.fc) 40)):=⟨_,rfl⟩
 rw [← hw0] at HB HIn x3 x5 x6 x7 x8 x9 x10 y3 y5 y6 y7 y8 y9 y10 ⊢
 clear hw0
 cases h3:(a.ev.kind==b.ev.kind)
 ·have hf:a.ev=b.ev→False:=fun h=>by have:=(HE.out h).1;rw [h3] at this;cases this
  have HN:=hid hf
  clear hf
  go_wp2_with fail
  go_ret
  exact ⟨false,rfl,fun h=>(HN.out h).elim,HB.out⟩
 cases h5:(a.ev.target==b.ev.target)
 ·have hf:a.ev=b.ev→False:=fun h=>by have:=(HE.out h).2.1;rw [h5] at this;cases this
  have HN:=hid hf
  clear hf
  go_wp2_with fail
  go_ret
  exact ⟨false,rfl,fun h=>(HN.out h).elim,HB.out⟩
 cases h6:(a.ev.quote==b.ev.quote)
 ·have hf:a.ev=b.ev→False:=fun h=>by have:=(HE.out h).2.2.1;rw [h6] at this;cases this
  have HN:=hid hf
  clear hf
  go_wp2_with fail
  go_ret
  exact ⟨false,rfl,fun h=>(HN.out h).elim,HB.out⟩
 cases h7:(a.ev.who==b.ev.who)
 ·have hf:a.ev=b.ev→False:=fun h=>by have:=(HE.out h).2.2.2.1;rw [h7] at this;cases this
  have HN:=hid hf
  clear hf
  go_wp2_with fail
  go_ret
  exact ⟨false,rfl,fun h=>(HN.out h).elim,HB.out⟩
 cases h8:(a.ev.n==b.ev.n)
 ·have hf:a.ev=b.ev→False:=fun h=>by have:=(HE.out h).2.2.2.2.1;rw [h8] at this;cases this
  have HN:=hid hf
  clear hf
  go_wp2_with fail
  go_ret
  exact ⟨false,rfl,fun h=>(HN.out h).elim,HB.out⟩
 cases h9:(a.ev.text.toList==b.ev.text.toList)
 ·have hf:a.ev=b.ev→False:=fun h=>by have:=(HE.out h).2.2.2.2.2.1;rw [h9] at this;cases this
  have HN:=hid hf
  clear hf
  go_wp2_with fail
  go_ret
  exact ⟨false,rfl,fun h=>(HN.out h).elim,HB.out⟩
 have HF:Hid (a.ev=b.ev→(a.ev.files==b.ev.files)=true):=hid (fun h=>(HE.out h).2.2.2.2.2.2)
 generalize (a.ev.files==b.ev.files)=fl at *
 go_wp2_with fail
 refine HIn.out.mono ?_
 rintro e1 w1 ⟨rfl,hb1⟩
 go_wp2_with fail
 go_ret
 exact ⟨fl,rfl,HF.out,HB.out.trans (hb1.mono HB.out.size)⟩
end Go.Proofs.YtlnnjdibkbabiaaGreatDoor
