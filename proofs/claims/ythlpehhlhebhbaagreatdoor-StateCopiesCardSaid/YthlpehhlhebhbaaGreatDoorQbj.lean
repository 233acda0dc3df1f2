/- Contracts and plain laws, joined: StS, StFw. -/
import Derived.Test.YthlpehhlhebhbaaGreatDoorQbd
import Derived.Test.YthlpehhlhebhbaaGreatDoorQbc
import Derived.Test.YthlpehhlhebhbaaGreatDoorQan
import Derived.Deep.CutBlock
import Derived.Deep.DeepCutAuto
/- Contracts of slices.EqualFunc at events and notes,state.Same,linguaref46.notes and Same (layer 46;written by genss.py). -/
set_option linter.unusedSimpArgs false
set_option linter.unusedVariables false
namespace Go.Proofs.YthlpehhlhebhbaaGreatDoor
set_option maxHeartbeats 8000000
open Lib (hid)
open Go.RowKit
set_option maxRecDepth 100000
structure FunQ {T:Type} (w:World) (f:FV) (xs ys:List T) (vx:T→Value) (R:T→T→Bool):Prop where
 ent:∀ args w',(callFunc f.n args).run Tryz.prog w'=.ok (.enter f.n args) w'
 run:∀ x∈xs,∀ y∈ys,∀ w',Below w.heap.size w w'→Calls Tryz.prog f.n (f.bnd++(#[vx x,vx y]++f.cap)) w' fun e w''=>e=.returned (.bool (R x y))∧Below w'.heap.size w' w''
section
variable {T P:Type} (π:T→P) {xs ys:List T} {k:Nat}
theorem eqm_step (hk:k<xs.length) (hk2:k<ys.length) (h:(xs.take k).map π=(ys.take k).map π) (he:π xs[k]=π ys[k]):(xs.take (k+1)).map π=(ys.take (k+1)).map π:=by
 rw [List.take_succ_eq_append_getElem hk,List.take_succ_eq_append_getElem hk2,List.map_append,List.map_append,h]
 simp [he]
theorem eqm_no (hk:k<xs.length) (hk2:k<ys.length) (he:π xs[k]≠π ys[k]):xs.map π≠ys.map π:=fun h=>he (by
 have h1:=congrArg (fun l=>l[k]?) h
 simpa [hk,hk2] using h1)
theorem eqm_len (hl:xs.length≠ys.length):xs.map π≠ys.map π:=fun h=>hl (by have:=congrArg List.length h;simpa using this)
theorem eqm_end (hl:xs.length=ys.length) (h:(xs.take xs.length).map π=(ys.take xs.length).map π):xs.map π=ys.map π:=by
 rw [List.take_length,hl,List.take_length] at h
 exact h
end
def EqOut {T P:Type} (π:T→P) (xs ys:List T) (w:World) (e:Ending) (w':World):Prop:=∃ v:Bool,e=.returned (.bool v)∧(v=true ↔ xs.map π=ys.map π)∧Below w.heap.size w w'
theorem range_below' {w w':World} {b o:Nat} {l:List Value} (h:w.rangeAt b o l) (hb:Below w.heap.size w w') (hl:b<w.heap.size):w'.rangeAt b o l:=fun j v hj=>(hb.cell (p:=⟨b,o+j,none⟩) hl).trans (h j v hj)
theorem eqfE_any (xs ys:List EvL) (R:EvL→EvL→Bool) (hR:∀ x y,R x y=true ↔ (fun x:EvL=>x.ev) x=(fun x:EvL=>x.ev) y) (f:FV) (A A2:Option Addr) (c c2:Nat) (w:World) (hr:RdL 12 EvL.cs w w.heap.size A xs) (hs:RdL 12 EvL.cs w w.heap.size A2 ys) (hx:xs.length≤9223372036854775807) (hy:ys.length≤9223372036854775807) (hf:FunQ w f xs ys EvL.v R) :
  Calls Tryz.prog 217 #[.slice A xs.length c,.slice A2 ys.length c2,.func (.func f.n) f.bnd f.cap] w (EqOut (fun x:EvL=>x.ev) xs ys w):=by
 have HR:=hid hr
 have HS:=hid hs
 have HF:=hid hf
 clear hr hs hf
 go_enter Tryz.func217,Tryz.ntmps217
 by_cases hlen:xs.length=ys.length
 ·have q:((xs.length:Int) != (ys.length:Int))=false:=by simp [hlen]
  have HLn:=hid hlen
  clear hlen
  go_wp2_with fail
  clear q
  go_loopw [7,8,9,17] (fun _ _ _ i wr=>∃ k:Nat,k≤xs.length∧i=.int .i64 k∧(xs.take k).map (fun x:EvL=>x.ev)=(ys.take k).map (fun x:EvL=>x.ev)∧Below w.heap.size w wr) (fun _ _ _ i _=>xs.length - (intOf i).toNat)
  case atStart=>exact ⟨0,Nat.zero_le _,rfl,rfl,Below.refl _ _⟩
  case round =>
   obtain ⟨k,hk,rfl,ha,hbw⟩:=hrel
   have HA:=hid ha
   have HB:=hid hbw
   clear ha
   by_cases hlt:k<xs.length
   ·have hlt2:k<ys.length:=by have:=HLn.out;omega
    obtain ⟨b,off,rfl,hb,hcc⟩:=(HR.out.now hbw).at_ hlt
    obtain ⟨b2,off2,rfl,hb2,hcc2⟩:=(HS.out.now hbw).at_ hlt2
    have HCx:Hid (wr.rangeAt b (off+k * 12) xs[k].cs):=hid (fun j v hj=>hcc j v hj)
    have HCy:Hid (wr.rangeAt b2 (off2+k * 12) ys[k].cs):=hid (fun j v hj=>hcc2 j v hj)
    have HSt:=hid (eqm_step (fun x:EvL=>x.ev) hlt hlt2 HA.out)
    have HNo:=hid (eqm_no (fun x:EvL=>x.ev) hlt hlt2)
    have HRun:=hid (HF.out.run xs[k] (List.getElem_mem hlt) ys[k] (List.getElem_mem hlt2))
    have HE:=hid HF.out.ent
    have HPi:=hid (hR xs[k] ys[k])
    have hl2:k<ys.length:=hlt2
    have hB2:b2<wr.heap.size:=hb2
    clear hcc hcc2
    generalize xs[k]=x at *
    generalize ys[k]=y at *
    go_upto_region 6 with (first
     | ((with_reducible show wpList _ _ _ (Oper.mk _ (Op.load 56 _) _ _ _ _::_) _ _);refine wpList_load_g rfl 56 (.tmp 20) rfl b (off+k * 12) rfl (x.ev.cs x.cA x.cc x.fA x.fc).toList _ HCx.out Tryz.underlying56 rfl (by kernel_rfl) ?_)
     | fail)
    change Code.wp _ _ _ _ (wr.alloc (.cells (x.ev.cs x.cA x.cc x.fA x.fc) 56))
    have hb1:Below wr.heap.size wr (wr.alloc (.cells (x.ev.cs x.cA x.cc x.fA x.fc) 56)):=(Below.refl _ _).alloc (Nat.le_refl _) _
    have hr1:(wr.alloc (.cells (x.ev.cs x.cA x.cc x.fA x.fc) 56)).heap[wr.heap.size]?=some (.cells (x.ev.cs x.cA x.cc x.fA x.fc) 56 (0,0)):=(MapKept.heap_alloc wr _).1
    have HB1:=hid hb1
    have HR1:=hid hr1
    have HCy:Hid ((wr.alloc (.cells (x.ev.cs x.cA x.cc x.fA x.fc) 56)).rangeAt b2 (off2+k * 12) (y.ev.cs y.cA y.cc y.fA y.fc).toList):=hid (range_below' HCy.out hb1 hB2)
    clear hb1 hr1
    generalize wr.alloc (.cells (x.ev.cs x.cA x.cc x.fA x.fc) 56)=wv at *
    go_upto_region 7 with (first
     | ((with_reducible show wpList _ _ _ (Oper.mk _ (Op.load 56 _) _ _ _ _::_) _ _);refine wpList_load_g rfl 56 (.tmp 24) rfl b2 (off2+k * 12) rfl (y.ev.cs y.cA y.cc y.fA y.fc).toList _ HCy.out Tryz.underlying56 rfl (by kernel_rfl) ?_)
     | fail)
    change Code.wp _ _ _ _ (wv.alloc (.cells (y.ev.cs y.cA y.cc y.fA y.fc) 56))
    have hb2':Below wv.heap.size wv (wv.alloc (.cells (y.ev.cs y.cA y.cc y.fA y.fc) 56)):=(Below.refl _ _).alloc (Nat.le_refl _) _
    have HRx:Hid ((wv.alloc (.cells (y.ev.cs y.cA y.cc y.fA y.fc) 56)).rangeAt wr.heap.size 0 (x.ev.cs x.cA x.cc x.fA x.fc).toList):=hid (range_block ((hb2'.block _ (box_lt HR1.out)).trans HR1.out) rfl)
    have HRy:Hid ((wv.alloc (.cells (y.ev.cs y.cA y.cc y.fA y.fc) 56)).rangeAt wv.heap.size 0 (y.ev.cs y.cA y.cc y.fA y.fc).toList):=hid (range_block (MapKept.heap_alloc wv _).1 rfl)
    have HB2:=hid (HB.out.trans ((HB1.out.trans (hb2'.mono HB1.out.size)).mono HB.out.size))
    clear hb2'
    generalize wv.alloc (.cells (y.ev.cs y.cA y.cc y.fA y.fc) 56)=wu at *
    go_wp2_with (first
     | ((with_reducible show wpList _ _ _ (Oper.mk _ (Op.load 56 (.tmp 8)) _ _ _ _::_) _ _);refine wpList_load_g rfl 56 (.tmp 8) rfl wr.heap.size 0 rfl (x.ev.cs x.cA x.cc x.fA x.fc).toList _ HRx.out Tryz.underlying56 rfl (by kernel_rfl) ?_)
     | ((with_reducible show wpList _ _ _ (Oper.mk _ (Op.load 56 (.tmp 9)) _ _ _ _::_) _ _);refine wpList_load_g rfl 56 (.tmp 9) rfl wv.heap.size 0 rfl (y.ev.cs y.cA y.cc y.fA y.fc).toList _ HRy.out Tryz.underlying56 rfl (by kernel_rfl) ?_)
     | fail)
    rw [HE.out,Oper.upon_enter]
    refine (HRun.out _ HB2.out).mono ?_
    rintro en w3 ⟨rfl,hb3⟩
    have HB3:=hid (HB2.out.trans (hb3.mono HB2.out.size))
    clear hb3 HRun
    generalize R x y=q at *
    cases q with
    | false =>
     have HG:=hid (HNo.out (fun h=>by have:=HPi.out.2 h;cases this))
     go_wp2_with fail
     go_ret
     exact ⟨false,rfl,⟨(fun h=>nomatch h),fun h=>absurd h HG.out⟩,HB3.out⟩
    | true =>
     have HG:=hid (HSt.out (HPi.out.1 rfl))
     go_wp2_with fail
     go_roundw
     case rel=>exact ⟨k+1,by omega,by go_num,HG.out,HB3.out⟩
     case measure=>simp [intOf];omega
   ·obtain rfl:k=xs.length:=by omega
    have HG:=hid (eqm_end (fun x:EvL=>x.ev) HLn.out HA.out)
    go_wp2_with fail
    go_ret
    exact ⟨true,rfl,⟨fun _=>HG.out,fun _=>rfl⟩,HB.out⟩
 ·have HG:=hid (eqm_len (fun x:EvL=>x.ev) hlen)
  have q:((xs.length:Int) != (ys.length:Int))=true:=by simp;omega
  clear hlen
  go_wp2_with fail
  go_ret
  exact ⟨false,rfl,⟨(fun h=>nomatch h),fun h=>absurd h HG.out⟩,Below.refl _ _⟩
theorem eqfN_any (xs ys:List NL) (R:NL→NL→Bool) (hR:∀ x y,R x y=true ↔ (fun x:NL=>x.l) x=(fun x:NL=>x.l) y) (f:FV) (A A2:Option Addr) (c c2:Nat) (w:World) (hr:RdL 1 NL.cs w w.heap.size A xs) (hs:RdL 1 NL.cs w w.heap.size A2 ys) (hx:xs.length≤9223372036854775807) (hy:ys.length≤9223372036854775807) (hf:FunQ w f xs ys NL.v R) :
  Calls Tryz.prog 218 #[.slice A xs.length c,.slice A2 ys.length c2,.func (.func f.n) f.bnd f.cap] w (EqOut (fun x:NL=>x.l) xs ys w):=by
 have HR:=hid hr
 have HS:=hid hs
 have HF:=hid hf
 clear hr hs hf
 go_enter Tryz.func218,Tryz.ntmps218
 by_cases hlen:xs.length=ys.length
 ·have q:((xs.length:Int) != (ys.length:Int))=false:=by simp [hlen]
  have HLn:=hid hlen
  clear hlen
  go_wp2_with fail
  clear q
  go_loopw [7,8,9,17] (fun _ _ _ i wr=>∃ k:Nat,k≤xs.length∧i=.int .i64 k∧(xs.take k).map (fun x:NL=>x.l)=(ys.take k).map (fun x:NL=>x.l)∧Below w.heap.size w wr) (fun _ _ _ i _=>xs.length - (intOf i).toNat)
  case atStart=>exact ⟨0,Nat.zero_le _,rfl,rfl,Below.refl _ _⟩
  case round =>
   obtain ⟨k,hk,rfl,ha,hbw⟩:=hrel
   have HA:=hid ha
   have HB:=hid hbw
   clear ha
   by_cases hlt:k<xs.length
   ·have hlt2:k<ys.length:=by have:=HLn.out;omega
    obtain ⟨b,off,rfl,hb,c0⟩:=rdNL (HR.out.now hbw) hlt
    obtain ⟨b2,off2,rfl,hb2,d0⟩:=rdNL (HS.out.now hbw) hlt2
    have HSt:=hid (eqm_step (fun x:NL=>x.l) hlt hlt2 HA.out)
    have HNo:=hid (eqm_no (fun x:NL=>x.l) hlt hlt2)
    have HRun:=hid (HF.out.run xs[k] (List.getElem_mem hlt) ys[k] (List.getElem_mem hlt2))
    have HE:=hid HF.out.ent
    have HPi:=hid (hR xs[k] ys[k])
    have hl2:k<ys.length:=hlt2
    generalize xs[k]=x at *
    generalize ys[k]=y at *
    go_wp2_with fail
    rw [HE.out,Oper.upon_enter]
    refine (HRun.out _ HB.out).mono ?_
    rintro en w3 ⟨rfl,hb3⟩
    have HB3:=hid (HB.out.trans (hb3.mono HB.out.size))
    clear hb3 HRun
    generalize R x y=q at *
    cases q with
    | false =>
     have HG:=hid (HNo.out (fun h=>by have:=HPi.out.2 h;cases this))
     go_wp2_with fail
     go_ret
     exact ⟨false,rfl,⟨(fun h=>nomatch h),fun h=>absurd h HG.out⟩,HB3.out⟩
    | true =>
     have HG:=hid (HSt.out (HPi.out.1 rfl))
     go_wp2_with fail
     go_roundw
     case rel=>exact ⟨k+1,by omega,by go_num,HG.out,HB3.out⟩
     case measure=>simp [intOf];omega
   ·obtain rfl:k=xs.length:=by omega
    have HG:=hid (eqm_end (fun x:NL=>x.l) HLn.out HA.out)
    go_wp2_with fail
    go_ret
    exact ⟨true,rfl,⟨fun _=>HG.out,fun _=>rfl⟩,HB.out⟩
 ·have HG:=hid (eqm_len (fun x:NL=>x.l) hlen)
  have q:((xs.length:Int) != (ys.length:Int))=true:=by simp;omega
  clear hlen
  go_wp2_with fail
  go_ret
  exact ⟨false,rfl,⟨(fun h=>nomatch h),fun h=>absurd h HG.out⟩,Below.refl _ _⟩
abbrev NosOk (w:World) (xs:List NL):Prop:=∀ x∈xs,RdL 5 E5.cs w w.heap.size x.A x.l∧x.l.length≤9223372036854775807∧x.l.length≤x.c
theorem NosOk.now {w w':World} {xs:List NL} (h:NosOk w xs) (hb:Below w.heap.size w w'):NosOk w' xs:=fun x hx=>⟨(h x hx).1.now hb,(h x hx).2⟩
theorem stSameE_any (xs ys:List EvL) (A A2:Option Addr) (c c2:Nat) (w:World) (hr:RdL 12 EvL.cs w w.heap.size A xs) (hs:RdL 12 EvL.cs w w.heap.size A2 ys) (hx:xs.length≤9223372036854775807) (hy:ys.length≤9223372036854775807) (ho:∀ x∈xs,EvLOk w w.heap.size x) (ho2:∀ x∈ys,EvLOk w w.heap.size x) :
  Calls Tryz.prog 126 #[.slice A xs.length c,.slice A2 ys.length c2,.func (.func 19) #[] #[]] w (EqOut (fun x:EvL=>x.ev) xs ys w):=by
 have HC:=hid (eqfE_any xs ys (fun x y=>sameE x.ev y.ev) (fun x y=>sameE_iff x.ev y.ev) ⟨19,#[],#[]⟩ A A2 c c2 w hr hs hx hy ⟨fun args w'=>enter_fn Tryz.func19 (by kernel_rfl) rfl args w',fun x hx y hy w2 h2 =>
  evSame_any x.ev y.ev x.cA x.cc x.fA x.fc y.cA y.cc y.fA y.fc w2 ((ho x hx).now h2).ok ((ho2 y hy).now h2).ok⟩)
 clear hr hs ho ho2
 go_enter Tryz.func126,Tryz.ntmps126
 go_wp2_with fail
 refine HC.out.mono ?_
 rintro e w1 ⟨v,rfl,hv,hb⟩
 have HB:=hid hb
 have HV:=hid hv
 clear hb hv
 go_wp2_with fail
 go_ret
 exact ⟨v,rfl,HV.out,HB.out⟩
theorem stSame1_any (x y:NL) (w:World) (hx:RdL 5 E5.cs w w.heap.size x.A x.l∧x.l.length≤9223372036854775807∧x.l.length≤x.c) (hy:RdL 5 E5.cs w w.heap.size y.A y.l∧y.l.length≤9223372036854775807∧y.l.length≤y.c) :
  Calls Tryz.prog 133 #[x.v,y.v] w fun e w'=>e=.returned (.bool (decide (x.l=y.l)))∧Below w.heap.size w w':=by
 have HC:=hid (pNote_any x.l y.l x.A y.A x.c y.c w hx.1 hy.1 hx.2.1 hy.2.1)
 clear hx hy
 generalize decide (x.l=y.l)=q at HC ⊢
 go_enter Tryz.func133,Tryz.ntmps133
 go_wp2_with fail
 refine HC.out.mono ?_
 rintro e w1 ⟨rfl,hb⟩
 have HB:=hid hb
 clear hb
 go_wp2_with fail
 go_ret
 exact ⟨rfl,HB.out⟩
theorem stSameN_any (xs ys:List NL) (A A2:Option Addr) (c c2:Nat) (w:World) (hr:RdL 1 NL.cs w w.heap.size A xs) (hs:RdL 1 NL.cs w w.heap.size A2 ys) (hx:xs.length≤9223372036854775807) (hy:ys.length≤9223372036854775807) (ho:NosOk w xs) (ho2:NosOk w ys) :
  Calls Tryz.prog 132 #[.slice A xs.length c,.slice A2 ys.length c2,.func (.func 133) #[] #[]] w (EqOut (fun x:NL=>x.l) xs ys w):=by
 have HC:=hid (eqfN_any xs ys (fun x y=>decide (x.l=y.l)) (fun x y=>decide_eq_true_iff) ⟨133,#[],#[]⟩ A A2 c c2 w hr hs hx hy ⟨fun args w'=>enter_fn Tryz.func133 (by kernel_rfl) rfl args w',fun x hx y hy w2 h2 =>
  stSame1_any x y w2 ((ho.now h2) x hx) ((ho2.now h2) y hy)⟩)
 clear hr hs ho ho2
 go_enter Tryz.func132,Tryz.ntmps132
 go_wp2_with fail
 refine HC.out.mono ?_
 rintro e w1 ⟨v,rfl,hv,hb⟩
 have HB:=hid hb
 have HV:=hid hv
 clear hb hv
 go_wp2_with fail
 go_ret
 exact ⟨v,rfl,HV.out,HB.out⟩
theorem rsNotes_any (xs ys:List NL) (A A2:Option Addr) (c c2:Nat) (w:World) (hr:RdL 1 NL.cs w w.heap.size A xs) (hs:RdL 1 NL.cs w w.heap.size A2 ys) (hx:xs.length≤9223372036854775807) (hy:ys.length≤9223372036854775807) (ho:NosOk w xs) (ho2:NosOk w ys) :
  Calls Tryz.prog 68 #[.slice A xs.length c,.slice A2 ys.length c2] w (EqOut (fun x:NL=>x.l) xs ys w):=by
 have HR:=hid hr
 have HS:=hid hs
 have HO:=hid ho
 have HO2:=hid ho2
 clear hr hs ho ho2
 go_enter Tryz.func68,Tryz.ntmps68
 by_cases hlen:xs.length=ys.length
 ·have q:((xs.length:Int) != (ys.length:Int))=false:=by simp [hlen]
  have HLn:=hid hlen
  clear hlen
  go_wp2_with fail
  clear q
  go_loopw [5] (fun i wr=>∃ k:Nat,k≤xs.length∧i=.int .i64 k∧(xs.take k).map (fun x:NL=>x.l)=(ys.take k).map (fun x:NL=>x.l)∧Below w.heap.size w wr) (fun i _=>xs.length - (intOf i).toNat)
  case atStart=>exact ⟨0,Nat.zero_le _,rfl,rfl,Below.refl _ _⟩
  case round =>
   obtain ⟨k,hk,rfl,ha,hbw⟩:=hrel
   have HA:=hid ha
   have HB:=hid hbw
   clear ha
   by_cases hlt:k<xs.length
   ·have hlt2:k<ys.length:=by have:=HLn.out;omega
    obtain ⟨b,off,rfl,hb,c0⟩:=rdNL (HR.out.now hbw) hlt
    obtain ⟨b2,off2,rfl,hb2,d0⟩:=rdNL (HS.out.now hbw) hlt2
    have HSt:=hid (eqm_step (fun x:NL=>x.l) hlt hlt2 HA.out)
    have HNo:=hid (eqm_no (fun x:NL=>x.l) hlt hlt2)
    have HX:=hid (HO.out xs[k] (List.getElem_mem hlt))
    have HY:=hid (HO2.out ys[k] (List.getElem_mem hlt2))
    have HC:=hid c0
    have HD:=hid d0
    have Hb:=hid hb
    have Hb2:=hid hb2
    have hl2:k<ys.length:=hlt2
    generalize xs[k]=x at *
    generalize ys[k]=y at *
    have HCl:Hid (∀ wq,Below wr.heap.size wr wq→Calls Tryz.prog 172 #[.slice x.A x.l.length x.c,.slice y.A y.l.length y.c] wq fun e w'=>e=.returned (.bool (decide (x.l=y.l)))∧Below wq.heap.size wq w'):=hid (fun wq h=>by
     have h1:=HB.out.trans (h.mono HB.out.size)
     exact qNote_any x.l y.l x.A y.A x.c y.c wq (HX.out.1.now h1) (HY.out.1.now h1) HX.out.2.1 HY.out.2.1)
    have HPi:Hid (decide (x.l=y.l)=true ↔ x.l=y.l):=hid decide_eq_true_iff
    clear c0 d0 hbw
    generalize decide (x.l=y.l)=qq at *
    go_wp2_with fail
    refine wp_region_det (S:=Below wr.heap.size wr) (by kernel_rfl) (by kernel_rfl) ((Below.refl _ _).drew) ?_
    rw [List.toList_toArray]
    repeat (first
      | ((with_reducible show Det _ _ _ _ (Oper.mk _ (Op.call (Call.mk (Callee.value (Operand.func 172)) _ _)) _ _ _ _::_) _);refine Det.step (.bool qq) (by rfl) (fun wq hSq K hK=>?_) ?_;(· (go_simp;refine (HCl.out _ hSq).mono ?_;rintro e4 w4 ⟨rfl,hb4⟩;go_wp2_with fail;refine hK.out _ _ (hSq.trans (hb4.mono hSq.size)) ?_;first | rfl | (simp [Act.put];done)));simp only [Act.put,sA,sB,sC,sD,sE,sF])
      | (refine Det.skip (by rfl) ?_;simp only [Act.put,sA,sB,sC,sD,sE,sF])
      | (refine Det.read (v:=?_) (by rfl) ?_ ?_;rotate_left;(· (intro wq hSq;have c0:=(hSq.cell (p:=⟨b,off+k,none⟩) Hb.out).trans HC.out;have d0:=(hSq.cell (p:=⟨b2,off2+k,none⟩) Hb2.out).trans HD.out;go_simp;try with_reducible rfl));simp only [Act.put,sA,sB,sC,sD,sE,sF])
      | fail)
    refine Det.done fun wz hz=>?_
    have HB3:=hid (HB.out.trans (hz.mono HB.out.size))
    clear hz
    cases qq with
    | false =>
     have HG:=hid (HNo.out (fun h=>by have:=HPi.out.2 h;cases this))
     go_wp2_with fail
     go_ret
     exact ⟨false,rfl,⟨(fun h=>nomatch h),fun h=>absurd h HG.out⟩,HB3.out⟩
    | true =>
     have HG:=hid (HSt.out (HPi.out.1 rfl))
     go_wp2_with fail
     go_roundw
     case rel=>exact ⟨k+1,by omega,by go_num,HG.out,HB3.out⟩
     case measure=>simp [intOf];omega
   ·obtain rfl:k=xs.length:=by omega
    have HG:=hid (eqm_end (fun x:NL=>x.l) HLn.out HA.out)
    go_wp2_with fail
    go_ret
    exact ⟨true,rfl,⟨fun _=>HG.out,fun _=>rfl⟩,HB.out⟩
 ·have HG:=hid (eqm_len (fun x:NL=>x.l) hlen)
  have q:((xs.length:Int) != (ys.length:Int))=true:=by simp;omega
  clear hlen
  go_wp2_with fail
  go_ret
  exact ⟨false,rfl,⟨(fun h=>nomatch h),fun h=>absurd h HG.out⟩,Below.refl _ _⟩
def CutQ (P:Prop) (v:Value):Prop:=∃ q:Bool,v=.bool q∧(q=true ↔ P)
def SameSt (s t:Stt) (w:World) (e:Ending) (w':World):Prop:=∃ v:Bool,e=.returned (.bool v)∧(v=true ↔ s.pl=t.pl)∧Below w.heap.size w w'
theorem stSame_any (s t:Stt) (a c:StAd) (w:World) (hs:StOk w w.heap.size s a) (ht:StOk w w.heap.size t c):Calls Tryz.prog 17 #[s.v a,t.v c] w (SameSt s t w):=by
 have hb0:Below w.heap.size w ((w.alloc (.cells (s.arr a) 34)).alloc (.cells (t.arr c) 34)):=by repeat (first | with_reducible exact Below.refl _ _ | with_reducible assumption | with_reducible refine Below.drew ?_ | with_reducible refine Below.alloc ?_ (by first | omega | (simp;done) | (simp;omega)) _)
 have HX:Hid (StBox w.heap.size s a ((w.alloc (.cells (s.arr a) 34)).alloc (.cells (t.arr c) 34))):=hid (StBox.now (show StBox w.heap.size s a (w.alloc (.cells (s.arr a) 34)) from (MapKept.heap_alloc w _).1) ((Below.refl _ _).alloc (Nat.le_refl _) _))
 have HY:Hid (StBox (w.heap.size+1) t c ((w.alloc (.cells (s.arr a) 34)).alloc (.cells (t.arr c) 34))):=hid (by
  have:=(MapKept.heap_alloc (w.alloc (.cells (s.arr a) 34)) (.cells (t.arr c) 34)).1
  simpa [StBox] using this)
 have HS:=hid (hs.now hb0)
 have HT:=hid (ht.now hb0)
 have HB:=hid hb0
 clear hb0 hs ht
 go_enter Tryz.func17,Tryz.ntmps17
 go_upto_region 1 with fail
 generalize (w.alloc (.cells (s.arr a) 34)).alloc (.cells (t.arr c) 34)=w0 at *
 obtain ⟨by_,hby⟩:∃ x,x=w.heap.size+1:=⟨_,rfl⟩
 obtain ⟨bx,hbx⟩:∃ x,x=w.heap.size:=⟨_,rfl⟩
 rw [← hby] at HY ⊢
 rw [← hbx] at HX ⊢
 clear hby hbx
 have HC:=hid (Below.refl w0.heap.size w0)
 go_cut [5] (fun v wx=>CutQ (s.step=t.step∧(s.events.map (fun x:EvL=>x.ev)=t.events.map (fun x:EvL=>x.ev))∧(s.queue=t.queue)∧(s.sent=t.sent)∧(s.refused=t.refused)) v∧Below w0.heap.size w0 wx)
 case first =>
  have zx:=HX.out.st
  have zy:=HY.out.st
  obtain ⟨q0,hq0⟩:∃ q,q=(s.step==t.step):=⟨_,rfl⟩
  have HQ0:Hid (q0=true ↔ s.step=t.step):=hid (by rw [hq0];exact beq_iff_eq)
  cases q0
  ·have hq:=hq0.symm
   clear hq0
   have HN:Hid (¬ s.step=t.step):=hid (fun h=>nomatch HQ0.out.2 h)
   go_wp2_with fail
   go_meet
   exact ⟨⟨false,rfl,⟨(fun h=>nomatch h),fun h=>absurd (h.1) HN.out⟩⟩,HC.out⟩
  have hq:=hq0.symm
  clear hq0
  have HZ0:Hid (s.step=t.step):=hid (HQ0.out.1 rfl)
  clear HQ0
  have zx:=HX.out.ke
  have zy:=HY.out.ke
  go_wp2_with fail
  clear zx zy
  clear hq
  refine (stSameE_any s.events t.events a.ke.1 c.ke.1 a.ke.2 c.ke.2 w0 HS.out.ke HT.out.ke HS.out.lke HT.out.lke HS.out.evs HT.out.evs).mono ?_
  rintro e x1 ⟨q1,rfl,hq1,hb⟩
  have HQ1:=hid hq1
  clear hq1
  have HS:=hid (HS.out.now hb)
  have HT:=hid (HT.out.now hb)
  have HX:=hid (HX.out.now hb)
  have HY:=hid (HY.out.now hb)
  have HB:=hid (HB.out.trans (hb.mono HB.out.size))
  have HC:=hid (HC.out.trans (hb.mono HC.out.size))
  clear hb
  cases q1
  ·have HN:Hid (¬ (s.events.map (fun x:EvL=>x.ev)=t.events.map (fun x:EvL=>x.ev))):=hid (fun h=>nomatch HQ1.out.2 h)
   go_wp2_with fail
   go_meet
   exact ⟨⟨false,rfl,⟨(fun h=>nomatch h),fun h=>absurd (h.2.1) HN.out⟩⟩,HC.out⟩
  have HZ1:Hid (s.events.map (fun x:EvL=>x.ev)=t.events.map (fun x:EvL=>x.ev)):=hid (HQ1.out.1 rfl)
  clear HQ1
  have zx:=HX.out.kq
  have zy:=HY.out.kq
  go_wp2_with fail
  clear zx zy
  refine (pWaiting_any s.queue t.queue a.kq.1 c.kq.1 a.kq.2 c.kq.2 x1 HS.out.kq HT.out.kq HS.out.lkq HT.out.lkq).mono ?_
  rintro e x2 ⟨rfl,hb⟩
  have HQ2:Hid (decide (s.queue=t.queue)=true ↔ s.queue=t.queue):=hid decide_eq_true_iff
  generalize decide (s.queue=t.queue)=q2 at *
  have HS:=hid (HS.out.now hb)
  have HT:=hid (HT.out.now hb)
  have HX:=hid (HX.out.now hb)
  have HY:=hid (HY.out.now hb)
  have HB:=hid (HB.out.trans (hb.mono HB.out.size))
  have HC:=hid (HC.out.trans (hb.mono HC.out.size))
  clear hb
  cases q2
  ·have HN:Hid (¬ (s.queue=t.queue)):=hid (fun h=>nomatch HQ2.out.2 h)
   go_wp2_with fail
   go_meet
   exact ⟨⟨false,rfl,⟨(fun h=>nomatch h),fun h=>absurd (h.2.2.1) HN.out⟩⟩,HC.out⟩
  have HZ2:Hid (s.queue=t.queue):=hid (HQ2.out.1 rfl)
  clear HQ2
  have zx:=HX.out.ks
  have zy:=HY.out.ks
  go_wp2_with fail
  clear zx zy
  refine (pSent_any s.sent t.sent a.ks.1 c.ks.1 a.ks.2 c.ks.2 x2 HS.out.ks HT.out.ks HS.out.lks HT.out.lks).mono ?_
  rintro e x3 ⟨rfl,hb⟩
  have HQ3:Hid (decide (s.sent=t.sent)=true ↔ s.sent=t.sent):=hid decide_eq_true_iff
  generalize decide (s.sent=t.sent)=q3 at *
  have HS:=hid (HS.out.now hb)
  have HT:=hid (HT.out.now hb)
  have HX:=hid (HX.out.now hb)
  have HY:=hid (HY.out.now hb)
  have HB:=hid (HB.out.trans (hb.mono HB.out.size))
  have HC:=hid (HC.out.trans (hb.mono HC.out.size))
  clear hb
  cases q3
  ·have HN:Hid (¬ (s.sent=t.sent)):=hid (fun h=>nomatch HQ3.out.2 h)
   go_wp2_with fail
   go_meet
   exact ⟨⟨false,rfl,⟨(fun h=>nomatch h),fun h=>absurd (h.2.2.2.1) HN.out⟩⟩,HC.out⟩
  have HZ3:Hid (s.sent=t.sent):=hid (HQ3.out.1 rfl)
  clear HQ3
  have zx:=HX.out.kr
  have zy:=HY.out.kr
  go_wp2_with fail
  clear zx zy
  refine (pDebt_any s.refused t.refused a.kr.1 c.kr.1 a.kr.2 c.kr.2 x3 HS.out.kr HT.out.kr HS.out.lkr HT.out.lkr).mono ?_
  rintro e x4 ⟨rfl,hb⟩
  have HQ4:Hid (decide (s.refused=t.refused)=true ↔ s.refused=t.refused):=hid decide_eq_true_iff
  generalize decide (s.refused=t.refused)=q4 at *
  have HS:=hid (HS.out.now hb)
  have HT:=hid (HT.out.now hb)
  have HX:=hid (HX.out.now hb)
  have HY:=hid (HY.out.now hb)
  have HB:=hid (HB.out.trans (hb.mono HB.out.size))
  have HC:=hid (HC.out.trans (hb.mono HC.out.size))
  clear hb
  cases q4
  ·have HN:Hid (¬ (s.refused=t.refused)):=hid (fun h=>nomatch HQ4.out.2 h)
   go_wp2_with fail
   go_meet
   exact ⟨⟨false,rfl,⟨(fun h=>nomatch h),fun h=>absurd (h.2.2.2.2) HN.out⟩⟩,HC.out⟩
  have HZ4:Hid (s.refused=t.refused):=hid (HQ4.out.1 rfl)
  clear HQ4
  go_wp2_with fail
  go_meet
  exact ⟨⟨true,rfl,⟨fun _=>⟨HZ0.out,HZ1.out,HZ2.out,HZ3.out,HZ4.out⟩,fun _=>rfl⟩⟩,HC.out⟩
 obtain ⟨⟨p0,rfl,hp0⟩,hbc⟩:=hcut
 have HP0:=hid hp0
 have HS:=hid (HS.out.now hbc)
 have HT:=hid (HT.out.now hbc)
 have HX:=hid (HX.out.now hbc)
 have HY:=hid (HY.out.now hbc)
 have HB:=hid (HB.out.trans (hbc.mono HB.out.size))
 clear hbc hp0 HC
 generalize wc=wc0 at *
 have HC:=hid (Below.refl wc0.heap.size wc0)
 go_upto_region 2 with fail
 go_cut [6] (fun v wx=>CutQ ((s.pairs=t.pairs)∧(s.proofs=t.proofs)∧(s.notes.map (fun x:NL=>x.l)=t.notes.map (fun x:NL=>x.l))) v∧Below wc0.heap.size wc0 wx)
 case first =>
  have zx:=HX.out.kp
  have zy:=HY.out.kp
  go_wp2_with fail
  clear zx zy
  refine (pPair_any s.pairs t.pairs a.kp.1 c.kp.1 a.kp.2 c.kp.2 wc0 HS.out.kp HT.out.kp HS.out.lkp HT.out.lkp).mono ?_
  rintro e x5 ⟨rfl,hb⟩
  have HQ5:Hid (decide (s.pairs=t.pairs)=true ↔ s.pairs=t.pairs):=hid decide_eq_true_iff
  generalize decide (s.pairs=t.pairs)=q5 at *
  have HS:=hid (HS.out.now hb)
  have HT:=hid (HT.out.now hb)
  have HX:=hid (HX.out.now hb)
  have HY:=hid (HY.out.now hb)
  have HB:=hid (HB.out.trans (hb.mono HB.out.size))
  have HC:=hid (HC.out.trans (hb.mono HC.out.size))
  clear hb
  cases q5
  ·have HN:Hid (¬ (s.pairs=t.pairs)):=hid (fun h=>nomatch HQ5.out.2 h)
   go_wp2_with fail
   go_meet
   exact ⟨⟨false,rfl,⟨(fun h=>nomatch h),fun h=>absurd (h.1) HN.out⟩⟩,HC.out⟩
  have HZ5:Hid (s.pairs=t.pairs):=hid (HQ5.out.1 rfl)
  clear HQ5
  have zx:=HX.out.kf
  have zy:=HY.out.kf
  go_wp2_with fail
  clear zx zy
  refine (pProof_any s.proofs t.proofs a.kf.1 c.kf.1 a.kf.2 c.kf.2 x5 HS.out.kf HT.out.kf HS.out.lkf HT.out.lkf).mono ?_
  rintro e x6 ⟨rfl,hb⟩
  have HQ6:Hid (decide (s.proofs=t.proofs)=true ↔ s.proofs=t.proofs):=hid decide_eq_true_iff
  generalize decide (s.proofs=t.proofs)=q6 at *
  have HS:=hid (HS.out.now hb)
  have HT:=hid (HT.out.now hb)
  have HX:=hid (HX.out.now hb)
  have HY:=hid (HY.out.now hb)
  have HB:=hid (HB.out.trans (hb.mono HB.out.size))
  have HC:=hid (HC.out.trans (hb.mono HC.out.size))
  clear hb
  cases q6
  ·have HN:Hid (¬ (s.proofs=t.proofs)):=hid (fun h=>nomatch HQ6.out.2 h)
   go_wp2_with fail
   go_meet
   exact ⟨⟨false,rfl,⟨(fun h=>nomatch h),fun h=>absurd (h.2.1) HN.out⟩⟩,HC.out⟩
  have HZ6:Hid (s.proofs=t.proofs):=hid (HQ6.out.1 rfl)
  clear HQ6
  have zx:=HX.out.kn
  have zy:=HY.out.kn
  go_wp2_with fail
  clear zx zy
  refine (stSameN_any s.notes t.notes a.kn.1 c.kn.1 a.kn.2 c.kn.2 x6 HS.out.kn HT.out.kn HS.out.lkn HT.out.lkn HS.out.nos HT.out.nos).mono ?_
  rintro e x7 ⟨q7,rfl,hq7,hb⟩
  have HQ7:=hid hq7
  clear hq7
  have HS:=hid (HS.out.now hb)
  have HT:=hid (HT.out.now hb)
  have HX:=hid (HX.out.now hb)
  have HY:=hid (HY.out.now hb)
  have HB:=hid (HB.out.trans (hb.mono HB.out.size))
  have HC:=hid (HC.out.trans (hb.mono HC.out.size))
  clear hb
  cases q7
  ·have HN:Hid (¬ (s.notes.map (fun x:NL=>x.l)=t.notes.map (fun x:NL=>x.l))):=hid (fun h=>nomatch HQ7.out.2 h)
   go_wp2_with fail
   go_meet
   exact ⟨⟨false,rfl,⟨(fun h=>nomatch h),fun h=>absurd (h.2.2) HN.out⟩⟩,HC.out⟩
  have HZ7:Hid (s.notes.map (fun x:NL=>x.l)=t.notes.map (fun x:NL=>x.l)):=hid (HQ7.out.1 rfl)
  clear HQ7
  go_wp2_with fail
  go_meet
  exact ⟨⟨true,rfl,⟨fun _=>⟨HZ5.out,HZ6.out,HZ7.out⟩,fun _=>rfl⟩⟩,HC.out⟩
 obtain ⟨⟨p1,rfl,hp1⟩,hbc⟩:=hcut
 have HP1:=hid hp1
 have HS:=hid (HS.out.now hbc)
 have HT:=hid (HT.out.now hbc)
 have HX:=hid (HX.out.now hbc)
 have HY:=hid (HY.out.now hbc)
 have HB:=hid (HB.out.trans (hbc.mono HB.out.size))
 clear hbc hp1 HC
 generalize wc=wc1 at *
 have HC:=hid (Below.refl wc1.heap.size wc1)
 have HEx:Hid (s.pl=t.pl ↔ (s.step=t.step∧(s.events.map (fun x:EvL=>x.ev)=t.events.map (fun x:EvL=>x.ev))∧(s.queue=t.queue)∧(s.sent=t.sent)∧(s.refused=t.refused))∧((s.pairs=t.pairs)∧(s.proofs=t.proofs)∧(s.notes.map (fun x:NL=>x.l)=t.notes.map (fun x:NL=>x.l)))∧((s.bad=t.bad)∧(s.holds=t.holds)∧(s.orders=t.orders)∧(s.sealed=t.sealed)∧(s.debts=t.debts))):=hid ⟨fun h=>⟨⟨congrArg StP.step h,congrArg StP.events h,congrArg StP.queue h,congrArg StP.sent h,congrArg StP.refused h⟩,⟨congrArg StP.pairs h,congrArg StP.proofs h,congrArg StP.notes h⟩,⟨congrArg StP.bad h,congrArg StP.holds h,congrArg StP.orders h,congrArg StP.sealed h,congrArg StP.debts h⟩⟩,fun h=>by
  obtain ⟨⟨hstep,hevents,hqueue,hsent,hrefused⟩,⟨hpairs,hproofs,hnotes⟩,hbad,hholds,horders,hsealed,hdebts⟩:=h
  unfold Stt.pl evsL
  rw [hstep,hevents,hqueue,hsent,hrefused,hpairs,hproofs,hnotes,hbad,hholds,horders,hsealed,hdebts]⟩
 cases p0
 ·have HN:Hid (¬ (s.step=t.step∧(s.events.map (fun x:EvL=>x.ev)=t.events.map (fun x:EvL=>x.ev))∧(s.queue=t.queue)∧(s.sent=t.sent)∧(s.refused=t.refused))):=hid (fun h=>nomatch HP0.out.2 h)
  go_wp2_with fail
  go_ret
  exact ⟨false,rfl,⟨(fun h=>nomatch h),fun h=>absurd ((HEx.out.1 h).1) HN.out⟩,HB.out⟩
 have HZP0:Hid (s.step=t.step∧(s.events.map (fun x:EvL=>x.ev)=t.events.map (fun x:EvL=>x.ev))∧(s.queue=t.queue)∧(s.sent=t.sent)∧(s.refused=t.refused)):=hid (HP0.out.1 rfl)
 clear HP0
 cases p1
 ·have HN:Hid (¬ ((s.pairs=t.pairs)∧(s.proofs=t.proofs)∧(s.notes.map (fun x:NL=>x.l)=t.notes.map (fun x:NL=>x.l)))):=hid (fun h=>nomatch HP1.out.2 h)
  go_wp2_with fail
  go_ret
  exact ⟨false,rfl,⟨(fun h=>nomatch h),fun h=>absurd ((HEx.out.1 h).2.1) HN.out⟩,HB.out⟩
 have HZP1:Hid ((s.pairs=t.pairs)∧(s.proofs=t.proofs)∧(s.notes.map (fun x:NL=>x.l)=t.notes.map (fun x:NL=>x.l))):=hid (HP1.out.1 rfl)
 clear HP1
 have zx:=HX.out.kb
 have zy:=HY.out.kb
 go_wp2_with fail
 clear zx zy
 refine (pVerdict_any s.bad t.bad a.kb.1 c.kb.1 a.kb.2 c.kb.2 wc1 HS.out.kb HT.out.kb HS.out.lkb HT.out.lkb).mono ?_
 rintro e x8 ⟨rfl,hb⟩
 have HQ8:Hid (decide (s.bad=t.bad)=true ↔ s.bad=t.bad):=hid decide_eq_true_iff
 generalize decide (s.bad=t.bad)=q8 at *
 have HS:=hid (HS.out.now hb)
 have HT:=hid (HT.out.now hb)
 have HX:=hid (HX.out.now hb)
 have HY:=hid (HY.out.now hb)
 have HB:=hid (HB.out.trans (hb.mono HB.out.size))
 have HC:=hid (HC.out.trans (hb.mono HC.out.size))
 clear hb
 cases q8
 ·have HN:Hid (¬ (s.bad=t.bad)):=hid (fun h=>nomatch HQ8.out.2 h)
  go_wp2_with fail
  go_ret
  exact ⟨false,rfl,⟨(fun h=>nomatch h),fun h=>absurd ((HEx.out.1 h).2.2.1) HN.out⟩,HB.out⟩
 have HZ8:Hid (s.bad=t.bad):=hid (HQ8.out.1 rfl)
 clear HQ8
 have zx:=HX.out.kh
 have zy:=HY.out.kh
 go_wp2_with fail
 clear zx zy
 refine (pHold_any s.holds t.holds a.kh.1 c.kh.1 a.kh.2 c.kh.2 x8 HS.out.kh HT.out.kh HS.out.lkh HT.out.lkh).mono ?_
 rintro e x9 ⟨rfl,hb⟩
 have HQ9:Hid (decide (s.holds=t.holds)=true ↔ s.holds=t.holds):=hid decide_eq_true_iff
 generalize decide (s.holds=t.holds)=q9 at *
 have HS:=hid (HS.out.now hb)
 have HT:=hid (HT.out.now hb)
 have HX:=hid (HX.out.now hb)
 have HY:=hid (HY.out.now hb)
 have HB:=hid (HB.out.trans (hb.mono HB.out.size))
 have HC:=hid (HC.out.trans (hb.mono HC.out.size))
 clear hb
 cases q9
 ·have HN:Hid (¬ (s.holds=t.holds)):=hid (fun h=>nomatch HQ9.out.2 h)
  go_wp2_with fail
  go_ret
  exact ⟨false,rfl,⟨(fun h=>nomatch h),fun h=>absurd ((HEx.out.1 h).2.2.2.1) HN.out⟩,HB.out⟩
 have HZ9:Hid (s.holds=t.holds):=hid (HQ9.out.1 rfl)
 clear HQ9
 have zx:=HX.out.ko
 have zy:=HY.out.ko
 go_wp2_with fail
 clear zx zy
 refine (pOrder_any s.orders t.orders a.ko.1 c.ko.1 a.ko.2 c.ko.2 x9 HS.out.ko HT.out.ko HS.out.lko HT.out.lko).mono ?_
 rintro e x10 ⟨rfl,hb⟩
 have HQ10:Hid (decide (s.orders=t.orders)=true ↔ s.orders=t.orders):=hid decide_eq_true_iff
 generalize decide (s.orders=t.orders)=q10 at *
 have HS:=hid (HS.out.now hb)
 have HT:=hid (HT.out.now hb)
 have HX:=hid (HX.out.now hb)
 have HY:=hid (HY.out.now hb)
 have HB:=hid (HB.out.trans (hb.mono HB.out.size))
 have HC:=hid (HC.out.trans (hb.mono HC.out.size))
 clear hb
 cases q10
 ·have HN:Hid (¬ (s.orders=t.orders)):=hid (fun h=>nomatch HQ10.out.2 h)
  go_wp2_with fail
  go_ret
  exact ⟨false,rfl,⟨(fun h=>nomatch h),fun h=>absurd ((HEx.out.1 h).2.2.2.2.1) HN.out⟩,HB.out⟩
 have HZ10:Hid (s.orders=t.orders):=hid (HQ10.out.1 rfl)
 clear HQ10
 have zx:=HX.out.kx
 have zy:=HY.out.kx
 go_wp2_with fail
 clear zx zy
 refine (pSealed_any s.sealed t.sealed a.kx.1 c.kx.1 a.kx.2 c.kx.2 x10 HS.out.kx HT.out.kx HS.out.lkx HT.out.lkx).mono ?_
 rintro e x11 ⟨rfl,hb⟩
 have HQ11:Hid (decide (s.sealed=t.sealed)=true ↔ s.sealed=t.sealed):=hid decide_eq_true_iff
 generalize decide (s.sealed=t.sealed)=q11 at *
 have HS:=hid (HS.out.now hb)
 have HT:=hid (HT.out.now hb)
 have HX:=hid (HX.out.now hb)
 have HY:=hid (HY.out.now hb)
 have HB:=hid (HB.out.trans (hb.mono HB.out.size))
 have HC:=hid (HC.out.trans (hb.mono HC.out.size))
 clear hb
 cases q11
 ·have HN:Hid (¬ (s.sealed=t.sealed)):=hid (fun h=>nomatch HQ11.out.2 h)
  go_wp2_with fail
  go_ret
  exact ⟨false,rfl,⟨(fun h=>nomatch h),fun h=>absurd ((HEx.out.1 h).2.2.2.2.2.1) HN.out⟩,HB.out⟩
 have HZ11:Hid (s.sealed=t.sealed):=hid (HQ11.out.1 rfl)
 clear HQ11
 have zx:=HX.out.kd
 have zy:=HY.out.kd
 go_wp2_with fail
 clear zx zy
 refine (pDebt_any s.debts t.debts a.kd.1 c.kd.1 a.kd.2 c.kd.2 x11 HS.out.kd HT.out.kd HS.out.lkd HT.out.lkd).mono ?_
 rintro e x12 ⟨rfl,hb⟩
 have HQ12:Hid (decide (s.debts=t.debts)=true ↔ s.debts=t.debts):=hid decide_eq_true_iff
 generalize decide (s.debts=t.debts)=q12 at *
 have HS:=hid (HS.out.now hb)
 have HT:=hid (HT.out.now hb)
 have HX:=hid (HX.out.now hb)
 have HY:=hid (HY.out.now hb)
 have HB:=hid (HB.out.trans (hb.mono HB.out.size))
 have HC:=hid (HC.out.trans (hb.mono HC.out.size))
 clear hb
 cases q12
 ·have HN:Hid (¬ (s.debts=t.debts)):=hid (fun h=>nomatch HQ12.out.2 h)
  go_wp2_with fail
  go_ret
  exact ⟨false,rfl,⟨(fun h=>nomatch h),fun h=>absurd ((HEx.out.1 h).2.2.2.2.2.2) HN.out⟩,HB.out⟩
 have HZ12:Hid (s.debts=t.debts):=hid (HQ12.out.1 rfl)
 clear HQ12
 go_wp2_with fail
 go_ret
 exact ⟨true,rfl,⟨fun _=>HEx.out.2 ⟨HZP0.out,HZP1.out,⟨HZ8.out,HZ9.out,HZ10.out,HZ11.out,HZ12.out⟩⟩,fun _=>rfl⟩,HB.out⟩
theorem rsSame_any (s t:Stt) (a c:StAd) (w:World) (hs:StOk w w.heap.size s a) (ht:StOk w w.heap.size t c):Calls Tryz.prog 12 #[s.v a,t.v c] w (SameSt s t w):=by
 have hb0:Below w.heap.size w ((w.alloc (.cells (s.arr a) 34)).alloc (.cells (t.arr c) 34)):=by repeat (first | with_reducible exact Below.refl _ _ | with_reducible assumption | with_reducible refine Below.drew ?_ | with_reducible refine Below.alloc ?_ (by first | omega | (simp;done) | (simp;omega)) _)
 have HX:Hid (StBox w.heap.size s a ((w.alloc (.cells (s.arr a) 34)).alloc (.cells (t.arr c) 34))):=hid (StBox.now (show StBox w.heap.size s a (w.alloc (.cells (s.arr a) 34)) from (MapKept.heap_alloc w _).1) ((Below.refl _ _).alloc (Nat.le_refl _) _))
 have HY:Hid (StBox (w.heap.size+1) t c ((w.alloc (.cells (s.arr a) 34)).alloc (.cells (t.arr c) 34))):=hid (by
  have:=(MapKept.heap_alloc (w.alloc (.cells (s.arr a) 34)) (.cells (t.arr c) 34)).1
  simpa [StBox] using this)
 have HS:=hid (hs.now hb0)
 have HT:=hid (ht.now hb0)
 have HB:=hid hb0
 clear hb0 hs ht
 go_enter Tryz.func12,Tryz.ntmps12
 go_upto_region 1 with fail
 generalize (w.alloc (.cells (s.arr a) 34)).alloc (.cells (t.arr c) 34)=w0 at *
 obtain ⟨by_,hby⟩:∃ x,x=w.heap.size+1:=⟨_,rfl⟩
 obtain ⟨bx,hbx⟩:∃ x,x=w.heap.size:=⟨_,rfl⟩
 rw [← hby] at HY ⊢
 rw [← hbx] at HX ⊢
 clear hby hbx
 have HC:=hid (Below.refl w0.heap.size w0)
 go_cut [5] (fun v wx=>CutQ (s.step=t.step∧(s.events.map (fun x:EvL=>x.ev)=t.events.map (fun x:EvL=>x.ev))∧(s.queue=t.queue)∧(s.sent=t.sent)∧(s.refused=t.refused)) v∧Below w0.heap.size w0 wx)
 case first =>
  have zx:=HX.out.st
  have zy:=HY.out.st
  obtain ⟨q0,hq0⟩:∃ q,q=(s.step==t.step):=⟨_,rfl⟩
  have HQ0:Hid (q0=true ↔ s.step=t.step):=hid (by rw [hq0];exact beq_iff_eq)
  cases q0
  ·have hq:=hq0.symm
   clear hq0
   have HN:Hid (¬ s.step=t.step):=hid (fun h=>nomatch HQ0.out.2 h)
   go_wp2_with fail
   go_meet
   exact ⟨⟨false,rfl,⟨(fun h=>nomatch h),fun h=>absurd (h.1) HN.out⟩⟩,HC.out⟩
  have hq:=hq0.symm
  clear hq0
  have HZ0:Hid (s.step=t.step):=hid (HQ0.out.1 rfl)
  clear HQ0
  have zx:=HX.out.ke
  have zy:=HY.out.ke
  go_wp2_with fail
  clear zx zy
  clear hq
  refine (rSameL_any s.events t.events a.ke.1 c.ke.1 a.ke.2 c.ke.2 w0 HS.out.ke HT.out.ke HS.out.evs HT.out.evs HS.out.lke HT.out.lke).mono ?_
  rintro e x1 ⟨q1,rfl,hq1,hb⟩
  have HQ1:=hid hq1
  clear hq1
  have HS:=hid (HS.out.now hb)
  have HT:=hid (HT.out.now hb)
  have HX:=hid (HX.out.now hb)
  have HY:=hid (HY.out.now hb)
  have HB:=hid (HB.out.trans (hb.mono HB.out.size))
  have HC:=hid (HC.out.trans (hb.mono HC.out.size))
  clear hb
  cases q1
  ·have HN:Hid (¬ (s.events.map (fun x:EvL=>x.ev)=t.events.map (fun x:EvL=>x.ev))):=hid (fun h=>nomatch HQ1.out.2 h)
   go_wp2_with fail
   go_meet
   exact ⟨⟨false,rfl,⟨(fun h=>nomatch h),fun h=>absurd (h.2.1) HN.out⟩⟩,HC.out⟩
  have HZ1:Hid (s.events.map (fun x:EvL=>x.ev)=t.events.map (fun x:EvL=>x.ev)):=hid (HQ1.out.1 rfl)
  clear HQ1
  have zx:=HX.out.kq
  have zy:=HY.out.kq
  go_wp2_with fail
  clear zx zy
  refine (qWaiting_any s.queue t.queue a.kq.1 c.kq.1 a.kq.2 c.kq.2 x1 HS.out.kq HT.out.kq HS.out.lkq HT.out.lkq).mono ?_
  rintro e x2 ⟨rfl,hb⟩
  have HQ2:Hid (decide (s.queue=t.queue)=true ↔ s.queue=t.queue):=hid decide_eq_true_iff
  generalize decide (s.queue=t.queue)=q2 at *
  have HS:=hid (HS.out.now hb)
  have HT:=hid (HT.out.now hb)
  have HX:=hid (HX.out.now hb)
  have HY:=hid (HY.out.now hb)
  have HB:=hid (HB.out.trans (hb.mono HB.out.size))
  have HC:=hid (HC.out.trans (hb.mono HC.out.size))
  clear hb
  cases q2
  ·have HN:Hid (¬ (s.queue=t.queue)):=hid (fun h=>nomatch HQ2.out.2 h)
   go_wp2_with fail
   go_meet
   exact ⟨⟨false,rfl,⟨(fun h=>nomatch h),fun h=>absurd (h.2.2.1) HN.out⟩⟩,HC.out⟩
  have HZ2:Hid (s.queue=t.queue):=hid (HQ2.out.1 rfl)
  clear HQ2
  have zx:=HX.out.ks
  have zy:=HY.out.ks
  go_wp2_with fail
  clear zx zy
  refine (qSent_any s.sent t.sent a.ks.1 c.ks.1 a.ks.2 c.ks.2 x2 HS.out.ks HT.out.ks HS.out.lks HT.out.lks).mono ?_
  rintro e x3 ⟨rfl,hb⟩
  have HQ3:Hid (decide (s.sent=t.sent)=true ↔ s.sent=t.sent):=hid decide_eq_true_iff
  generalize decide (s.sent=t.sent)=q3 at *
  have HS:=hid (HS.out.now hb)
  have HT:=hid (HT.out.now hb)
  have HX:=hid (HX.out.now hb)
  have HY:=hid (HY.out.now hb)
  have HB:=hid (HB.out.trans (hb.mono HB.out.size))
  have HC:=hid (HC.out.trans (hb.mono HC.out.size))
  clear hb
  cases q3
  ·have HN:Hid (¬ (s.sent=t.sent)):=hid (fun h=>nomatch HQ3.out.2 h)
   go_wp2_with fail
   go_meet
   exact ⟨⟨false,rfl,⟨(fun h=>nomatch h),fun h=>absurd (h.2.2.2.1) HN.out⟩⟩,HC.out⟩
  have HZ3:Hid (s.sent=t.sent):=hid (HQ3.out.1 rfl)
  clear HQ3
  have zx:=HX.out.kr
  have zy:=HY.out.kr
  go_wp2_with fail
  clear zx zy
  refine (qDebt_any s.refused t.refused a.kr.1 c.kr.1 a.kr.2 c.kr.2 x3 HS.out.kr HT.out.kr HS.out.lkr HT.out.lkr).mono ?_
  rintro e x4 ⟨rfl,hb⟩
  have HQ4:Hid (decide (s.refused=t.refused)=true ↔ s.refused=t.refused):=hid decide_eq_true_iff
  generalize decide (s.refused=t.refused)=q4 at *
  have HS:=hid (HS.out.now hb)
  have HT:=hid (HT.out.now hb)
  have HX:=hid (HX.out.now hb)
  have HY:=hid (HY.out.now hb)
  have HB:=hid (HB.out.trans (hb.mono HB.out.size))
  have HC:=hid (HC.out.trans (hb.mono HC.out.size))
  clear hb
  cases q4
  ·have HN:Hid (¬ (s.refused=t.refused)):=hid (fun h=>nomatch HQ4.out.2 h)
   go_wp2_with fail
   go_meet
   exact ⟨⟨false,rfl,⟨(fun h=>nomatch h),fun h=>absurd (h.2.2.2.2) HN.out⟩⟩,HC.out⟩
  have HZ4:Hid (s.refused=t.refused):=hid (HQ4.out.1 rfl)
  clear HQ4
  go_wp2_with fail
  go_meet
  exact ⟨⟨true,rfl,⟨fun _=>⟨HZ0.out,HZ1.out,HZ2.out,HZ3.out,HZ4.out⟩,fun _=>rfl⟩⟩,HC.out⟩
 obtain ⟨⟨p0,rfl,hp0⟩,hbc⟩:=hcut
 have HP0:=hid hp0
 have HS:=hid (HS.out.now hbc)
 have HT:=hid (HT.out.now hbc)
 have HX:=hid (HX.out.now hbc)
 have HY:=hid (HY.out.now hbc)
 have HB:=hid (HB.out.trans (hbc.mono HB.out.size))
 clear hbc hp0 HC
 generalize wc=wc0 at *
 have HC:=hid (Below.refl wc0.heap.size wc0)
 go_upto_region 2 with fail
 go_cut [6] (fun v wx=>CutQ ((s.pairs=t.pairs)∧(s.proofs=t.proofs)∧(s.notes.map (fun x:NL=>x.l)=t.notes.map (fun x:NL=>x.l))∧(s.bad=t.bad)) v∧Below wc0.heap.size wc0 wx)
 case first =>
  have zx:=HX.out.kp
  have zy:=HY.out.kp
  go_wp2_with fail
  clear zx zy
  refine (qPair_any s.pairs t.pairs a.kp.1 c.kp.1 a.kp.2 c.kp.2 wc0 HS.out.kp HT.out.kp HS.out.lkp HT.out.lkp).mono ?_
  rintro e x5 ⟨rfl,hb⟩
  have HQ5:Hid (decide (s.pairs=t.pairs)=true ↔ s.pairs=t.pairs):=hid decide_eq_true_iff
  generalize decide (s.pairs=t.pairs)=q5 at *
  have HS:=hid (HS.out.now hb)
  have HT:=hid (HT.out.now hb)
  have HX:=hid (HX.out.now hb)
  have HY:=hid (HY.out.now hb)
  have HB:=hid (HB.out.trans (hb.mono HB.out.size))
  have HC:=hid (HC.out.trans (hb.mono HC.out.size))
  clear hb
  cases q5
  ·have HN:Hid (¬ (s.pairs=t.pairs)):=hid (fun h=>nomatch HQ5.out.2 h)
   go_wp2_with fail
   go_meet
   exact ⟨⟨false,rfl,⟨(fun h=>nomatch h),fun h=>absurd (h.1) HN.out⟩⟩,HC.out⟩
  have HZ5:Hid (s.pairs=t.pairs):=hid (HQ5.out.1 rfl)
  clear HQ5
  have zx:=HX.out.kf
  have zy:=HY.out.kf
  go_wp2_with fail
  clear zx zy
  refine (qProof_any s.proofs t.proofs a.kf.1 c.kf.1 a.kf.2 c.kf.2 x5 HS.out.kf HT.out.kf HS.out.lkf HT.out.lkf).mono ?_
  rintro e x6 ⟨rfl,hb⟩
  have HQ6:Hid (decide (s.proofs=t.proofs)=true ↔ s.proofs=t.proofs):=hid decide_eq_true_iff
  generalize decide (s.proofs=t.proofs)=q6 at *
  have HS:=hid (HS.out.now hb)
  have HT:=hid (HT.out.now hb)
  have HX:=hid (HX.out.now hb)
  have HY:=hid (HY.out.now hb)
  have HB:=hid (HB.out.trans (hb.mono HB.out.size))
  have HC:=hid (HC.out.trans (hb.mono HC.out.size))
  clear hb
  cases q6
  ·have HN:Hid (¬ (s.proofs=t.proofs)):=hid (fun h=>nomatch HQ6.out.2 h)
   go_wp2_with fail
   go_meet
   exact ⟨⟨false,rfl,⟨(fun h=>nomatch h),fun h=>absurd (h.2.1) HN.out⟩⟩,HC.out⟩
  have HZ6:Hid (s.proofs=t.proofs):=hid (HQ6.out.1 rfl)
  clear HQ6
  have zx:=HX.out.kn
  have zy:=HY.out.kn
  go_wp2_with fail
  clear zx zy
  refine (rsNotes_any s.notes t.notes a.kn.1 c.kn.1 a.kn.2 c.kn.2 x6 HS.out.kn HT.out.kn HS.out.lkn HT.out.lkn HS.out.nos HT.out.nos).mono ?_
  rintro e x7 ⟨q7,rfl,hq7,hb⟩
  have HQ7:=hid hq7
  clear hq7
  have HS:=hid (HS.out.now hb)
  have HT:=hid (HT.out.now hb)
  have HX:=hid (HX.out.now hb)
  have HY:=hid (HY.out.now hb)
  have HB:=hid (HB.out.trans (hb.mono HB.out.size))
  have HC:=hid (HC.out.trans (hb.mono HC.out.size))
  clear hb
  cases q7
  ·have HN:Hid (¬ (s.notes.map (fun x:NL=>x.l)=t.notes.map (fun x:NL=>x.l))):=hid (fun h=>nomatch HQ7.out.2 h)
   go_wp2_with fail
   go_meet
   exact ⟨⟨false,rfl,⟨(fun h=>nomatch h),fun h=>absurd (h.2.2.1) HN.out⟩⟩,HC.out⟩
  have HZ7:Hid (s.notes.map (fun x:NL=>x.l)=t.notes.map (fun x:NL=>x.l)):=hid (HQ7.out.1 rfl)
  clear HQ7
  have zx:=HX.out.kb
  have zy:=HY.out.kb
  go_wp2_with fail
  clear zx zy
  refine (qVerdict_any s.bad t.bad a.kb.1 c.kb.1 a.kb.2 c.kb.2 x7 HS.out.kb HT.out.kb HS.out.lkb HT.out.lkb).mono ?_
  rintro e x8 ⟨rfl,hb⟩
  have HQ8:Hid (decide (s.bad=t.bad)=true ↔ s.bad=t.bad):=hid decide_eq_true_iff
  generalize decide (s.bad=t.bad)=q8 at *
  have HS:=hid (HS.out.now hb)
  have HT:=hid (HT.out.now hb)
  have HX:=hid (HX.out.now hb)
  have HY:=hid (HY.out.now hb)
  have HB:=hid (HB.out.trans (hb.mono HB.out.size))
  have HC:=hid (HC.out.trans (hb.mono HC.out.size))
  clear hb
  cases q8
  ·have HN:Hid (¬ (s.bad=t.bad)):=hid (fun h=>nomatch HQ8.out.2 h)
   go_wp2_with fail
   go_meet
   exact ⟨⟨false,rfl,⟨(fun h=>nomatch h),fun h=>absurd (h.2.2.2) HN.out⟩⟩,HC.out⟩
  have HZ8:Hid (s.bad=t.bad):=hid (HQ8.out.1 rfl)
  clear HQ8
  go_wp2_with fail
  go_meet
  exact ⟨⟨true,rfl,⟨fun _=>⟨HZ5.out,HZ6.out,HZ7.out,HZ8.out⟩,fun _=>rfl⟩⟩,HC.out⟩
 obtain ⟨⟨p1,rfl,hp1⟩,hbc⟩:=hcut
 have HP1:=hid hp1
 have HS:=hid (HS.out.now hbc)
 have HT:=hid (HT.out.now hbc)
 have HX:=hid (HX.out.now hbc)
 have HY:=hid (HY.out.now hbc)
 have HB:=hid (HB.out.trans (hbc.mono HB.out.size))
 clear hbc hp1 HC
 generalize wc=wc1 at *
 have HC:=hid (Below.refl wc1.heap.size wc1)
 have HEx:Hid (s.pl=t.pl ↔ (s.step=t.step∧(s.events.map (fun x:EvL=>x.ev)=t.events.map (fun x:EvL=>x.ev))∧(s.queue=t.queue)∧(s.sent=t.sent)∧(s.refused=t.refused))∧((s.pairs=t.pairs)∧(s.proofs=t.proofs)∧(s.notes.map (fun x:NL=>x.l)=t.notes.map (fun x:NL=>x.l))∧(s.bad=t.bad))∧((s.holds=t.holds)∧(s.orders=t.orders)∧(s.sealed=t.sealed)∧(s.debts=t.debts))):=hid ⟨fun h=>⟨⟨congrArg StP.step h,congrArg StP.events h,congrArg StP.queue h,congrArg StP.sent h,congrArg StP.refused h⟩,⟨congrArg StP.pairs h,congrArg StP.proofs h,congrArg StP.notes h,congrArg StP.bad h⟩,⟨congrArg StP.holds h,congrArg StP.orders h,congrArg StP.sealed h,congrArg StP.debts h⟩⟩,fun h=>by
  obtain ⟨⟨hstep,hevents,hqueue,hsent,hrefused⟩,⟨hpairs,hproofs,hnotes,hbad⟩,hholds,horders,hsealed,hdebts⟩:=h
  unfold Stt.pl evsL
  rw [hstep,hevents,hqueue,hsent,hrefused,hpairs,hproofs,hnotes,hbad,hholds,horders,hsealed,hdebts]⟩
 cases p0
 ·have HN:Hid (¬ (s.step=t.step∧(s.events.map (fun x:EvL=>x.ev)=t.events.map (fun x:EvL=>x.ev))∧(s.queue=t.queue)∧(s.sent=t.sent)∧(s.refused=t.refused))):=hid (fun h=>nomatch HP0.out.2 h)
  go_wp2_with fail
  go_ret
  exact ⟨false,rfl,⟨(fun h=>nomatch h),fun h=>absurd ((HEx.out.1 h).1) HN.out⟩,HB.out⟩
 have HZP0:Hid (s.step=t.step∧(s.events.map (fun x:EvL=>x.ev)=t.events.map (fun x:EvL=>x.ev))∧(s.queue=t.queue)∧(s.sent=t.sent)∧(s.refused=t.refused)):=hid (HP0.out.1 rfl)
 clear HP0
 cases p1
 ·have HN:Hid (¬ ((s.pairs=t.pairs)∧(s.proofs=t.proofs)∧(s.notes.map (fun x:NL=>x.l)=t.notes.map (fun x:NL=>x.l))∧(s.bad=t.bad))):=hid (fun h=>nomatch HP1.out.2 h)
  go_wp2_with fail
  go_ret
  exact ⟨false,rfl,⟨(fun h=>nomatch h),fun h=>absurd ((HEx.out.1 h).2.1) HN.out⟩,HB.out⟩
 have HZP1:Hid ((s.pairs=t.pairs)∧(s.proofs=t.proofs)∧(s.notes.map (fun x:NL=>x.l)=t.notes.map (fun x:NL=>x.l))∧(s.bad=t.bad)):=hid (HP1.out.1 rfl)
 clear HP1
 have zx:=HX.out.kh
 have zy:=HY.out.kh
 go_wp2_with fail
 clear zx zy
 refine (qHold_any s.holds t.holds a.kh.1 c.kh.1 a.kh.2 c.kh.2 wc1 HS.out.kh HT.out.kh HS.out.lkh HT.out.lkh).mono ?_
 rintro e x9 ⟨rfl,hb⟩
 have HQ9:Hid (decide (s.holds=t.holds)=true ↔ s.holds=t.holds):=hid decide_eq_true_iff
 generalize decide (s.holds=t.holds)=q9 at *
 have HS:=hid (HS.out.now hb)
 have HT:=hid (HT.out.now hb)
 have HX:=hid (HX.out.now hb)
 have HY:=hid (HY.out.now hb)
 have HB:=hid (HB.out.trans (hb.mono HB.out.size))
 have HC:=hid (HC.out.trans (hb.mono HC.out.size))
 clear hb
 cases q9
 ·have HN:Hid (¬ (s.holds=t.holds)):=hid (fun h=>nomatch HQ9.out.2 h)
  go_wp2_with fail
  go_ret
  exact ⟨false,rfl,⟨(fun h=>nomatch h),fun h=>absurd ((HEx.out.1 h).2.2.1) HN.out⟩,HB.out⟩
 have HZ9:Hid (s.holds=t.holds):=hid (HQ9.out.1 rfl)
 clear HQ9
 have zx:=HX.out.ko
 have zy:=HY.out.ko
 go_wp2_with fail
 clear zx zy
 refine (qOrder_any s.orders t.orders a.ko.1 c.ko.1 a.ko.2 c.ko.2 x9 HS.out.ko HT.out.ko HS.out.lko HT.out.lko).mono ?_
 rintro e x10 ⟨rfl,hb⟩
 have HQ10:Hid (decide (s.orders=t.orders)=true ↔ s.orders=t.orders):=hid decide_eq_true_iff
 generalize decide (s.orders=t.orders)=q10 at *
 have HS:=hid (HS.out.now hb)
 have HT:=hid (HT.out.now hb)
 have HX:=hid (HX.out.now hb)
 have HY:=hid (HY.out.now hb)
 have HB:=hid (HB.out.trans (hb.mono HB.out.size))
 have HC:=hid (HC.out.trans (hb.mono HC.out.size))
 clear hb
 cases q10
 ·have HN:Hid (¬ (s.orders=t.orders)):=hid (fun h=>nomatch HQ10.out.2 h)
  go_wp2_with fail
  go_ret
  exact ⟨false,rfl,⟨(fun h=>nomatch h),fun h=>absurd ((HEx.out.1 h).2.2.2.1) HN.out⟩,HB.out⟩
 have HZ10:Hid (s.orders=t.orders):=hid (HQ10.out.1 rfl)
 clear HQ10
 have zx:=HX.out.kx
 have zy:=HY.out.kx
 go_wp2_with fail
 clear zx zy
 refine (qSealed_any s.sealed t.sealed a.kx.1 c.kx.1 a.kx.2 c.kx.2 x10 HS.out.kx HT.out.kx HS.out.lkx HT.out.lkx).mono ?_
 rintro e x11 ⟨rfl,hb⟩
 have HQ11:Hid (decide (s.sealed=t.sealed)=true ↔ s.sealed=t.sealed):=hid decide_eq_true_iff
 generalize decide (s.sealed=t.sealed)=q11 at *
 have HS:=hid (HS.out.now hb)
 have HT:=hid (HT.out.now hb)
 have HX:=hid (HX.out.now hb)
 have HY:=hid (HY.out.now hb)
 have HB:=hid (HB.out.trans (hb.mono HB.out.size))
 have HC:=hid (HC.out.trans (hb.mono HC.out.size))
 clear hb
 cases q11
 ·have HN:Hid (¬ (s.sealed=t.sealed)):=hid (fun h=>nomatch HQ11.out.2 h)
  go_wp2_with fail
  go_ret
  exact ⟨false,rfl,⟨(fun h=>nomatch h),fun h=>absurd ((HEx.out.1 h).2.2.2.2.1) HN.out⟩,HB.out⟩
 have HZ11:Hid (s.sealed=t.sealed):=hid (HQ11.out.1 rfl)
 clear HQ11
 have zx:=HX.out.kd
 have zy:=HY.out.kd
 go_wp2_with fail
 clear zx zy
 refine (qDebt_any s.debts t.debts a.kd.1 c.kd.1 a.kd.2 c.kd.2 x11 HS.out.kd HT.out.kd HS.out.lkd HT.out.lkd).mono ?_
 rintro e x12 ⟨rfl,hb⟩
 have HQ12:Hid (decide (s.debts=t.debts)=true ↔ s.debts=t.debts):=hid decide_eq_true_iff
 generalize decide (s.debts=t.debts)=q12 at *
 have HS:=hid (HS.out.now hb)
 have HT:=hid (HT.out.now hb)
 have HX:=hid (HX.out.now hb)
 have HY:=hid (HY.out.now hb)
 have HB:=hid (HB.out.trans (hb.mono HB.out.size))
 have HC:=hid (HC.out.trans (hb.mono HC.out.size))
 clear hb
 cases q12
 ·have HN:Hid (¬ (s.debts=t.debts)):=hid (fun h=>nomatch HQ12.out.2 h)
  go_wp2_with fail
  go_ret
  exact ⟨false,rfl,⟨(fun h=>nomatch h),fun h=>absurd ((HEx.out.1 h).2.2.2.2.2) HN.out⟩,HB.out⟩
 have HZ12:Hid (s.debts=t.debts):=hid (HQ12.out.1 rfl)
 clear HQ12
 go_wp2_with fail
 go_ret
 exact ⟨true,rfl,⟨fun _=>HEx.out.2 ⟨HZP0.out,HZP1.out,⟨HZ9.out,HZ10.out,HZ11.out,HZ12.out⟩⟩,fun _=>rfl⟩,HB.out⟩
/- Contract of linguaref46.Few (layer 46;written by gencl.py). -/
structure FewS (s:Stt) (n:Int):Prop where
 notes:∀ x∈s.notes,x.l.length≤20
 queue:s.queue.length≤20
 sent:s.sent.length≤20
 refused:s.refused.length≤20
 pairs:s.pairs.length≤20
 proofs:s.proofs.length≤20
 nl:s.notes.length≤20
 bad:s.bad.length≤20
 holds:s.holds.length≤20
 orders:s.orders.length≤20
 sealed:s.sealed.length≤20
 debts:s.debts.length≤20
 ev:fewAllB s.events n=true
def FewOutS (s:Stt) (n:Int) (w:World) (e:Ending) (w':World):Prop:=∃ v:Bool,e=.returned (.bool v)∧(v=true→FewS s n)∧Below w.heap.size w w'
def CutI (P:Prop) (v:Value):Prop:=∃ q:Bool,v=.bool q∧(q=true→P)
theorem rsFew_any (s:Stt) (a:StAd) (n:Int) (w:World) (hs:StOk w w.heap.size s a):Calls Tryz.prog 9 #[s.v a,.int .i64 n] w (FewOutS s n w):=by
 have hb0:Below w.heap.size w (w.alloc (.cells (s.arr a) 34)):=by repeat (first | with_reducible exact Below.refl _ _ | with_reducible assumption | with_reducible refine Below.drew ?_ | with_reducible refine Below.alloc ?_ (by first | omega | (simp;done) | (simp;omega)) _)
 have HX:Hid (StBox w.heap.size s a (w.alloc (.cells (s.arr a) 34))):=hid ((MapKept.heap_alloc w _).1)
 have HS:=hid (hs.now hb0)
 have HB:=hid hb0
 clear hb0 hs
 go_enter Tryz.func9,Tryz.ntmps9
 go_upto_region 1 with fail
 generalize w.alloc (.cells (s.arr a) 34)=w0 at *
 obtain ⟨bx,hbx⟩:∃ x,x=w.heap.size:=⟨_,rfl⟩
 rw [← hbx] at HX ⊢
 clear hbx
 have zn:=HX.out.kn
 go_wp2_with fail
 go_loop [5] (fun i=>∃ k:Nat,k≤s.notes.length∧i=.int .i64 k∧k≤21∧∀ x∈s.notes.take k,x.l.length≤20) (fun i=>s.notes.length - (intOf i).toNat)
 case atStart=>exact ⟨0,Nat.zero_le _,rfl,by omega,fun x hx=>by simp at hx⟩
 case round =>
  obtain ⟨k,hk,rfl,hk21,hall⟩:=hrel
  have HA:=hid hall
  clear hall
  by_cases hlt:k<s.notes.length
  ·have d1:decide ((k:Int)<(s.notes.length:Int))=true:=decide_eq_true (by omega)
   by_cases h20:k≤20
   ·have d2:decide ((k:Int)≤20)=true:=decide_eq_true (by omega)
    obtain ⟨b,off,hA,hb,c0⟩:=rdNL HS.out.kn hlt
    rw [hA] at zn
    have HSt:Hid (s.notes[k].l.length≤20→∀ x∈s.notes.take (k+1),x.l.length≤20):=hid (fun h x hx=>by
     rw [List.take_succ_eq_append_getElem hlt] at hx
     rcases List.mem_append.1 hx with hx | hx
     ·exact HA.out x hx
     ·obtain rfl:x=s.notes[k]:=by simpa using hx
      exact h)
    have hln:=(HS.out.nos _ (List.getElem_mem hlt)).2.1
    clear hA
    generalize s.notes[k]=y at *
    by_cases hy:y.l.length≤20
    ·have HG:=hid (HSt.out hy)
     have d3:decide ((20:Int)<(y.l.length:Int))=false:=decide_eq_false (by omega)
     clear HSt
     go_wp2_with fail
     go_round
     case rel=>exact ⟨k+1,by omega,by go_num,by omega,HG.out⟩
     case measure=>simp [intOf];omega
    ·have d3:decide ((20:Int)<(y.l.length:Int))=true:=decide_eq_true (by omega)
     go_wp2_with fail
     go_ret
     exact ⟨false,rfl,(fun h=>nomatch h),HB.out⟩
   ·have d2:decide ((k:Int)≤20)=false:=decide_eq_false (by omega)
    have HK:Hid (s.notes.length≤20→∀ x∈s.notes,x.l.length≤20):=hid (fun h=>by omega)
    go_upto_region 6 with fail
    clear zn d1 d2 h20 hlt hk hk21 HA
    go_cut [6] (fun v wx=>CutI (s.queue.length≤20∧s.sent.length≤20∧s.refused.length≤20∧s.pairs.length≤20∧s.proofs.length≤20∧s.notes.length≤20) v∧wx=w0)
    case first =>
     have z0:=HX.out.kq
     have z1:=HX.out.ks
     have z2:=HX.out.kr
     have z3:=HX.out.kp
     have z4:=HX.out.kf
     have z5:=HX.out.kn
     by_cases h0:s.queue.length≤20
     rotate_left
     ·skip
      have q0:decide ((s.queue.length:Int)≤20)=false:=decide_eq_false (by omega)
      go_wp2_with fail
      go_meet
      exact ⟨⟨false,rfl,(fun h=>nomatch h)⟩,rfl⟩
     have q0:decide ((s.queue.length:Int)≤20)=true:=decide_eq_true (by omega)
     have H0:=hid h0
     by_cases h1:s.sent.length≤20
     rotate_left
     ·skip
      have q1:decide ((s.sent.length:Int)≤20)=false:=decide_eq_false (by omega)
      go_wp2_with fail
      go_meet
      exact ⟨⟨false,rfl,(fun h=>nomatch h)⟩,rfl⟩
     have q1:decide ((s.sent.length:Int)≤20)=true:=decide_eq_true (by omega)
     have H1:=hid h1
     by_cases h2:s.refused.length≤20
     rotate_left
     ·skip
      have q2:decide ((s.refused.length:Int)≤20)=false:=decide_eq_false (by omega)
      go_wp2_with fail
      go_meet
      exact ⟨⟨false,rfl,(fun h=>nomatch h)⟩,rfl⟩
     have q2:decide ((s.refused.length:Int)≤20)=true:=decide_eq_true (by omega)
     have H2:=hid h2
     by_cases h3:s.pairs.length≤20
     rotate_left
     ·skip
      have q3:decide ((s.pairs.length:Int)≤20)=false:=decide_eq_false (by omega)
      go_wp2_with fail
      go_meet
      exact ⟨⟨false,rfl,(fun h=>nomatch h)⟩,rfl⟩
     have q3:decide ((s.pairs.length:Int)≤20)=true:=decide_eq_true (by omega)
     have H3:=hid h3
     by_cases h4:s.proofs.length≤20
     rotate_left
     ·skip
      have q4:decide ((s.proofs.length:Int)≤20)=false:=decide_eq_false (by omega)
      go_wp2_with fail
      go_meet
      exact ⟨⟨false,rfl,(fun h=>nomatch h)⟩,rfl⟩
     have q4:decide ((s.proofs.length:Int)≤20)=true:=decide_eq_true (by omega)
     have H4:=hid h4
     by_cases h5:s.notes.length≤20
     rotate_left
     ·skip
      have q5:decide ((s.notes.length:Int)≤20)=false:=decide_eq_false (by omega)
      go_wp2_with fail
      go_meet
      exact ⟨⟨false,rfl,(fun h=>nomatch h)⟩,rfl⟩
     have q5:decide ((s.notes.length:Int)≤20)=true:=decide_eq_true (by omega)
     have H5:=hid h5
     go_wp2_with fail
     go_meet
     exact ⟨⟨true,rfl,fun _=>⟨H0.out,H1.out,H2.out,H3.out,H4.out,H5.out⟩⟩,rfl⟩
    obtain ⟨⟨p1,rfl,hp1⟩,hwc⟩:=hcut
    subst hwc
    have HP1:=hid hp1
    clear hp1
    cases p1
    ·skip
     go_wp2_with fail
     go_ret
     exact ⟨false,rfl,(fun h=>nomatch h),HB.out⟩
    have HZ1:=hid (HP1.out rfl)
    clear HP1
    have z0:=HX.out.kb
    have z1:=HX.out.kh
    have z2:=HX.out.ko
    have z3:=HX.out.kx
    have z4:=HX.out.kd
    by_cases g0:s.bad.length≤20
    rotate_left
    ·skip
     have q0:decide ((s.bad.length:Int)≤20)=false:=decide_eq_false (by omega)
     go_wp2_with fail
     go_ret
     exact ⟨false,rfl,(fun h=>nomatch h),HB.out⟩
    have q0:decide ((s.bad.length:Int)≤20)=true:=decide_eq_true (by omega)
    have G0:=hid g0
    by_cases g1:s.holds.length≤20
    rotate_left
    ·skip
     have q1:decide ((s.holds.length:Int)≤20)=false:=decide_eq_false (by omega)
     go_wp2_with fail
     go_ret
     exact ⟨false,rfl,(fun h=>nomatch h),HB.out⟩
    have q1:decide ((s.holds.length:Int)≤20)=true:=decide_eq_true (by omega)
    have G1:=hid g1
    by_cases g2:s.orders.length≤20
    rotate_left
    ·skip
     have q2:decide ((s.orders.length:Int)≤20)=false:=decide_eq_false (by omega)
     go_wp2_with fail
     go_ret
     exact ⟨false,rfl,(fun h=>nomatch h),HB.out⟩
    have q2:decide ((s.orders.length:Int)≤20)=true:=decide_eq_true (by omega)
    have G2:=hid g2
    by_cases g3:s.sealed.length≤20
    rotate_left
    ·skip
     have q3:decide ((s.sealed.length:Int)≤20)=false:=decide_eq_false (by omega)
     go_wp2_with fail
     go_ret
     exact ⟨false,rfl,(fun h=>nomatch h),HB.out⟩
    have q3:decide ((s.sealed.length:Int)≤20)=true:=decide_eq_true (by omega)
    have G3:=hid g3
    by_cases g4:s.debts.length≤20
    rotate_left
    ·skip
     have q4:decide ((s.debts.length:Int)≤20)=false:=decide_eq_false (by omega)
     go_wp2_with fail
     go_ret
     exact ⟨false,rfl,(fun h=>nomatch h),HB.out⟩
    have q4:decide ((s.debts.length:Int)≤20)=true:=decide_eq_true (by omega)
    have G4:=hid g4
    have ze:=HX.out.ke
    go_wp2_with fail
    refine (rFewAll_any s.events n a.ke.1 a.ke.2 _ HS.out.ke HS.out.lke).mono ?_
    rintro e w1 ⟨rfl,hb1⟩
    have HB1:=hid (HB.out.trans (hb1.mono HB.out.size))
    clear hb1
    have HQ:Hid (fewAllB s.events n=true→FewS s n):=hid (fun h=>⟨HK.out HZ1.out.2.2.2.2.2,HZ1.out.1,HZ1.out.2.1,HZ1.out.2.2.1,HZ1.out.2.2.2.1,HZ1.out.2.2.2.2.1,HZ1.out.2.2.2.2.2,G0.out,G1.out,G2.out,G3.out,G4.out,h⟩)
    generalize fewAllB s.events n=qf at *
    go_wp2_with fail
    go_ret
    exact ⟨qf,rfl,HQ.out,HB1.out⟩
  ·have hke:s.notes.take k=s.notes:=List.take_of_length_le (by omega)
   have d1:decide ((k:Int)<(s.notes.length:Int))=false:=decide_eq_false (by omega)
   have HK:Hid (s.notes.length≤20→∀ x∈s.notes,x.l.length≤20):=hid (fun _=>by have h:=HA.out;rw [hke] at h;exact h)
   clear hke
   go_upto_region 6 with fail
   clear zn d1 hlt hk hk21 HA
   go_cut [6] (fun v wx=>CutI (s.queue.length≤20∧s.sent.length≤20∧s.refused.length≤20∧s.pairs.length≤20∧s.proofs.length≤20∧s.notes.length≤20) v∧wx=w0)
   case first =>
    have z0:=HX.out.kq
    have z1:=HX.out.ks
    have z2:=HX.out.kr
    have z3:=HX.out.kp
    have z4:=HX.out.kf
    have z5:=HX.out.kn
    by_cases h0:s.queue.length≤20
    rotate_left
    ·skip
     have q0:decide ((s.queue.length:Int)≤20)=false:=decide_eq_false (by omega)
     go_wp2_with fail
     go_meet
     exact ⟨⟨false,rfl,(fun h=>nomatch h)⟩,rfl⟩
    have q0:decide ((s.queue.length:Int)≤20)=true:=decide_eq_true (by omega)
    have H0:=hid h0
    by_cases h1:s.sent.length≤20
    rotate_left
    ·skip
     have q1:decide ((s.sent.length:Int)≤20)=false:=decide_eq_false (by omega)
     go_wp2_with fail
     go_meet
     exact ⟨⟨false,rfl,(fun h=>nomatch h)⟩,rfl⟩
    have q1:decide ((s.sent.length:Int)≤20)=true:=decide_eq_true (by omega)
    have H1:=hid h1
    by_cases h2:s.refused.length≤20
    rotate_left
    ·skip
     have q2:decide ((s.refused.length:Int)≤20)=false:=decide_eq_false (by omega)
     go_wp2_with fail
     go_meet
     exact ⟨⟨false,rfl,(fun h=>nomatch h)⟩,rfl⟩
    have q2:decide ((s.refused.length:Int)≤20)=true:=decide_eq_true (by omega)
    have H2:=hid h2
    by_cases h3:s.pairs.length≤20
    rotate_left
    ·skip
     have q3:decide ((s.pairs.length:Int)≤20)=false:=decide_eq_false (by omega)
     go_wp2_with fail
     go_meet
     exact ⟨⟨false,rfl,(fun h=>nomatch h)⟩,rfl⟩
    have q3:decide ((s.pairs.length:Int)≤20)=true:=decide_eq_true (by omega)
    have H3:=hid h3
    by_cases h4:s.proofs.length≤20
    rotate_left
    ·skip
     have q4:decide ((s.proofs.length:Int)≤20)=false:=decide_eq_false (by omega)
     go_wp2_with fail
     go_meet
     exact ⟨⟨false,rfl,(fun h=>nomatch h)⟩,rfl⟩
    have q4:decide ((s.proofs.length:Int)≤20)=true:=decide_eq_true (by omega)
    have H4:=hid h4
    by_cases h5:s.notes.length≤20
    rotate_left
    ·skip
     have q5:decide ((s.notes.length:Int)≤20)=false:=decide_eq_false (by omega)
     go_wp2_with fail
     go_meet
     exact ⟨⟨false,rfl,(fun h=>nomatch h)⟩,rfl⟩
    have q5:decide ((s.notes.length:Int)≤20)=true:=decide_eq_true (by omega)
    have H5:=hid h5
    go_wp2_with fail
    go_meet
    exact ⟨⟨true,rfl,fun _=>⟨H0.out,H1.out,H2.out,H3.out,H4.out,H5.out⟩⟩,rfl⟩
   obtain ⟨⟨p1,rfl,hp1⟩,hwc⟩:=hcut
   subst hwc
   have HP1:=hid hp1
   clear hp1
   cases p1
   ·skip
    go_wp2_with fail
    go_ret
    exact ⟨false,rfl,(fun h=>nomatch h),HB.out⟩
   have HZ1:=hid (HP1.out rfl)
   clear HP1
   have z0:=HX.out.kb
   have z1:=HX.out.kh
   have z2:=HX.out.ko
   have z3:=HX.out.kx
   have z4:=HX.out.kd
   by_cases g0:s.bad.length≤20
   rotate_left
   ·skip
    have q0:decide ((s.bad.length:Int)≤20)=false:=decide_eq_false (by omega)
    go_wp2_with fail
    go_ret
    exact ⟨false,rfl,(fun h=>nomatch h),HB.out⟩
   have q0:decide ((s.bad.length:Int)≤20)=true:=decide_eq_true (by omega)
   have G0:=hid g0
   by_cases g1:s.holds.length≤20
   rotate_left
   ·skip
    have q1:decide ((s.holds.length:Int)≤20)=false:=decide_eq_false (by omega)
    go_wp2_with fail
    go_ret
    exact ⟨false,rfl,(fun h=>nomatch h),HB.out⟩
   have q1:decide ((s.holds.length:Int)≤20)=true:=decide_eq_true (by omega)
   have G1:=hid g1
   by_cases g2:s.orders.length≤20
   rotate_left
   ·skip
    have q2:decide ((s.orders.length:Int)≤20)=false:=decide_eq_false (by omega)
    go_wp2_with fail
    go_ret
    exact ⟨false,rfl,(fun h=>nomatch h),HB.out⟩
   have q2:decide ((s.orders.length:Int)≤20)=true:=decide_eq_true (by omega)
   have G2:=hid g2
   by_cases g3:s.sealed.length≤20
   rotate_left
   ·skip
    have q3:decide ((s.sealed.length:Int)≤20)=false:=decide_eq_false (by omega)
    go_wp2_with fail
    go_ret
    exact ⟨false,rfl,(fun h=>nomatch h),HB.out⟩
   have q3:decide ((s.sealed.length:Int)≤20)=true:=decide_eq_true (by omega)
   have G3:=hid g3
   by_cases g4:s.debts.length≤20
   rotate_left
   ·skip
    have q4:decide ((s.debts.length:Int)≤20)=false:=decide_eq_false (by omega)
    go_wp2_with fail
    go_ret
    exact ⟨false,rfl,(fun h=>nomatch h),HB.out⟩
   have q4:decide ((s.debts.length:Int)≤20)=true:=decide_eq_true (by omega)
   have G4:=hid g4
   have ze:=HX.out.ke
   go_wp2_with fail
   refine (rFewAll_any s.events n a.ke.1 a.ke.2 _ HS.out.ke HS.out.lke).mono ?_
   rintro e w1 ⟨rfl,hb1⟩
   have HB1:=hid (HB.out.trans (hb1.mono HB.out.size))
   clear hb1
   have HQ:Hid (fewAllB s.events n=true→FewS s n):=hid (fun h=>⟨HK.out HZ1.out.2.2.2.2.2,HZ1.out.1,HZ1.out.2.1,HZ1.out.2.2.1,HZ1.out.2.2.2.1,HZ1.out.2.2.2.2.1,HZ1.out.2.2.2.2.2,G0.out,G1.out,G2.out,G3.out,G4.out,h⟩)
   generalize fewAllB s.events n=qf at *
   go_wp2_with fail
   go_ret
   exact ⟨qf,rfl,HQ.out,HB1.out⟩
end Go.Proofs.YthlpehhlhebhbaaGreatDoor
