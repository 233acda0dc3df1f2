/- Contracts and plain laws, joined: StZ, StM, StW. -/
import Derived.Test.YthlpehhlhebhbaaGreatDoorQbh
import Derived.Test.YthlpehhlhebhbaaGreatDoorQbf
import Derived.Test.YthlpehhlhebhbaaGreatDoorQbd
import Derived.Test.YthlpehhlhebhbaaGreatDoorQbe
import Derived.Test.YthlpehhlhebhbaaGreatDoorQau
/- The closures of state.Read as function values;those of events and of lists of notes (layer 46;written by genrz.py). -/
set_option linter.unusedSimpArgs false
set_option linter.unusedVariables false
namespace Go.Proofs.YthlpehhlhebhbaaGreatDoor
set_option maxHeartbeats 8000000
open Lib (hid)
open Go.RowKit
set_option maxRecDepth 100000
theorem rc3_any {B:Nat} (rb b:Nat) (s:RS) (w:World) (hV:Vs B w) (hBb:B≤b) (hc:w.cell? ⟨rb,0,none⟩=some (.pointer (some ⟨b,0,none⟩))) (hrl:rb<w.heap.size) (hne:rb≠b) (h:RdAt b s w) (hl:s.rest.length≤1000000000000) :
  Calls Tryz.prog 30 #[.pointer (some ⟨rb,0,none⟩)] w fun e w'=>∃ x:EvL,e=.returned x.v∧x.ev=(oneE s).1∧okEv w' x∧(∀ i,x.at_ i→w.heap.size≤i)∧RdAt b (oneE s).2 w'∧Turn (One b) w w':=by
 have hb0:Below w.heap.size w (w.alloc (.cells zeroE 56)):=by repeat (first | with_reducible exact Below.refl _ _ | with_reducible assumption | with_reducible refine Below.drew ?_ | with_reducible refine Below.alloc ?_ (by first | omega | (simp;done) | (simp;omega)) _)
 have HZ:Hid ((w.alloc (.cells zeroE 56)).heap[w.heap.size]?=some (.cells zeroE 56 (0,0))):=hid (MapKept.heap_alloc w _).1
 have hc2:=(hb0.cell (p:=⟨rb,0,none⟩) hrl).trans hc
 have hrl2:=Nat.lt_of_lt_of_le hrl hb0.size
 have HT:=hid (Turn.below (F:=One b) hb0)
 have HV:=hid (hV.now hb0)
 have HA:=hid (h.now hb0)
 have HL:=hid hl
 have HBl:=hid h.lt
 have HO1:Hid ((oneE s).1=(readE (rText s).1).1):=hid (by simp only [oneE])
 have HO2:Hid ((oneE s).2=(rText s).2):=hid (by simp only [oneE])
 have HTl:=hid (text_small s)
 clear hV h hl hb0 hc hrl
 go_enter Tryz.func30,Tryz.ntmps30
 go_upto_region 1 with fail
 change Code.wp _ _ _ _ (w.alloc (.cells zeroE 56))
 generalize w.alloc (.cells zeroE 56)=wb at *
 obtain ⟨bx,hbx⟩:∃ bx,bx=w.heap.size:=⟨_,rfl⟩
 rw [← hbx] at HZ ⊢
 have HBx:=hid hbx
 have HZl:=hid (box_lt HZ.out)
 clear hbx
 go_wp2_with fail
 refine (rdText_any b s wb HV.out hBb HA.out HL.out).mono ?_
 rintro en w2 ⟨rfl,ha,ht⟩
 have HA2:=hid ha
 have HZ2:=hid ((ht.block bx HZl.out (by have:=HBx.out;have:=HBl.out;unfold One;omega)).trans HZ.out)
 have HT2:=hid (HT.out.trans ht (fun i hi=>.inl hi))
 have HV2:=hid (HV.out.on (turn_below ht HV.out.le hBb))
 clear ha ht HA HZ HT HV hc2 hrl2 HZl
 generalize rText s=r at *
 obtain ⟨tx,s2⟩:=r
 simp only at HO1 HO2 HTl HA2 ⊢
 go_wp2_with fail
 refine (evRead_any tx w2 HV2.out (by have:=HTl.out;have:=HL.out;omega)).mono ?_
 rintro en w3 ⟨x,rfl,hev,hok,hfr,hb3⟩
 have HA3:=hid (HA2.out.now hb3)
 have HZ3:=hid ((hb3.block bx (box_lt HZ2.out)).trans HZ2.out)
 have HT3:=hid (HT2.out.trans (Turn.below (F:=One b) hb3) (fun i hi=>.inl hi))
 have HOk:=hid hok
 have HEv:=hid hev
 have HFr:Hid (∀ i,x.at_ i→w.heap.size<i):=hid (fun i hi=>by have:=hfr i hi;have:=box_lt HZ2.out;have:=HBx.out;omega)
 clear hb3 hok hev hfr HA2 HZ2 HT2 HV2
 go_upto_region 2 with fail
 change Code.wp _ _ _ _ (w3.alloc (.cells (x.ev.cs x.cA x.cc x.fA x.fc) 56))
 have hb4:Below w3.heap.size w3 (w3.alloc (.cells (x.ev.cs x.cA x.cc x.fA x.fc) 56)):=by repeat (first | with_reducible exact Below.refl _ _ | with_reducible assumption | with_reducible refine Below.drew ?_ | with_reducible refine Below.alloc ?_ (by first | omega | (simp;done) | (simp;omega)) _)
 have hr4:(w3.alloc (.cells (x.ev.cs x.cA x.cc x.fA x.fc) 56)).rangeAt w3.heap.size 0 (x.ev.cs x.cA x.cc x.fA x.fc).toList:=range_block (MapKept.heap_alloc w3 _).1 rfl
 have HR4:=hid hr4
 have HA4:=hid (HA3.out.now hb4)
 have HZ4:=hid ((hb4.block bx (box_lt HZ3.out)).trans HZ3.out)
 have HT4:=hid (HT3.out.trans (Turn.below (F:=One b) hb4) (fun i hi=>.inl hi))
 have HOk4:=hid (HOk.out.frame (fun i hi=>hb4.block i (HOk.out.2 i hi)) hb4.size)
 clear hb4 hr4 HA3 HZ3 HT3 HOk
 generalize w3.alloc (.cells (x.ev.cs x.cA x.cc x.fA x.fc) 56)=w4 at *
 have HTh:=hid (show w4.there bx 0 12 from there_of_box HZ4.out)
 go_wp2_with (first
  | ((with_reducible show wpList _ _ _ (Oper.mk _ (Op.load 56 _) _ _ _ _::_) _ _);refine wpList_load_g rfl 56 (.tmp 2) rfl w3.heap.size 0 rfl (x.ev.cs x.cA x.cc x.fA x.fc).toList _ HR4.out Tryz.underlying56 rfl (by kernel_rfl) ?_)
  | ((with_reducible show wpList _ _ _ (Oper.mk _ (Op.store 56 (.tmp 1) _) _ _ _ _::_) _ _);refine wpList_store_box rfl 56 _ _ rfl bx (x.ev.cs x.cA x.cc x.fA x.fc) rfl rfl HTh.out (by kernel_rfl) (evOne x.ev x.cA x.cc x.fA x.fc) ?_;intro wS hrS htS hgS;have HRS:=hid hrS;have HGS:=hid hgS;clear hrS htS hgS)
  | fail)
 refine ret_box 1 56 rfl bx _ _ rfl HRS.out Tryz.underlying56 rfl (by kernel_rfl) rfl ?_
 refine ⟨x,rfl,by rw [HO1.out];exact HEv.out,HOk4.out.frame (fun i hi=>HGS.out.block i (HOk4.out.2 i hi) (fun he=>?_)) HGS.out.size,fun i hi=>Nat.le_of_lt (HFr.out i hi),?_,?_⟩
 ·have:=HFr.out i hi;have:=HBx.out;injection he with he;omega
 ·rw [HO2.out]
  exact (HGS.out.block b (Nat.lt_of_lt_of_le HBl.out HT4.out.size) (fun he=>by have:=HBx.out;have:=HBl.out;injection he with he;omega)).trans HA4.out
 ·exact HT4.out.trans (Turn.grown (F:=One bx) HGS.out (fun k hk=>(Option.some.inj hk).symm)) (fun i hi=>.inr (by have:=HBx.out;unfold One at hi;omega))
section
variable {B rb b:Nat} {w:World}
theorem rc3_fun (hV:Vs B w) (hBb:B≤b) (hc:w.cell? ⟨rb,0,none⟩=some (.pointer (some ⟨b,0,none⟩))) (hrl:rb<w.heap.size) (hne:rb≠b) :
  FunR b w ⟨30,#[],#[.pointer (some ⟨rb,0,none⟩)]⟩ EvL.v (fun x:EvL=>x.ev) okEv EvL.at_ oneE :=
 ⟨fun args w'=>enter_fn Tryz.func30 (by kernel_rfl) rfl args w',fun s w' t ha hl=>rc3_any rb b s w' (hV.on (turn_below t hV.le hBb)) hBb (cell_turn t hrl hne hc) (Nat.lt_of_lt_of_le hrl t.size) hne ha hl⟩
theorem rc1_fun (hV:Vs B w) (hBb:B≤b) (hc:w.cell? ⟨rb,0,none⟩=some (.pointer (some ⟨b,0,none⟩))) (hrl:rb<w.heap.size) (hne:rb≠b) :
  FunR b w ⟨26,#[],#[.pointer (some ⟨rb,0,none⟩)]⟩ D2.v (fun x:D2=>x) (fun (_:World) (_:D2)=>True) (fun (_:D2) (_:Nat)=>False) one2 :=
 ⟨fun args w'=>enter_fn Tryz.func26 (by kernel_rfl) rfl args w',fun s w' t ha hl=>(rc1_any rb b s w' (hV.on (turn_below t hV.le hBb)) hBb (cell_turn t hrl hne hc) (Nat.lt_of_lt_of_le hrl t.size) hne ha hl).mono
  fun e w'' ⟨he,h1,h2⟩=>⟨(one2 s).1,he,rfl,trivial,fun _ hf=>hf.elim,h1,h2⟩⟩
theorem rc2_fun (hV:Vs B w) (hBb:B≤b) (hc:w.cell? ⟨rb,0,none⟩=some (.pointer (some ⟨b,0,none⟩))) (hrl:rb<w.heap.size) (hne:rb≠b) :
  FunR b w ⟨28,#[],#[.pointer (some ⟨rb,0,none⟩)]⟩ E5.v (fun x:E5=>x) (fun (_:World) (_:E5)=>True) (fun (_:E5) (_:Nat)=>False) one5 :=
 ⟨fun args w'=>enter_fn Tryz.func28 (by kernel_rfl) rfl args w',fun s w' t ha hl=>(rc2_any rb b s w' (hV.on (turn_below t hV.le hBb)) hBb (cell_turn t hrl hne hc) (Nat.lt_of_lt_of_le hrl t.size) hne ha hl).mono
  fun e w'' ⟨he,h1,h2⟩=>⟨(one5 s).1,he,rfl,trivial,fun _ hf=>hf.elim,h1,h2⟩⟩
theorem rc4_fun (hV:Vs B w) (hBb:B≤b) (hc:w.cell? ⟨rb,0,none⟩=some (.pointer (some ⟨b,0,none⟩))) (hrl:rb<w.heap.size) (hne:rb≠b) :
  FunR b w ⟨34,#[],#[.pointer (some ⟨rb,0,none⟩)]⟩ D4.v (fun x:D4=>x) (fun (_:World) (_:D4)=>True) (fun (_:D4) (_:Nat)=>False) one4 :=
 ⟨fun args w'=>enter_fn Tryz.func34 (by kernel_rfl) rfl args w',fun s w' t ha hl=>(rc4_any rb b s w' (hV.on (turn_below t hV.le hBb)) hBb (cell_turn t hrl hne hc) (Nat.lt_of_lt_of_le hrl t.size) hne ha hl).mono
  fun e w'' ⟨he,h1,h2⟩=>⟨(one4 s).1,he,rfl,trivial,fun _ hf=>hf.elim,h1,h2⟩⟩
theorem rc5_fun (hV:Vs B w) (hBb:B≤b) (hc:w.cell? ⟨rb,0,none⟩=some (.pointer (some ⟨b,0,none⟩))) (hrl:rb<w.heap.size) (hne:rb≠b) :
  FunR b w ⟨36,#[],#[.pointer (some ⟨rb,0,none⟩)]⟩ D3.v (fun x:D3=>x) (fun (_:World) (_:D3)=>True) (fun (_:D3) (_:Nat)=>False) one3 :=
 ⟨fun args w'=>enter_fn Tryz.func36 (by kernel_rfl) rfl args w',fun s w' t ha hl=>(rc5_any rb b s w' (hV.on (turn_below t hV.le hBb)) hBb (cell_turn t hrl hne hc) (Nat.lt_of_lt_of_le hrl t.size) hne ha hl).mono
  fun e w'' ⟨he,h1,h2⟩=>⟨(one3 s).1,he,rfl,trivial,fun _ hf=>hf.elim,h1,h2⟩⟩
theorem rc6_fun (hV:Vs B w) (hBb:B≤b) (hc:w.cell? ⟨rb,0,none⟩=some (.pointer (some ⟨b,0,none⟩))) (hrl:rb<w.heap.size) (hne:rb≠b) :
  FunR b w ⟨39,#[],#[.pointer (some ⟨rb,0,none⟩)]⟩ D4.v (fun x:D4=>x) (fun (_:World) (_:D4)=>True) (fun (_:D4) (_:Nat)=>False) one4 :=
 ⟨fun args w'=>enter_fn Tryz.func39 (by kernel_rfl) rfl args w',fun s w' t ha hl=>(rc6_any rb b s w' (hV.on (turn_below t hV.le hBb)) hBb (cell_turn t hrl hne hc) (Nat.lt_of_lt_of_le hrl t.size) hne ha hl).mono
  fun e w'' ⟨he,h1,h2⟩=>⟨(one4 s).1,he,rfl,trivial,fun _ hf=>hf.elim,h1,h2⟩⟩
theorem rc7_fun (hV:Vs B w) (hBb:B≤b) (hc:w.cell? ⟨rb,0,none⟩=some (.pointer (some ⟨b,0,none⟩))) (hrl:rb<w.heap.size) (hne:rb≠b) :
  FunR b w ⟨41,#[],#[.pointer (some ⟨rb,0,none⟩)]⟩ D3.v (fun x:D3=>x) (fun (_:World) (_:D3)=>True) (fun (_:D3) (_:Nat)=>False) one3 :=
 ⟨fun args w'=>enter_fn Tryz.func41 (by kernel_rfl) rfl args w',fun s w' t ha hl=>(rc7_any rb b s w' (hV.on (turn_below t hV.le hBb)) hBb (cell_turn t hrl hne hc) (Nat.lt_of_lt_of_le hrl t.size) hne ha hl).mono
  fun e w'' ⟨he,h1,h2⟩=>⟨(one3 s).1,he,rfl,trivial,fun _ hf=>hf.elim,h1,h2⟩⟩
theorem rc9_fun (hV:Vs B w) (hBb:B≤b) (hc:w.cell? ⟨rb,0,none⟩=some (.pointer (some ⟨b,0,none⟩))) (hrl:rb<w.heap.size) (hne:rb≠b) :
  FunR b w ⟨46,#[],#[.pointer (some ⟨rb,0,none⟩)]⟩ E3.v (fun x:E3=>x) (fun (_:World) (_:E3)=>True) (fun (_:E3) (_:Nat)=>False) oneB :=
 ⟨fun args w'=>enter_fn Tryz.func46 (by kernel_rfl) rfl args w',fun s w' t ha hl=>(rc9_any rb b s w' (hV.on (turn_below t hV.le hBb)) hBb (cell_turn t hrl hne hc) (Nat.lt_of_lt_of_le hrl t.size) hne ha hl).mono
  fun e w'' ⟨he,h1,h2⟩=>⟨(oneB s).1,he,rfl,trivial,fun _ hf=>hf.elim,h1,h2⟩⟩
theorem rc10_fun (hV:Vs B w) (hBb:B≤b) (hc:w.cell? ⟨rb,0,none⟩=some (.pointer (some ⟨b,0,none⟩))) (hrl:rb<w.heap.size) (hne:rb≠b) :
  FunR b w ⟨48,#[],#[.pointer (some ⟨rb,0,none⟩)]⟩ D4.v (fun x:D4=>x) (fun (_:World) (_:D4)=>True) (fun (_:D4) (_:Nat)=>False) oneH :=
 ⟨fun args w'=>enter_fn Tryz.func48 (by kernel_rfl) rfl args w',fun s w' t ha hl=>(rc10_any rb b s w' (hV.on (turn_below t hV.le hBb)) hBb (cell_turn t hrl hne hc) (Nat.lt_of_lt_of_le hrl t.size) hne ha hl).mono
  fun e w'' ⟨he,h1,h2⟩=>⟨(oneH s).1,he,rfl,trivial,fun _ hf=>hf.elim,h1,h2⟩⟩
theorem rc11_fun (hV:Vs B w) (hBb:B≤b) (hc:w.cell? ⟨rb,0,none⟩=some (.pointer (some ⟨b,0,none⟩))) (hrl:rb<w.heap.size) (hne:rb≠b) :
  FunR b w ⟨51,#[],#[.pointer (some ⟨rb,0,none⟩)]⟩ D4.v (fun x:D4=>x) (fun (_:World) (_:D4)=>True) (fun (_:D4) (_:Nat)=>False) one4 :=
 ⟨fun args w'=>enter_fn Tryz.func51 (by kernel_rfl) rfl args w',fun s w' t ha hl=>(rc11_any rb b s w' (hV.on (turn_below t hV.le hBb)) hBb (cell_turn t hrl hne hc) (Nat.lt_of_lt_of_le hrl t.size) hne ha hl).mono
  fun e w'' ⟨he,h1,h2⟩=>⟨(one4 s).1,he,rfl,trivial,fun _ hf=>hf.elim,h1,h2⟩⟩
theorem rc12_fun (hV:Vs B w) (hBb:B≤b) (hc:w.cell? ⟨rb,0,none⟩=some (.pointer (some ⟨b,0,none⟩))) (hrl:rb<w.heap.size) (hne:rb≠b) :
  FunR b w ⟨53,#[],#[.pointer (some ⟨rb,0,none⟩)]⟩ D3.v (fun x:D3=>x) (fun (_:World) (_:D3)=>True) (fun (_:D3) (_:Nat)=>False) one3 :=
 ⟨fun args w'=>enter_fn Tryz.func53 (by kernel_rfl) rfl args w',fun s w' t ha hl=>(rc12_any rb b s w' (hV.on (turn_below t hV.le hBb)) hBb (cell_turn t hrl hne hc) (Nat.lt_of_lt_of_le hrl t.size) hne ha hl).mono
  fun e w'' ⟨he,h1,h2⟩=>⟨(one3 s).1,he,rfl,trivial,fun _ hf=>hf.elim,h1,h2⟩⟩
end
theorem rc8_any {B:Nat} (rb nb b:Nat) (s:RS) (w:World) (hV:Vs B w) (hBb:B≤b) (hc:w.cell? ⟨rb,0,none⟩=some (.pointer (some ⟨b,0,none⟩))) (hrl:rb<w.heap.size) (hne:rb≠b)
  (hn:w.cell? ⟨nb,0,none⟩=some (.func (.func 28) #[] #[.pointer (some ⟨rb,0,none⟩)])) (hnl:nb<w.heap.size) (h:RdAt b s w) (hl:s.rest.length≤1000000000000) :
  Calls Tryz.prog 43 #[.pointer (some ⟨rb,0,none⟩),.pointer (some ⟨nb,0,none⟩)] w fun e w'=>∃ x:NL,e=.returned x.v∧x.l=(rdLs one5 s).1∧okNL w' x∧(∀ i,x.at_ i→w.heap.size≤i)∧RdAt b (rdLs one5 s).2 w'∧Turn (One b) w w':=by
 have HC:=hid (reNote_any b s ⟨28,#[],#[.pointer (some ⟨rb,0,none⟩)]⟩ one5 w hV hBb h hl one5_eats (rc2_fun hV hBb hc hrl hne))
 have HLn:=hid (rdLs_len one5_eats s)
 have HL:=hid hl
 clear hV h hl
 go_enter Tryz.func43,Tryz.ntmps43
 go_wp2_with fail
 refine HC.out.mono ?_
 rintro en w2 ⟨A,c,xs,rfl,hmap,hinv,ha,ht⟩
 have HM:=hid hmap
 have HI:=hid hinv
 have HA:=hid ha
 have HT:=hid ht
 clear hmap hinv ha ht hc hn hrl hnl
 go_wp2_with fail
 go_ret
 have hx:xs=(rdLs one5 s).1:=by have:=HM.out;rwa [List.map_id'] at this
 refine ⟨⟨xs,A,c⟩,rfl,hx,⟨⟨HI.out.own.rd layE5,?_,HI.out.own.len_le⟩,fun i hi=>(HI.out.own.blk_lt hi).2⟩,fun i hi=>(HI.out.own.blk_lt hi).1,HA.out,HT.out⟩
 have:=HLn.out;have:=HL.out;rw [hx];simp only;omega
theorem rc8_fun {B rb nb b:Nat} {w:World} (hV:Vs B w) (hBb:B≤b) (hc:w.cell? ⟨rb,0,none⟩=some (.pointer (some ⟨b,0,none⟩))) (hrl:rb<w.heap.size) (hne:rb≠b)
  (hn:w.cell? ⟨nb,0,none⟩=some (.func (.func 28) #[] #[.pointer (some ⟨rb,0,none⟩)])) (hnl:nb<w.heap.size) (hnn:nb≠b) :
  FunR b w ⟨43,#[],#[.pointer (some ⟨rb,0,none⟩),.pointer (some ⟨nb,0,none⟩)]⟩ NL.v (fun x:NL=>x.l) okNL NL.at_ (rdLs one5) :=
 ⟨fun args w'=>enter_fn Tryz.func43 (by kernel_rfl) rfl args w',fun s w' t ha hl=>rc8_any rb nb b s w' (hV.on (turn_below t hV.le hBb)) hBb (cell_turn t hrl hne hc) (Nat.lt_of_lt_of_le hrl t.size) hne (cell_turn t hnl hnn hn) (Nat.lt_of_lt_of_le hnl t.size) ha hl⟩
/- What is written of a state is read back: the plain law (layer 46). -/
theorem openGo_right:∀ (l L:List EvM),openGo L l=0→∀ e∈l,rightE e=true
 | [],_,_,e,he=>by cases he
 | x::r,L,h,e,he=>by
  rw [openGo] at h
  by_cases h0:stepC L x≠0
  ·rw [if_pos h0] at h;exact absurd h h0
  ·rw [if_neg h0] at h
   rcases List.mem_cons.1 he with rfl | he
   ·cases hr:rightE e with
    | true=>rfl
    | false=>exact absurd (by unfold stepC;rw [if_pos hr];decide) h0
   ·exact openGo_right r _ h e he
theorem toB_iff {n a b:Int}:toB n a b=true ↔ a≤n∧n≤b:=by simp [toB]
structure RightP (p:StP):Prop where
 ev:∀ e∈p.events,rightE e=true
 step:0≤p.step∧p.step≤1073741824
 queue:∀ x∈p.queue,okc1 (idB p.events.length) x=true
 sent:∀ x∈p.sent,okc2 (idB p.events.length) x=true
 refused:∀ x∈p.refused,okc3 (idB p.events.length) x=true
 pairs:∀ x∈p.pairs,validP (prD x)=true
 proofs:∀ x∈p.proofs,okn1 x=true
 notes:∀ l∈p.notes,l.length≤1000∧∀ x∈l,okn3 (idB p.events.length) x=true
 bad:∀ x∈p.bad,toB x.a 0 1073741824=true∧toB x.b 0 1073741824=true
 holds:∀ x∈p.holds,hoOk x=true
 orders:∀ x∈p.orders,oka1 (idB p.events.length) x=true
 sealed:∀ x∈p.sealed,oka2 (idB p.events.length) x=true
 debts:∀ x∈p.debts,okc3 (idB p.events.length) x=true
theorem rightGo_valid:∀ (l pre:List Pair),rightGo pre l=true→∀ x∈l,validP x=true
 | [],_,_,x,hx=>by cases hx
 | y::r,pre,h,x,hx=>by
  simp only [rightGo,Bool.and_eq_true] at h
  rcases List.mem_cons.1 hx with rfl | hx
  ·exact h.1.1
  ·exact rightGo_valid r _ h.2 x hx
theorem stateP_right {p:StP} (h:stateP p=true):RightP p:=by
 unfold stateP stateB carriedB notedB askedB badB holdsB debtsB at h
 have e1:evsL p.lift.events=p.events:=by simp [StP.lift,evsL,List.map_map,Function.comp_def]
 have e2:p.lift.events.length=p.events.length:=by simp [StP.lift]
 rw [e1,e2] at h
 simp only [Bool.and_eq_true,beq_iff_eq,toB_iff] at h
 obtain ⟨h1,h2,⟨h3,h4,h5,_⟩,h6,⟨h7,h8,⟨h9,_⟩,_⟩,⟨h10,_⟩,h11,h12,h13,_⟩:=h
 refine ⟨openGo_right _ _ h1,h2,List.all_eq_true.1 h3,List.all_eq_true.1 h4,List.all_eq_true.1 h5,fun x hx=>?_,List.all_eq_true.1 h7,fun l hl=>?_,fun x hx=>?_,List.all_eq_true.1 h10,List.all_eq_true.1 h11,List.all_eq_true.1 h12,List.all_eq_true.1 h13⟩
 ·exact rightGo_valid _ _ h6 _ (List.mem_map.2 ⟨x,hx,rfl⟩)
 ·have:=List.all_eq_true.1 h8 ⟨l,none,0⟩ (List.mem_map.2 ⟨l,hl,rfl⟩)
  unfold noteOk at this
  simp only [Bool.and_eq_true,decide_eq_true_eq] at this
  exact ⟨this.1,List.all_eq_true.1 this.2⟩
 ·have:=List.all_eq_true.1 h9 x hx
  simpa using this
theorem encN_ne {n:Int} (h:0≤n) (r:List UInt8):encN n++r≠[]:=by rw [encN_pos h];simp [encI]
theorem numsL_cons (n:Int) (l:List Int):numsL (n::l)=encN n++numsL l:=rfl
theorem numsL_nil:numsL []=[]:=rfl
theorem idB_iff {n:Nat} {i:Int}:idB n i=true ↔ 0≤i∧i<n:=by
 unfold idB
 rw [toB_iff]
 omega
theorem back_queue {n:Nat} (hn:n≤1000000000000) {x:D4} (h:okc1 (idB n) x=true):encD4 x≠[]∧∀ tl,one4 ⟨encD4 x++tl,false⟩=(x,⟨tl,false⟩):=by
 simp only [okc1,Bool.and_eq_true,toB_iff,idB_iff] at h
 have g0:0≤x.a∧x.a≤9223372036854775807:=by omega
 have g1:0≤x.b∧x.b≤9223372036854775807:=by omega
 have g2:0≤x.c∧x.c≤9223372036854775807:=by omega
 have g3:0≤x.d∧x.d≤9223372036854775807:=by omega
 obtain ⟨a,b,c,d⟩:=x
 simp only at g0 g1 g2 g3
 unfold encD4
 simp only [numsL_cons,numsL_nil,List.append_assoc,List.append_nil,List.nil_append]
 refine ⟨encN_ne g0.1 _,fun tl=>?_⟩
 unfold one4
 rw [rdN_back g0.1 g0.2]
 simp only
 rw [rdN_back g1.1 g1.2]
 simp only
 rw [rdN_back g2.1 g2.2]
 simp only
 rw [rdN_back g3.1 g3.2]
theorem back_sent {n:Nat} (hn:n≤1000000000000) {x:D3} (h:okc2 (idB n) x=true):encD3 x≠[]∧∀ tl,one3 ⟨encD3 x++tl,false⟩=(x,⟨tl,false⟩):=by
 simp only [okc2,Bool.and_eq_true,toB_iff,idB_iff] at h
 have g0:0≤x.a∧x.a≤9223372036854775807:=by omega
 have g1:0≤x.b∧x.b≤9223372036854775807:=by omega
 have g2:0≤x.c∧x.c≤9223372036854775807:=by omega
 obtain ⟨a,b,c⟩:=x
 simp only at g0 g1 g2
 unfold encD3
 simp only [numsL_cons,numsL_nil,List.append_assoc,List.append_nil,List.nil_append]
 refine ⟨encN_ne g0.1 _,fun tl=>?_⟩
 unfold one3
 rw [rdN_back g0.1 g0.2]
 simp only
 rw [rdN_back g1.1 g1.2]
 simp only
 rw [rdN_back g2.1 g2.2]
theorem back_debt {n:Nat} (hn:n≤1000000000000) {x:D2} (h:okc3 (idB n) x=true):encD2 x≠[]∧∀ tl,one2 ⟨encD2 x++tl,false⟩=(x,⟨tl,false⟩):=by
 simp only [okc3,Bool.and_eq_true,toB_iff,idB_iff] at h
 have g0:0≤x.a∧x.a≤9223372036854775807:=by omega
 have g1:0≤x.b∧x.b≤9223372036854775807:=by omega
 obtain ⟨a,b⟩:=x
 simp only at g0 g1
 unfold encD2
 simp only [numsL_cons,numsL_nil,List.append_assoc,List.append_nil,List.nil_append]
 refine ⟨encN_ne g0.1 _,fun tl=>?_⟩
 unfold one2
 rw [rdN_back g0.1 g0.2]
 simp only
 rw [rdN_back g1.1 g1.2]
theorem back_pair {n:Nat} (hn:n≤1000000000000) {x:D4} (h:validP (prD x)=true):encD4 x≠[]∧∀ tl,one4 ⟨encD4 x++tl,false⟩=(x,⟨tl,false⟩):=by
 obtain ⟨⟨⟨⟨h0,_⟩,h1,h2⟩,h3,h4⟩,h5,h6⟩:(((0≤x.a∧x.a≤11)∧(0≤x.b∧x.b≤1099511627776))∧(0≤x.c∧x.c≤99999))∧(0≤x.d∧x.d≤99):=by
  have h':(inB x.a 11 && inB x.b 1099511627776 && inB x.c 99999 && inB x.d 99)=true:=h
  simpa only [inB,Bool.and_eq_true,decide_eq_true_eq] using h'
 have g0:0≤x.a∧x.a≤9223372036854775807:=by omega
 have g1:0≤x.b∧x.b≤9223372036854775807:=by omega
 have g2:0≤x.c∧x.c≤9223372036854775807:=by omega
 have g3:0≤x.d∧x.d≤9223372036854775807:=by omega
 obtain ⟨a,b,c,d⟩:=x
 simp only at g0 g1 g2 g3
 unfold encD4
 simp only [numsL_cons,numsL_nil,List.append_assoc,List.append_nil,List.nil_append]
 refine ⟨encN_ne g0.1 _,fun tl=>?_⟩
 unfold one4
 rw [rdN_back g0.1 g0.2]
 simp only
 rw [rdN_back g1.1 g1.2]
 simp only
 rw [rdN_back g2.1 g2.2]
 simp only
 rw [rdN_back g3.1 g3.2]
theorem back_proof {n:Nat} (hn:n≤1000000000000) {x:D3} (h:okn1 x=true):encD3 x≠[]∧∀ tl,one3 ⟨encD3 x++tl,false⟩=(x,⟨tl,false⟩):=by
 simp only [okn1,Bool.and_eq_true,toB_iff] at h
 have g0:0≤x.a∧x.a≤9223372036854775807:=by omega
 have g1:0≤x.b∧x.b≤9223372036854775807:=by omega
 have g2:0≤x.c∧x.c≤9223372036854775807:=by omega
 obtain ⟨a,b,c⟩:=x
 simp only at g0 g1 g2
 unfold encD3
 simp only [numsL_cons,numsL_nil,List.append_assoc,List.append_nil,List.nil_append]
 refine ⟨encN_ne g0.1 _,fun tl=>?_⟩
 unfold one3
 rw [rdN_back g0.1 g0.2]
 simp only
 rw [rdN_back g1.1 g1.2]
 simp only
 rw [rdN_back g2.1 g2.2]
theorem back_note {n:Nat} (hn:n≤1000000000000) {x:E5} (h:okn3 (idB n) x=true):encE5 x≠[]∧∀ tl,one5 ⟨encE5 x++tl,false⟩=(x,⟨tl,false⟩):=by
 simp only [okn3,Bool.and_eq_true,toB_iff,idB_iff] at h
 have g0:0≤x.a∧x.a≤9223372036854775807:=by omega
 have g1:0≤x.b∧x.b≤9223372036854775807:=by omega
 have g2:0≤x.c∧x.c≤9223372036854775807:=by omega
 have g3:0≤x.d∧x.d≤9223372036854775807:=by omega
 obtain ⟨a,b,c,d,t⟩:=x
 simp only at g0 g1 g2 g3
 unfold encE5
 simp only [numsL_cons,numsL_nil,List.append_assoc,List.append_nil,List.nil_append]
 refine ⟨encN_ne g0.1 _,fun tl=>?_⟩
 unfold one5
 rw [rdN_back g0.1 g0.2]
 simp only
 rw [rdN_back g1.1 g1.2]
 simp only
 rw [rdN_back g2.1 g2.2]
 simp only
 rw [rdN_back g3.1 g3.2]
 simp only
 rw [rdN_back (by cases t <;> decide) (by cases t <;> decide)]
 cases t <;> rfl
theorem back_bad {n:Nat} (hn:n≤1000000000000) {x:E3} (h:toB x.a 0 1073741824=true∧toB x.b 0 1073741824=true):encE3 x≠[]∧∀ tl,oneB ⟨encE3 x++tl,false⟩=(x,⟨tl,false⟩):=by
 simp only [toB_iff] at h
 have g0:0≤x.a∧x.a≤9223372036854775807:=by omega
 have g1:0≤x.b∧x.b≤9223372036854775807:=by omega
 obtain ⟨a,b,t⟩:=x
 simp only at g0 g1
 unfold encE3
 simp only [numsL_cons,numsL_nil,List.append_assoc,List.append_nil,List.nil_append]
 refine ⟨encN_ne g0.1 _,fun tl=>?_⟩
 unfold oneB
 rw [rdN_back g0.1 g0.2]
 simp only
 rw [rdN_back g1.1 g1.2]
 simp only
 rw [rdN_back (by cases t <;> decide) (by cases t <;> decide)]
 cases t <;> rfl
theorem back_order {n:Nat} (hn:n≤1000000000000) {x:D4} (h:oka1 (idB n) x=true):encD4 x≠[]∧∀ tl,one4 ⟨encD4 x++tl,false⟩=(x,⟨tl,false⟩):=by
 simp only [oka1,Bool.and_eq_true,toB_iff,idB_iff] at h
 have g0:0≤x.a∧x.a≤9223372036854775807:=by omega
 have g1:0≤x.b∧x.b≤9223372036854775807:=by omega
 have g2:0≤x.c∧x.c≤9223372036854775807:=by omega
 have g3:0≤x.d∧x.d≤9223372036854775807:=by omega
 obtain ⟨a,b,c,d⟩:=x
 simp only at g0 g1 g2 g3
 unfold encD4
 simp only [numsL_cons,numsL_nil,List.append_assoc,List.append_nil,List.nil_append]
 refine ⟨encN_ne g0.1 _,fun tl=>?_⟩
 unfold one4
 rw [rdN_back g0.1 g0.2]
 simp only
 rw [rdN_back g1.1 g1.2]
 simp only
 rw [rdN_back g2.1 g2.2]
 simp only
 rw [rdN_back g3.1 g3.2]
theorem back_sealed {n:Nat} (hn:n≤1000000000000) {x:D3} (h:oka2 (idB n) x=true) (hc:x.c≤9223372036854775807):encD3 x≠[]∧∀ tl,one3 ⟨encD3 x++tl,false⟩=(x,⟨tl,false⟩):=by
 simp only [oka2,Bool.and_eq_true,toB_iff,idB_iff,decide_eq_true_eq] at h
 have g0:0≤x.a∧x.a≤9223372036854775807:=by omega
 have g1:0≤x.b∧x.b≤9223372036854775807:=by omega
 have g2:0≤x.c∧x.c≤9223372036854775807:=by omega
 obtain ⟨a,b,c⟩:=x
 simp only at g0 g1 g2
 unfold encD3
 simp only [numsL_cons,numsL_nil,List.append_assoc,List.append_nil,List.nil_append]
 refine ⟨encN_ne g0.1 _,fun tl=>?_⟩
 unfold one3
 rw [rdN_back g0.1 g0.2]
 simp only
 rw [rdN_back g1.1 g1.2]
 simp only
 rw [rdN_back g2.1 g2.2]
theorem back_hold {n:Nat} (hn:n≤1000000000000) {x:D4} (h:hoOk x=true) (hc:x.a≤9223372036854775807∧x.b≤9223372036854775807):encH x≠[]∧∀ tl,oneH ⟨encH x++tl,false⟩=(x,⟨tl,false⟩):=by
 have h0:(0≤x.a∧0≤x.b)∧(0≤x.c∧x.c≤1073741824)∧(x.d=-1∨(0≤x.d∧x.d≤1073741824)):=by
  unfold hoOk toB at h
  simp only [Bool.and_eq_true,Bool.not_eq_true',Bool.or_eq_false_iff,Bool.and_eq_false_iff,bne_eq_false_iff_eq,decide_eq_false_iff_not,Bool.not_eq_false',Bool.and_eq_true,decide_eq_true_eq] at h
  omega
 have g0:0≤x.a∧x.a≤9223372036854775807:=by omega
 have g1:0≤x.b∧x.b≤9223372036854775807:=by omega
 have g2:0≤x.c∧x.c≤9223372036854775807:=by omega
 have g3:InInt x.d:=⟨by omega,by omega⟩
 obtain ⟨a,b,c,d⟩:=x
 simp only at g0 g1 g2 g3
 unfold encH
 simp only [numsL_cons,numsL_nil,List.append_assoc,List.append_nil,List.nil_append]
 refine ⟨encN_ne g0.1 _,fun tl=>?_⟩
 unfold oneH
 rw [rdN_back g0.1 g0.2]
 simp only
 rw [rdN_back g1.1 g1.2]
 simp only
 rw [rdN_back g2.1 g2.2]
 simp only
 rw [rdI_back g3]
theorem back_ev {e:EvM} (h:rightE e=true):encEv e≠[]∧∀ tl,oneE ⟨encEv e++tl,false⟩=(e,⟨tl,false⟩):=by
 have hl:=textE_len e
 refine ⟨by simp [encEv,encT],fun tl=>?_⟩
 unfold oneE encEv
 rw [rText_back _ _ ⟨by omega,by omega⟩]
 simp only
 rw [readE_back h]
theorem lst_ne {T:Type} (one:T→List UInt8) (l:List T):lstE one l≠[]:=encN_ne (by omega) _
theorem rawP_back {p:StP} (h:stateP p=true) (N:NumsP p):rawP ⟨bodyP p,false⟩=(p,⟨[],false⟩):=by
 have R:=stateP_right h
 have hn:p.events.length≤1000000000000:=by have:=N.ev;omega
 have big:∀ k:Nat,k≤1000000→k≤9223372036854775807:=fun k h=>by omega
 have e:bodyP p=encN p.step++(lstE encEv p.events++(lstE encD4 p.queue++(lstE encD3 p.sent++(lstE encD2 p.refused++(lstE encD4 p.pairs++(lstE encD3 p.proofs++(lstE (lstE encE5) p.notes++(lstE encE3 p.bad++(lstE encH p.holds++(lstE encD4 p.orders++(lstE encD3 p.sealed++(lstE encD2 p.debts++[])))))))))))):=by
  simp only [bodyP,partsP,List.flatMap_cons,List.flatMap_nil,id]
 rw [e]
 unfold rawP
 rw [rdN_back R.step.1 (by have:=R.step.2;omega)]
 simp only
 rw [rdLs_back oneE encEv _ _ (big _ N.ev) (fun x hx=>(back_ev (R.ev x hx)).1) (fun x hx=>(back_ev (R.ev x hx)).2)]
 simp only
 rw [rdLs_back one4 encD4 _ _ (big _ N.l1) (fun x hx=>(back_queue hn (R.queue x hx)).1) (fun x hx=>(back_queue hn (R.queue x hx)).2)]
 simp only
 rw [rdLs_back one3 encD3 _ _ (big _ N.l2) (fun x hx=>(back_sent hn (R.sent x hx)).1) (fun x hx=>(back_sent hn (R.sent x hx)).2)]
 simp only
 rw [rdLs_back one2 encD2 _ _ (big _ N.l3) (fun x hx=>(back_debt hn (R.refused x hx)).1) (fun x hx=>(back_debt hn (R.refused x hx)).2)]
 simp only
 rw [rdLs_back one4 encD4 _ _ (big _ N.l4) (fun x hx=>(back_pair hn (R.pairs x hx)).1) (fun x hx=>(back_pair hn (R.pairs x hx)).2)]
 simp only
 rw [rdLs_back one3 encD3 _ _ (big _ N.l5) (fun x hx=>(back_proof hn (R.proofs x hx)).1) (fun x hx=>(back_proof hn (R.proofs x hx)).2)]
 simp only
 rw [rdLs_back (rdLs one5) (lstE encE5) _ _ (big _ N.l6) (fun x _=>lst_ne _ x) (fun l hl tl=>rdLs_back one5 encE5 l tl (big _ (by have:=(R.notes l hl).1;omega)) (fun x hx=>(back_note hn ((R.notes l hl).2 x hx)).1) (fun x hx=>(back_note hn ((R.notes l hl).2 x hx)).2))]
 simp only
 rw [rdLs_back oneB encE3 _ _ (big _ N.l7) (fun x hx=>(back_bad hn (R.bad x hx)).1) (fun x hx=>(back_bad hn (R.bad x hx)).2)]
 simp only
 rw [rdLs_back oneH encH _ _ (big _ N.l8) (fun x hx=>(back_hold hn (R.holds x hx) (N.holds x hx)).1) (fun x hx=>(back_hold hn (R.holds x hx) (N.holds x hx)).2)]
 simp only
 rw [rdLs_back one4 encD4 _ _ (big _ N.l9) (fun x hx=>(back_order hn (R.orders x hx)).1) (fun x hx=>(back_order hn (R.orders x hx)).2)]
 simp only
 rw [rdLs_back one3 encD3 _ _ (big _ N.la) (fun x hx=>(back_sealed hn (R.sealed x hx) (N.sealed x hx)).1) (fun x hx=>(back_sealed hn (R.sealed x hx) (N.sealed x hx)).2)]
 simp only
 rw [rdLs_back one2 encD2 _ _ (big _ N.lb) (fun x hx=>(back_debt hn (R.debts x hx)).1) (fun x hx=>(back_debt hn (R.debts x hx)).2)]
theorem bodyP_ne {p:StP} (h:stateP p=true):bodyP p≠[]:=by
 have R:=stateP_right h
 simp only [bodyP,partsP,List.flatMap_cons,id]
 exact encN_ne R.step.1 _
theorem readP_back {p:StP} (h:stateP p=true) (N:NumsP p):readP (textP p)=(p,0):=by
 have h1:textP p=bodyP p:=by unfold textP;rw [if_pos h]
 have h2:=rawP_back h N
 unfold readP
 rw [h1,h2,if_pos ⟨rfl,bodyP_ne h,h1⟩]
/- Contract of state.Text (layer 46;written by genstx.py). -/
theorem RdL.blockW {T:Type} {sz:Nat} {enc:T→List Value} (L:Lay sz enc) (w:World) (xs:List T) (cs:Array Value) (t:TypeId) (h:cs.toList=xs.flatMap enc) (b:Nat) (hb:b=w.heap.size) :
  RdL sz enc (w.alloc (.cells cs t)) (w.alloc (.cells cs t)).heap.size (some ⟨b,0,none⟩) xs:=by
 subst hb
 intro k x hx
 refine ⟨_,_,rfl,by simp,fun j v hj=>?_⟩
 have hg:=flat_get L xs k j x v hx hj
 rw [← h] at hg
 unfold World.cell?
 simp only [heap_alloc_new]
 simpa using hg
theorem lstE_map {T U:Type} (f:U→List UInt8) (g:T→U) (l:List T):lstE f (l.map g)=lstE (fun x=>f (g x)) l:=by
 unfold lstE
 rw [List.length_map,List.flatMap_map]
theorem lstE_len {T:Type} (f:T→List UInt8) (l:List T) (m:Nat) (hm:m≤1000000) (hl:l.length≤1000000) (h:∀ x∈l,(f x).length≤m):(l.flatMap f).length≤1000000000000∧(lstE f l).length≤1000000000022:=by
 have h1:=flat_bound f m l h
 have h2:l.length * m≤1000000 * 1000000:=Nat.mul_le_mul hl hm
 have h3:=encN_len l.length ⟨by omega,by omega⟩
 unfold lstE
 rw [List.length_append]
 omega
theorem nums_len {xs:List Int} (n:Nat) (h:∀ y∈xs,InInt y) (hn:xs.length≤n):(numsL xs).length≤22 * n:=by
 have:=numsL_len xs h
 omega
theorem encD2_len {x:D2} (h:InInt x.a∧InInt x.b):(encD2 x).length≤1000:=Nat.le_trans (nums_len 2 (fun y hy=>by simp only [List.mem_cons,List.not_mem_nil,or_false] at hy;rcases hy with rfl | rfl;exact h.1;exact h.2) (by simp)) (by omega)
theorem encD3_len {x:D3} (h:InInt x.a∧InInt x.b∧InInt x.c):(encD3 x).length≤1000:=Nat.le_trans (nums_len 3 (fun y hy=>by simp only [List.mem_cons,List.not_mem_nil,or_false] at hy;rcases hy with rfl | rfl | rfl;exact h.1;exact h.2.1;exact h.2.2) (by simp)) (by omega)
theorem encD4_len {x:D4} (h:InInt x.a∧InInt x.b∧InInt x.c∧InInt x.d):(encD4 x).length≤1000:=Nat.le_trans (nums_len 4 (fun y hy=>by simp only [List.mem_cons,List.not_mem_nil,or_false] at hy;rcases hy with rfl | rfl | rfl | rfl;exact h.1;exact h.2.1;exact h.2.2.1;exact h.2.2.2) (by simp)) (by omega)
theorem encH_len {x:D4} (h:InInt x.a∧InInt x.b∧InInt x.c∧InInt x.d):(encH x).length≤1000:=by
 have h1:=nums_len (xs:=[x.a,x.b,x.c]) 3 (fun y hy=>by simp only [List.mem_cons,List.not_mem_nil,or_false] at hy;rcases hy with rfl | rfl | rfl;exact h.1;exact h.2.1;exact h.2.2.1) (by simp)
 have h2:=encI_len x.d h.2.2.2
 unfold encH
 rw [List.length_append]
 omega
theorem encE3_len {x:E3} (h:InInt x.a∧InInt x.b):(encE3 x).length≤1000:=Nat.le_trans (nums_len 3 (fun y hy=>by simp only [List.mem_cons,List.not_mem_nil,or_false] at hy;rcases hy with rfl | rfl | rfl;exact h.1;exact h.2;cases x.t <;> exact ⟨by decide,by decide⟩) (by simp)) (by omega)
structure WfP (p:StP):Prop where
 step:InInt p.step
 queue:∀ x∈p.queue,InInt x.a∧InInt x.b∧InInt x.c∧InInt x.d
 sent:∀ x∈p.sent,InInt x.a∧InInt x.b∧InInt x.c
 refused:∀ x∈p.refused,InInt x.a∧InInt x.b
 pairs:∀ x∈p.pairs,InInt x.a∧InInt x.b∧InInt x.c∧InInt x.d
 proofs:∀ x∈p.proofs,InInt x.a∧InInt x.b∧InInt x.c
 notes:∀ l∈p.notes,l.length≤1000∧∀ x∈l,E5.wf4 x
 bad:∀ x∈p.bad,InInt x.a∧InInt x.b
 holds:∀ x∈p.holds,InInt x.a∧InInt x.b∧InInt x.c∧InInt x.d
 orders:∀ x∈p.orders,InInt x.a∧InInt x.b∧InInt x.c∧InInt x.d
 sealed:∀ x∈p.sealed,InInt x.a∧InInt x.b∧InInt x.c
 debts:∀ x∈p.debts,InInt x.a∧InInt x.b
theorem RightP.wf {p:StP} (R:RightP p) (N:NumsP p):WfP p:=by
 have hn:=N.ev
 refine ⟨⟨by have:=R.step;omega,by have:=R.step;omega⟩,fun x hx=>?_,fun x hx=>?_,fun x hx=>?_,fun x hx=>?_,fun x hx=>?_,fun l hl=>⟨(R.notes l hl).1,fun x hx=>?_⟩,fun x hx=>?_,fun x hx=>?_,fun x hx=>?_,fun x hx=>?_,fun x hx=>?_⟩
 ·have h:=R.queue x hx
  simp only [okc1,Bool.and_eq_true,toB_iff,idB_iff] at h
  exact ⟨⟨by omega,by omega⟩,⟨by omega,by omega⟩,⟨by omega,by omega⟩,by omega,by omega⟩
 ·have h:=R.sent x hx
  simp only [okc2,Bool.and_eq_true,toB_iff,idB_iff] at h
  exact ⟨⟨by omega,by omega⟩,⟨by omega,by omega⟩,by omega,by omega⟩
 ·have h:=R.refused x hx
  simp only [okc3,Bool.and_eq_true,toB_iff,idB_iff] at h
  exact ⟨⟨by omega,by omega⟩,by omega,by omega⟩
 ·obtain ⟨⟨⟨⟨h0,_⟩,h1,h2⟩,h3,h4⟩,h5,h6⟩:(((0≤x.a∧x.a≤11)∧(0≤x.b∧x.b≤1099511627776))∧(0≤x.c∧x.c≤99999))∧(0≤x.d∧x.d≤99):=by
   have h':(inB x.a 11 && inB x.b 1099511627776 && inB x.c 99999 && inB x.d 99)=true:=R.pairs x hx
   simpa only [inB,Bool.and_eq_true,decide_eq_true_eq] using h'
  exact ⟨⟨by omega,by omega⟩,⟨by omega,by omega⟩,⟨by omega,by omega⟩,by omega,by omega⟩
 ·have h:=R.proofs x hx
  simp only [okn1,Bool.and_eq_true,toB_iff] at h
  exact ⟨⟨by omega,by omega⟩,⟨by omega,by omega⟩,by omega,by omega⟩
 ·have h:=(R.notes l hl).2 x hx
  simp only [okn3,Bool.and_eq_true,toB_iff,idB_iff] at h
  exact ⟨⟨by omega,by omega⟩,⟨by omega,by omega⟩,⟨by omega,by omega⟩,by omega,by omega⟩
 ·have h:=R.bad x hx
  simp only [toB_iff] at h
  exact ⟨⟨by omega,by omega⟩,by omega,by omega⟩
 ·have h:=R.holds x hx
  have hc:=N.holds x hx
  have h0:(0≤x.a∧0≤x.b)∧(0≤x.c∧x.c≤1073741824)∧(x.d=-1∨(0≤x.d∧x.d≤1073741824)):=by
   unfold hoOk toB at h
   simp only [Bool.and_eq_true,Bool.not_eq_true',Bool.or_eq_false_iff,Bool.and_eq_false_iff,bne_eq_false_iff_eq,decide_eq_false_iff_not,Bool.not_eq_false',Bool.and_eq_true,decide_eq_true_eq] at h
   omega
  exact ⟨⟨by omega,by omega⟩,⟨by omega,by omega⟩,⟨by omega,by omega⟩,by omega,by omega⟩
 ·have h:=R.orders x hx
  simp only [oka1,Bool.and_eq_true,toB_iff,idB_iff] at h
  exact ⟨⟨by omega,by omega⟩,⟨by omega,by omega⟩,⟨by omega,by omega⟩,by omega,by omega⟩
 ·have h:=R.sealed x hx
  have hc:=N.sealed x hx
  simp only [oka2,Bool.and_eq_true,toB_iff,idB_iff,decide_eq_true_eq] at h
  exact ⟨⟨by omega,by omega⟩,⟨by omega,by omega⟩,by omega,by omega⟩
 ·have h:=R.debts x hx
  simp only [okc3,Bool.and_eq_true,toB_iff,idB_iff] at h
  exact ⟨⟨by omega,by omega⟩,by omega,by omega⟩
theorem join_c (b:Nat) (m:List UInt8) (r:List (List UInt8)) (n:Nat) (hn:n=(m::r).length) (h2:2≤n) (h6:n≤1000001) (w:World) (h:RdL 1 strE w w.heap.size (some ⟨b,0,none⟩) (m::r)) (hl:((m::r).flatMap id).length≤140737488355328) :
  Calls Tryz.prog 90 #[.slice (some ⟨b,0,none⟩) n n,.string ⟨#[]⟩] w fun e w'=>e=.returned (.string (bs ((m::r).flatMap id)))∧Below w.heap.size w w':=by
 obtain ⟨b',off,he,hb,_⟩:=h.at_ (k:=0) (by simp)
 injection he with he
 injection he with he1 he2
 subst he1 he2
 refine join0_any m r b 0 n n w hn h2 (Nat.le_refl _) hb (fun k hk=>?_) hl h6
 obtain ⟨b',off,he,_,hc⟩:=h.at_ hk
 injection he with he
 injection he with he1 he2
 subst he1 he2
 simpa using hc 0 _ rfl
theorem stText_any {B:Nat} (s:Stt) (a:StAd) (w:World) (hV:Vs B w) (h:StOk w w.heap.size s a) (hpw:∀ x∈s.pairs.map prD,x.wf) (hN:NumsP s.pl) :
  Calls Tryz.prog 15 #[s.v a] w fun e w'=>e=.returned (.string (bs (textP s.pl)))∧Below w.heap.size w w':=by
 have hb0:Below w.heap.size w (w.alloc (.cells (s.arr a) 34)):=by repeat (first | with_reducible exact Below.refl _ _ | with_reducible assumption | with_reducible refine Below.drew ?_ | with_reducible refine Below.alloc ?_ (by first | omega | (simp;done) | (simp;omega)) _)
 have HB0:=hid hb0
 have HX:Hid (StBox w.heap.size s a (w.alloc (.cells (s.arr a) 34))):=hid ((MapKept.heap_alloc w _).1)
 have HV:=hid (hV.now hb0)
 have HS:=hid (h.now hb0)
 have HP:=hid hpw
 have HN:=hid hN
 clear hb0 hV h hpw hN
 go_enter Tryz.func15,Tryz.ntmps15
 go_upto_region 1 with fail
 generalize w.alloc (.cells (s.arr a) 34)=wb at *
 obtain ⟨bx,hbx⟩:∃ bx,bx=w.heap.size:=⟨_,rfl⟩
 rw [← hbx] at HX ⊢
 clear hbx
 have HXr:=hid (show wb.rangeAt bx 0 (s.arr a).toList from range_block HX.out rfl)
 go_wp2_with (first
  | ((with_reducible show wpList _ _ _ (Oper.mk _ (Op.load 34 _) _ _ _ _::_) _ _);refine wpList_load_g rfl 34 (.tmp 1) rfl bx 0 rfl (s.arr a).toList _ HXr.out Tryz.underlying34 rfl (by kernel_rfl) ?_)
  | fail)
 refine (stRight_any s a wb HS.out (by have h1:=HN.out.l4;have h2:s.pl.pairs=s.pairs:=rfl;rw [h2] at h1;omega) HP.out).mono ?_
 rintro e w1 ⟨rfl,hb1⟩
 have HX1:=hid (HX.out.now hb1)
 have HB1:=hid (HB0.out.trans (hb1.mono HB0.out.size))
 have HV1:=hid (HV.out.now hb1)
 have HS1:=hid (HS.out.now hb1)
 have hpl:=stateB_pl s
 clear hb1 HX HB0 HV HS HXr
 cases hR:stateB s with
 | false =>
  rw [hR] at hpl
  have HT:Hid (textP s.pl=[]):=hid (by unfold textP;rw [if_neg (by rw [← hpl];decide)])
  clear hR hpl
  go_wp2_with fail
  go_ret
  exact ⟨by rw [HT.out];rfl,HB1.out⟩
 | true =>
  rw [hR] at hpl
  have hT:textP s.pl=bodyP s.pl:=by unfold textP;rw [if_pos hpl.symm]
  have HW:=hid ((stateP_right hpl.symm).wf HN.out)
  have hT2:bodyP s.pl=[encN s.step,lstE (fun x=>encEv x.ev) s.events,lstE (encD4) s.queue,lstE (encD3) s.sent,lstE (encD2) s.refused,lstE (encD4) s.pairs,lstE (encD3) s.proofs,lstE (fun x=>lstE encE5 x.l) s.notes,lstE (encE3) s.bad,lstE (encH) s.holds,lstE (encD4) s.orders,lstE (encD3) s.sealed,lstE (encD2) s.debts].flatMap id:=by
   unfold bodyP partsP
   have h1:lstE encEv s.pl.events=lstE (fun x=>encEv x.ev) s.events:=lstE_map _ _ _
   have h2:lstE (lstE encE5) s.pl.notes=lstE (fun x=>lstE encE5 x.l) s.notes:=lstE_map _ _ _
   rw [h1,h2]
   rfl
  have HTr:=hid (hT.trans hT2)
  clear hR hpl hT hT2
  have HC:=hid (fun wq (h:Below w1.heap.size w1 wq)=>HX1.out.now h)
  have l0:=encN_len s.step HW.out.step
  have K0:Hid (∀ wq,Below w1.heap.size w1 wq→Calls Tryz.prog 91 #[.int .i64 s.step] wq fun en w'=>en=.returned (.string (bs (encN s.step)))∧Below wq.heap.size wq w'):=hid (fun wq h=>wNum_any s.step wq (HV1.out.now h) HW.out.step)
  have hc1:s.events.length≤1000000:=by
   have h1:=HN.out.ev
   have h2:s.pl.events.length=s.events.length:=by simp [Stt.pl]
   omega
  have hl1:=lstE_len (fun x=>encEv x.ev) s.events 5030 (by omega) hc1 (fun x _=>by show (encEv x.ev).length≤5030;exact encEv_len x.ev)
  have K1:Hid (∀ wq,Below w1.heap.size w1 wq→Calls Tryz.prog 92 #[.slice a.ke.1 s.events.length a.ke.2,.func (.func 93) #[] #[]] wq fun en w'=>en=.returned (.string (bs (lstE (fun x=>encEv x.ev) s.events)))∧Below wq.heap.size wq w'):=hid (fun wq h =>
   liEvent_any s.events (fun x=>encEv x.ev) ⟨93,#[],#[]⟩ a.ke.1 a.ke.2 wq (HV1.out.now h) (HS1.out.now h).ke (by omega) (by omega) ⟨fun args w'=>enter_fn Tryz.func93 (by kernel_rfl) rfl args w',fun x hx w2 h2=>tc2_any x w2 ((HV1.out.now h).now h2) ((HS1.out.now (h.trans (h2.mono h.size))).evs x hx)⟩)
  have hc2:s.queue.length≤1000000:=HN.out.l1
  have hl2:=lstE_len (encD4) s.queue 1000 (by omega) hc2 (fun x hx=>by show (encD4 x).length≤1000;exact encD4_len (HW.out.queue x hx))
  have K2:Hid (∀ wq,Below w1.heap.size w1 wq→Calls Tryz.prog 96 #[.slice a.kq.1 s.queue.length a.kq.2,.func (.func 97) #[] #[]] wq fun en w'=>en=.returned (.string (bs (lstE (encD4) s.queue)))∧Below wq.heap.size wq w'):=hid (fun wq h =>
   liWaiting_any s.queue (encD4) ⟨97,#[],#[]⟩ a.kq.1 a.kq.2 wq (HV1.out.now h) (HS1.out.now h).kq (by omega) (by omega) ⟨fun args w'=>enter_fn Tryz.func97 (by kernel_rfl) rfl args w',fun x hx w2 h2=>tc3_any x w2 ((HV1.out.now h).now h2) (HW.out.queue x hx)⟩)
  have hc3:s.sent.length≤1000000:=HN.out.l2
  have hl3:=lstE_len (encD3) s.sent 1000 (by omega) hc3 (fun x hx=>by show (encD3 x).length≤1000;exact encD3_len (HW.out.sent x hx))
  have K3:Hid (∀ wq,Below w1.heap.size w1 wq→Calls Tryz.prog 98 #[.slice a.ks.1 s.sent.length a.ks.2,.func (.func 99) #[] #[]] wq fun en w'=>en=.returned (.string (bs (lstE (encD3) s.sent)))∧Below wq.heap.size wq w'):=hid (fun wq h =>
   liSent_any s.sent (encD3) ⟨99,#[],#[]⟩ a.ks.1 a.ks.2 wq (HV1.out.now h) (HS1.out.now h).ks (by omega) (by omega) ⟨fun args w'=>enter_fn Tryz.func99 (by kernel_rfl) rfl args w',fun x hx w2 h2=>tc4_any x w2 ((HV1.out.now h).now h2) (HW.out.sent x hx)⟩)
  have hc4:s.refused.length≤1000000:=HN.out.l3
  have hl4:=lstE_len (encD2) s.refused 1000 (by omega) hc4 (fun x hx=>by show (encD2 x).length≤1000;exact encD2_len (HW.out.refused x hx))
  have K4:Hid (∀ wq,Below w1.heap.size w1 wq→Calls Tryz.prog 100 #[.slice a.kr.1 s.refused.length a.kr.2,.func (.func 88) #[] #[]] wq fun en w'=>en=.returned (.string (bs (lstE (encD2) s.refused)))∧Below wq.heap.size wq w'):=hid (fun wq h =>
   liDebt_any s.refused (encD2) ⟨88,#[],#[]⟩ a.kr.1 a.kr.2 wq (HV1.out.now h) (HS1.out.now h).kr (by omega) (by omega) ⟨fun args w'=>enter_fn Tryz.func88 (by kernel_rfl) rfl args w',fun x hx w2 h2=>tc1_any x w2 ((HV1.out.now h).now h2) (HW.out.refused x hx)⟩)
  have hc5:s.pairs.length≤1000000:=HN.out.l4
  have hl5:=lstE_len (encD4) s.pairs 1000 (by omega) hc5 (fun x hx=>by show (encD4 x).length≤1000;exact encD4_len (HW.out.pairs x hx))
  have K5:Hid (∀ wq,Below w1.heap.size w1 wq→Calls Tryz.prog 101 #[.slice a.kp.1 s.pairs.length a.kp.2,.func (.func 102) #[] #[]] wq fun en w'=>en=.returned (.string (bs (lstE (encD4) s.pairs)))∧Below wq.heap.size wq w'):=hid (fun wq h =>
   liPair_any s.pairs (encD4) ⟨102,#[],#[]⟩ a.kp.1 a.kp.2 wq (HV1.out.now h) (HS1.out.now h).kp (by omega) (by omega) ⟨fun args w'=>enter_fn Tryz.func102 (by kernel_rfl) rfl args w',fun x hx w2 h2=>tc5_any x w2 ((HV1.out.now h).now h2) (HW.out.pairs x hx)⟩)
  have hc6:s.proofs.length≤1000000:=HN.out.l5
  have hl6:=lstE_len (encD3) s.proofs 1000 (by omega) hc6 (fun x hx=>by show (encD3 x).length≤1000;exact encD3_len (HW.out.proofs x hx))
  have K6:Hid (∀ wq,Below w1.heap.size w1 wq→Calls Tryz.prog 103 #[.slice a.kf.1 s.proofs.length a.kf.2,.func (.func 104) #[] #[]] wq fun en w'=>en=.returned (.string (bs (lstE (encD3) s.proofs)))∧Below wq.heap.size wq w'):=hid (fun wq h =>
   liProof_any s.proofs (encD3) ⟨104,#[],#[]⟩ a.kf.1 a.kf.2 wq (HV1.out.now h) (HS1.out.now h).kf (by omega) (by omega) ⟨fun args w'=>enter_fn Tryz.func104 (by kernel_rfl) rfl args w',fun x hx w2 h2=>tc6_any x w2 ((HV1.out.now h).now h2) (HW.out.proofs x hx)⟩)
  have hnl:∀ x∈s.notes,(lstE encE5 x.l).length≤1000000:=fun x hx=>by
   have hm:=HW.out.notes x.l (List.mem_map.2 ⟨x,hx,rfl⟩)
   have h1:=flat_bound encE5 110 x.l (fun y hy=>encE5_len y (hm.2 y hy))
   have h2:=encN_len x.l.length ⟨by omega,by omega⟩
   have h3:=hm.1
   unfold lstE
   rw [List.length_append]
   omega
  have hc7:s.notes.length≤1000000:=by
   have h1:=HN.out.l6
   have h2:s.pl.notes.length=s.notes.length:=by simp [Stt.pl]
   omega
  have hl7:=lstE_len (fun x=>lstE encE5 x.l) s.notes 1000000 (by omega) hc7 (fun x hx=>by show (lstE encE5 x.l).length≤1000000;exact hnl x hx)
  have K7:Hid (∀ wq,Below w1.heap.size w1 wq→Calls Tryz.prog 105 #[.slice a.kn.1 s.notes.length a.kn.2,.func (.func 106) #[] #[]] wq fun en w'=>en=.returned (.string (bs (lstE (fun x=>lstE encE5 x.l) s.notes)))∧Below wq.heap.size wq w'):=hid (fun wq h =>
   liNotes_any s.notes (fun x=>lstE encE5 x.l) ⟨106,#[],#[]⟩ a.kn.1 a.kn.2 wq (HV1.out.now h) (HS1.out.now h).kn (by omega) (by omega) ⟨fun args w'=>enter_fn Tryz.func106 (by kernel_rfl) rfl args w',fun x hx w2 h2=>tc7_any x w2 ((HV1.out.now h).now h2) ((HS1.out.now (h.trans (h2.mono h.size))).nos x hx).1 (HW.out.notes x.l (List.mem_map.2 ⟨x,hx,rfl⟩)).2 (HW.out.notes x.l (List.mem_map.2 ⟨x,hx,rfl⟩)).1⟩)
  have hc8:s.bad.length≤1000000:=HN.out.l7
  have hl8:=lstE_len (encE3) s.bad 1000 (by omega) hc8 (fun x hx=>by show (encE3 x).length≤1000;exact encE3_len (HW.out.bad x hx))
  have K8:Hid (∀ wq,Below w1.heap.size w1 wq→Calls Tryz.prog 109 #[.slice a.kb.1 s.bad.length a.kb.2,.func (.func 110) #[] #[]] wq fun en w'=>en=.returned (.string (bs (lstE (encE3) s.bad)))∧Below wq.heap.size wq w'):=hid (fun wq h =>
   liVerdict_any s.bad (encE3) ⟨110,#[],#[]⟩ a.kb.1 a.kb.2 wq (HV1.out.now h) (HS1.out.now h).kb (by omega) (by omega) ⟨fun args w'=>enter_fn Tryz.func110 (by kernel_rfl) rfl args w',fun x hx w2 h2=>tc8_any x w2 ((HV1.out.now h).now h2) (HW.out.bad x hx)⟩)
  have hc9:s.holds.length≤1000000:=HN.out.l8
  have hl9:=lstE_len (encH) s.holds 1000 (by omega) hc9 (fun x hx=>by show (encH x).length≤1000;exact encH_len (HW.out.holds x hx))
  have K9:Hid (∀ wq,Below w1.heap.size w1 wq→Calls Tryz.prog 112 #[.slice a.kh.1 s.holds.length a.kh.2,.func (.func 113) #[] #[]] wq fun en w'=>en=.returned (.string (bs (lstE (encH) s.holds)))∧Below wq.heap.size wq w'):=hid (fun wq h =>
   liHold_any s.holds (encH) ⟨113,#[],#[]⟩ a.kh.1 a.kh.2 wq (HV1.out.now h) (HS1.out.now h).kh (by omega) (by omega) ⟨fun args w'=>enter_fn Tryz.func113 (by kernel_rfl) rfl args w',fun x hx w2 h2=>tc9_any x w2 ((HV1.out.now h).now h2) (HW.out.holds x hx)⟩)
  have hc10:s.orders.length≤1000000:=HN.out.l9
  have hl10:=lstE_len (encD4) s.orders 1000 (by omega) hc10 (fun x hx=>by show (encD4 x).length≤1000;exact encD4_len (HW.out.orders x hx))
  have K10:Hid (∀ wq,Below w1.heap.size w1 wq→Calls Tryz.prog 115 #[.slice a.ko.1 s.orders.length a.ko.2,.func (.func 116) #[] #[]] wq fun en w'=>en=.returned (.string (bs (lstE (encD4) s.orders)))∧Below wq.heap.size wq w'):=hid (fun wq h =>
   liOrder_any s.orders (encD4) ⟨116,#[],#[]⟩ a.ko.1 a.ko.2 wq (HV1.out.now h) (HS1.out.now h).ko (by omega) (by omega) ⟨fun args w'=>enter_fn Tryz.func116 (by kernel_rfl) rfl args w',fun x hx w2 h2=>tc10_any x w2 ((HV1.out.now h).now h2) (HW.out.orders x hx)⟩)
  have hc11:s.sealed.length≤1000000:=HN.out.la
  have hl11:=lstE_len (encD3) s.sealed 1000 (by omega) hc11 (fun x hx=>by show (encD3 x).length≤1000;exact encD3_len (HW.out.sealed x hx))
  have K11:Hid (∀ wq,Below w1.heap.size w1 wq→Calls Tryz.prog 117 #[.slice a.kx.1 s.sealed.length a.kx.2,.func (.func 118) #[] #[]] wq fun en w'=>en=.returned (.string (bs (lstE (encD3) s.sealed)))∧Below wq.heap.size wq w'):=hid (fun wq h =>
   liSealed_any s.sealed (encD3) ⟨118,#[],#[]⟩ a.kx.1 a.kx.2 wq (HV1.out.now h) (HS1.out.now h).kx (by omega) (by omega) ⟨fun args w'=>enter_fn Tryz.func118 (by kernel_rfl) rfl args w',fun x hx w2 h2=>tc11_any x w2 ((HV1.out.now h).now h2) (HW.out.sealed x hx)⟩)
  have hc12:s.debts.length≤1000000:=HN.out.lb
  have hl12:=lstE_len (encD2) s.debts 1000 (by omega) hc12 (fun x hx=>by show (encD2 x).length≤1000;exact encD2_len (HW.out.debts x hx))
  have K12:Hid (∀ wq,Below w1.heap.size w1 wq→Calls Tryz.prog 100 #[.slice a.kd.1 s.debts.length a.kd.2,.func (.func 88) #[] #[]] wq fun en w'=>en=.returned (.string (bs (lstE (encD2) s.debts)))∧Below wq.heap.size wq w'):=hid (fun wq h =>
   liDebt_any s.debts (encD2) ⟨88,#[],#[]⟩ a.kd.1 a.kd.2 wq (HV1.out.now h) (HS1.out.now h).kd (by omega) (by omega) ⟨fun args w'=>enter_fn Tryz.func88 (by kernel_rfl) rfl args w',fun x hx w2 h2=>tc1_any x w2 ((HV1.out.now h).now h2) (HW.out.debts x hx)⟩)
  generalize encN s.step=m0 at *
  generalize lstE (fun x=>encEv x.ev) s.events=m1 at *
  generalize lstE (encD4) s.queue=m2 at *
  generalize lstE (encD3) s.sent=m3 at *
  generalize lstE (encD2) s.refused=m4 at *
  generalize lstE (encD4) s.pairs=m5 at *
  generalize lstE (encD3) s.proofs=m6 at *
  generalize lstE (fun x=>lstE encE5 x.l) s.notes=m7 at *
  generalize lstE (encE3) s.bad=m8 at *
  generalize lstE (encH) s.holds=m9 at *
  generalize lstE (encD4) s.orders=m10 at *
  generalize lstE (encD3) s.sealed=m11 at *
  generalize lstE (encD2) s.debts=m12 at *
  have HLn:Hid (([m0,m1,m2,m3,m4,m5,m6,m7,m8,m9,m10,m11,m12].flatMap id).length≤140737488355328):=hid (by
   simp only [List.flatMap_cons,List.flatMap_nil,id,List.length_append,List.length_nil]
   omega)
  have KJ:Hid (∀ (g:Nat) (wq:World),RdL 1 strE wq wq.heap.size (some ⟨g,0,none⟩) [m0,m1,m2,m3,m4,m5,m6,m7,m8,m9,m10,m11,m12]→Calls Tryz.prog 90 #[.slice (some ⟨g,0,none⟩) 13 13,.string ⟨#[]⟩] wq fun e w'=>e=.returned (.string (bs ([m0,m1,m2,m3,m4,m5,m6,m7,m8,m9,m10,m11,m12].flatMap id)))∧Below wq.heap.size wq w'):=hid (fun g wq hr=>join_c g m0 [m1,m2,m3,m4,m5,m6,m7,m8,m9,m10,m11,m12] 13 rfl (by omega) (by omega) wq hr HLn.out)
  generalize [m0,m1,m2,m3,m4,m5,m6,m7,m8,m9,m10,m11,m12].flatMap id=tx at *
  clear l0 hl1 hc1 hl2 hc2 hl3 hc3 hl4 hc4 hl5 hc5 hl6 hc6 hl7 hc7 hl8 hc8 hl9 hc9 hl10 hc10 hl11 hc11 hl12 hc12 hnl
  go_wp2_with fail
  refine wp_region_below [(2,fun _=>.string (bs m0),fun _ _=>True),(5,fun _=>.string (bs m1),fun _ _=>True),(8,fun _=>.string (bs m2),fun _ _=>True),(11,fun _=>.string (bs m3),fun _ _=>True),(15,fun _=>.string (bs m4),fun _ _=>True),(18,fun _=>.string (bs m5),fun _ _=>True),(21,fun _=>.string (bs m6),fun _ _=>True),(24,fun _=>.string (bs m7),fun _ _=>True),(27,fun _=>.string (bs m8),fun _ _=>True),(30,fun _=>.string (bs m9),fun _ _=>True),(33,fun _=>.string (bs m10),fun _ _=>True),(36,fun _=>.string (bs m11),fun _ _=>True),(40,fun _=>.string (bs m12),fun _ _=>True),(41,fun g=>.slice (some ⟨g.2,0,none⟩) 13 13,fun g w'=>RdL 1 strE w' w'.heap.size (some ⟨g.2,0,none⟩) [m0,m1,m2,m3,m4,m5,m6,m7,m8,m9,m10,m11,m12]),(42,fun _=>.string (bs tx),fun _ _=>True)] (by kernel_rfl) (by kernel_rfl) (by repeat (first | exact trivial | refine ⟨fun g wa wb hs hs' ht h=>by first | exact trivial | exact h.now ht | exact h.below ht | exact ht.cell h | exact h,?_⟩)) ?_
  rw [List.toList_toArray]
  repeat (first
   | (refine DetE.skip (by rfl) ?_;simp only [Act.put,sA,sB,sC])
   | (refine DetE.read (v:=?_) (by rfl) (by rfl) ?_ ?_;rotate_left;(· (intro wq hSq hkq;have q0:=(HC.out _ hSq).st;go_simp;try with_reducible rfl));simp only [Act.put,sA,sB,sC])
   | fail)
  refine DetE.eff _ _ (by rfl) (by rfl) (fun wq hSq hkq K hK=>?_) (fun g0=>?_)
  ·go_simp
   refine (K0.out _ hSq).mono ?_
   rintro e4 w4 ⟨rfl,hb4⟩
   go_wp2_with fail
   exact hK.out ((none,0)) _ (hSq.trans (hb4.mono hSq.size)) hb4 (trivial) _ rfl
  simp only [Act.put,sA,sB,sC]
  repeat (first
   | (refine DetE.skip (by rfl) ?_;simp only [Act.put,sA,sB,sC])
   | (refine DetE.read (v:=?_) (by rfl) (by rfl) ?_ ?_;rotate_left;(· (intro wq hSq hkq;have q0:=(HC.out _ hSq).ke;go_simp;try with_reducible rfl));simp only [Act.put,sA,sB,sC])
   | fail)
  refine DetE.eff _ _ (by rfl) (by rfl) (fun wq hSq hkq K hK=>?_) (fun g1=>?_)
  ·go_simp
   refine (K1.out _ hSq).mono ?_
   rintro e4 w4 ⟨rfl,hb4⟩
   go_wp2_with fail
   exact hK.out ((none,0)) _ (hSq.trans (hb4.mono hSq.size)) hb4 (trivial) _ rfl
  simp only [Act.put,sA,sB,sC]
  repeat (first
   | (refine DetE.skip (by rfl) ?_;simp only [Act.put,sA,sB,sC])
   | (refine DetE.read (v:=?_) (by rfl) (by rfl) ?_ ?_;rotate_left;(· (intro wq hSq hkq;have q0:=(HC.out _ hSq).kq;go_simp;try with_reducible rfl));simp only [Act.put,sA,sB,sC])
   | fail)
  refine DetE.eff _ _ (by rfl) (by rfl) (fun wq hSq hkq K hK=>?_) (fun g2=>?_)
  ·go_simp
   refine (K2.out _ hSq).mono ?_
   rintro e4 w4 ⟨rfl,hb4⟩
   go_wp2_with fail
   exact hK.out ((none,0)) _ (hSq.trans (hb4.mono hSq.size)) hb4 (trivial) _ rfl
  simp only [Act.put,sA,sB,sC]
  repeat (first
   | (refine DetE.skip (by rfl) ?_;simp only [Act.put,sA,sB,sC])
   | (refine DetE.read (v:=?_) (by rfl) (by rfl) ?_ ?_;rotate_left;(· (intro wq hSq hkq;have q0:=(HC.out _ hSq).ks;go_simp;try with_reducible rfl));simp only [Act.put,sA,sB,sC])
   | fail)
  refine DetE.eff _ _ (by rfl) (by rfl) (fun wq hSq hkq K hK=>?_) (fun g3=>?_)
  ·go_simp
   refine (K3.out _ hSq).mono ?_
   rintro e4 w4 ⟨rfl,hb4⟩
   go_wp2_with fail
   exact hK.out ((none,0)) _ (hSq.trans (hb4.mono hSq.size)) hb4 (trivial) _ rfl
  simp only [Act.put,sA,sB,sC]
  repeat (first
   | (refine DetE.skip (by rfl) ?_;simp only [Act.put,sA,sB,sC])
   | (refine DetE.read (v:=?_) (by rfl) (by rfl) ?_ ?_;rotate_left;(· (intro wq hSq hkq;have q0:=(HC.out _ hSq).kr;go_simp;try with_reducible rfl));simp only [Act.put,sA,sB,sC])
   | fail)
  refine DetE.eff _ _ (by rfl) (by rfl) (fun wq hSq hkq K hK=>?_) (fun g4=>?_)
  ·go_simp
   refine (K4.out _ hSq).mono ?_
   rintro e4 w4 ⟨rfl,hb4⟩
   go_wp2_with fail
   exact hK.out ((none,0)) _ (hSq.trans (hb4.mono hSq.size)) hb4 (trivial) _ rfl
  simp only [Act.put,sA,sB,sC]
  repeat (first
   | (refine DetE.skip (by rfl) ?_;simp only [Act.put,sA,sB,sC])
   | (refine DetE.read (v:=?_) (by rfl) (by rfl) ?_ ?_;rotate_left;(· (intro wq hSq hkq;have q0:=(HC.out _ hSq).kp;go_simp;try with_reducible rfl));simp only [Act.put,sA,sB,sC])
   | fail)
  refine DetE.eff _ _ (by rfl) (by rfl) (fun wq hSq hkq K hK=>?_) (fun g5=>?_)
  ·go_simp
   refine (K5.out _ hSq).mono ?_
   rintro e4 w4 ⟨rfl,hb4⟩
   go_wp2_with fail
   exact hK.out ((none,0)) _ (hSq.trans (hb4.mono hSq.size)) hb4 (trivial) _ rfl
  simp only [Act.put,sA,sB,sC]
  repeat (first
   | (refine DetE.skip (by rfl) ?_;simp only [Act.put,sA,sB,sC])
   | (refine DetE.read (v:=?_) (by rfl) (by rfl) ?_ ?_;rotate_left;(· (intro wq hSq hkq;have q0:=(HC.out _ hSq).kf;go_simp;try with_reducible rfl));simp only [Act.put,sA,sB,sC])
   | fail)
  refine DetE.eff _ _ (by rfl) (by rfl) (fun wq hSq hkq K hK=>?_) (fun g6=>?_)
  ·go_simp
   refine (K6.out _ hSq).mono ?_
   rintro e4 w4 ⟨rfl,hb4⟩
   go_wp2_with fail
   exact hK.out ((none,0)) _ (hSq.trans (hb4.mono hSq.size)) hb4 (trivial) _ rfl
  simp only [Act.put,sA,sB,sC]
  repeat (first
   | (refine DetE.skip (by rfl) ?_;simp only [Act.put,sA,sB,sC])
   | (refine DetE.read (v:=?_) (by rfl) (by rfl) ?_ ?_;rotate_left;(· (intro wq hSq hkq;have q0:=(HC.out _ hSq).kn;go_simp;try with_reducible rfl));simp only [Act.put,sA,sB,sC])
   | fail)
  refine DetE.eff _ _ (by rfl) (by rfl) (fun wq hSq hkq K hK=>?_) (fun g7=>?_)
  ·go_simp
   refine (K7.out _ hSq).mono ?_
   rintro e4 w4 ⟨rfl,hb4⟩
   go_wp2_with fail
   exact hK.out ((none,0)) _ (hSq.trans (hb4.mono hSq.size)) hb4 (trivial) _ rfl
  simp only [Act.put,sA,sB,sC]
  repeat (first
   | (refine DetE.skip (by rfl) ?_;simp only [Act.put,sA,sB,sC])
   | (refine DetE.read (v:=?_) (by rfl) (by rfl) ?_ ?_;rotate_left;(· (intro wq hSq hkq;have q0:=(HC.out _ hSq).kb;go_simp;try with_reducible rfl));simp only [Act.put,sA,sB,sC])
   | fail)
  refine DetE.eff _ _ (by rfl) (by rfl) (fun wq hSq hkq K hK=>?_) (fun g8=>?_)
  ·go_simp
   refine (K8.out _ hSq).mono ?_
   rintro e4 w4 ⟨rfl,hb4⟩
   go_wp2_with fail
   exact hK.out ((none,0)) _ (hSq.trans (hb4.mono hSq.size)) hb4 (trivial) _ rfl
  simp only [Act.put,sA,sB,sC]
  repeat (first
   | (refine DetE.skip (by rfl) ?_;simp only [Act.put,sA,sB,sC])
   | (refine DetE.read (v:=?_) (by rfl) (by rfl) ?_ ?_;rotate_left;(· (intro wq hSq hkq;have q0:=(HC.out _ hSq).kh;go_simp;try with_reducible rfl));simp only [Act.put,sA,sB,sC])
   | fail)
  refine DetE.eff _ _ (by rfl) (by rfl) (fun wq hSq hkq K hK=>?_) (fun g9=>?_)
  ·go_simp
   refine (K9.out _ hSq).mono ?_
   rintro e4 w4 ⟨rfl,hb4⟩
   go_wp2_with fail
   exact hK.out ((none,0)) _ (hSq.trans (hb4.mono hSq.size)) hb4 (trivial) _ rfl
  simp only [Act.put,sA,sB,sC]
  repeat (first
   | (refine DetE.skip (by rfl) ?_;simp only [Act.put,sA,sB,sC])
   | (refine DetE.read (v:=?_) (by rfl) (by rfl) ?_ ?_;rotate_left;(· (intro wq hSq hkq;have q0:=(HC.out _ hSq).ko;go_simp;try with_reducible rfl));simp only [Act.put,sA,sB,sC])
   | fail)
  refine DetE.eff _ _ (by rfl) (by rfl) (fun wq hSq hkq K hK=>?_) (fun g10=>?_)
  ·go_simp
   refine (K10.out _ hSq).mono ?_
   rintro e4 w4 ⟨rfl,hb4⟩
   go_wp2_with fail
   exact hK.out ((none,0)) _ (hSq.trans (hb4.mono hSq.size)) hb4 (trivial) _ rfl
  simp only [Act.put,sA,sB,sC]
  repeat (first
   | (refine DetE.skip (by rfl) ?_;simp only [Act.put,sA,sB,sC])
   | (refine DetE.read (v:=?_) (by rfl) (by rfl) ?_ ?_;rotate_left;(· (intro wq hSq hkq;have q0:=(HC.out _ hSq).kx;go_simp;try with_reducible rfl));simp only [Act.put,sA,sB,sC])
   | fail)
  refine DetE.eff _ _ (by rfl) (by rfl) (fun wq hSq hkq K hK=>?_) (fun g11=>?_)
  ·go_simp
   refine (K11.out _ hSq).mono ?_
   rintro e4 w4 ⟨rfl,hb4⟩
   go_wp2_with fail
   exact hK.out ((none,0)) _ (hSq.trans (hb4.mono hSq.size)) hb4 (trivial) _ rfl
  simp only [Act.put,sA,sB,sC]
  repeat (first
   | (refine DetE.skip (by rfl) ?_;simp only [Act.put,sA,sB,sC])
   | (refine DetE.read (v:=?_) (by rfl) (by rfl) ?_ ?_;rotate_left;(· (intro wq hSq hkq;have q0:=(HC.out _ hSq).kd;go_simp;try with_reducible rfl));simp only [Act.put,sA,sB,sC])
   | fail)
  refine DetE.eff _ _ (by rfl) (by rfl) (fun wq hSq hkq K hK=>?_) (fun g12=>?_)
  ·go_simp
   refine (K12.out _ hSq).mono ?_
   rintro e4 w4 ⟨rfl,hb4⟩
   go_wp2_with fail
   exact hK.out ((none,0)) _ (hSq.trans (hb4.mono hSq.size)) hb4 (trivial) _ rfl
  simp only [Act.put,sA,sB,sC]
  refine DetE.eff _ _ (by rfl) (by rfl) (fun wq hSq hkq K hK=>?_) (fun g41=>?_)
  ·go_simp
   have hb4:=fun o=>(Below.refl wq.heap.size wq).alloc (Nat.le_refl _) o
   exact hK.out ((none,wq.heap.size)) _ (hSq.trans ((hb4 _).mono hSq.size)) (hb4 _) (RdL.blockW strLay wq [m0,m1,m2,m3,m4,m5,m6,m7,m8,m9,m10,m11,m12] _ _ rfl _ rfl) _ rfl
  simp only [Act.put,sA,sB,sC]
  refine DetE.eff _ _ (by rfl) (by rfl) (fun wq hSq hkq K hK=>?_) (fun g42=>?_)
  ·go_simp
   refine (KJ.out g41.2 wq (hkq 41 _ rfl (by kernel_rfl))).mono ?_
   rintro e4 w4 ⟨rfl,hb4⟩
   go_wp2_with fail
   exact hK.out ((none,0)) _ (hSq.trans (hb4.mono hSq.size)) hb4 (trivial) _ rfl
  simp only [Act.put,sA,sB,sC]
  repeat (first
   | (refine DetE.skip (by rfl) ?_;simp only [Act.put,sA,sB,sC])
   | (refine DetE.read (v:=?_) (by rfl) (by rfl) ?_ ?_;rotate_left;(· (intro wq hSq hkq;skip;go_simp;try with_reducible rfl));simp only [Act.put,sA,sB,sC])
   | fail)
  refine DetE.done fun wz hz hkz=>?_
  go_wp2
  go_ret
  exact ⟨ret_str HTr.out.symm,HB1.out.trans (hz.mono HB1.out.size)⟩
end Go.Proofs.YthlpehhlhebhbaaGreatDoor
