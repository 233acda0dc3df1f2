/- Contracts and plain laws, joined: BkD. -/
import Derived.Test.YtlnnjdibkbabiaaGreatDoorQax
/- Contract of back.Back. -/
set_option linter.unusedSimpArgs false
set_option linter.unusedVariables false
namespace Go.Proofs.YtlnnjdibkbabiaaGreatDoor
open _root_.Go.Lib (hid)
open Go.RowKit
theorem bad_args {p:Prof} {xs:List Pair} {net:Int} {r:RawM} {step:Int} (h:argsBad p net r=true):backS p xs net r step=(zeroEv,1):=by
 unfold backS
 rw [if_pos h]
theorem check_files4 (p:Prof) (h:profCheck p=0):p.files≤4:=by
 unfold profCheck at h
 split at h
 ·split at h
  ·cases h
  ·rename_i h2
   simp [offB,boundsB,inR] at h2
   omega
 ·cases h
theorem full_files {p:Prof} {r:RawM} (h:fullB p r=false) (hx:hasX r.kind=true):(r.files.length:Int)≤p.files:=by
 unfold fullB at h
 rw [hx] at h
 simp at h
 omega
theorem uses_files (k:Int) (h:sFiles∈usesL k):hasX k=true:=by
 rcases kind_cases k with hk | hk | hk | hk | hk | hk | hk | hk | hk
 all_goals first
  | (subst hk;rfl)
  | (subst hk;exact absurd h (by decide))
  | (subst hk;simp [usesL,sFiles,sTarget,sWho,sN] at h;done)
  | (obtain ⟨a0,a1,a2,a3,a4,a5,a7,a9⟩:=hk
     simp [usesL,a0,a1,a2,a3,a4,a5,a7,a9] at h)
theorem step_ok (xs:List Pair) (net:Int) (r:RawM) (o:EvM × Bool) (s:ByteArray) (h:(o.1.files=[]∨o.1.files=r.files)∧(o.1.text=ByteArray.empty∨o.1.text=r.text)) :
  ((backStep xs net r o s).1.files=[]∨(backStep xs net r o s).1.files=r.files)∧((backStep xs net r o s).1.text=ByteArray.empty∨(backStep xs net r o s).1.text=r.text):=by
 unfold backStep
 repeat (split;· first | exact h | exact ⟨h.1,.inr rfl⟩ | exact ⟨.inr rfl,h.2⟩)
 exact h
theorem fold_ok0 (xs:List Pair) (net:Int) (r:RawM):∀ (us:List ByteArray) (o:EvM × Bool),((o.1.files=[]∨o.1.files=r.files)∧(o.1.text=ByteArray.empty∨o.1.text=r.text)) →
  (((us.foldl (backStep xs net r) o).1.files=[]∨(us.foldl (backStep xs net r) o).1.files=r.files)∧((us.foldl (backStep xs net r) o).1.text=ByteArray.empty∨(us.foldl (backStep xs net r) o).1.text=r.text))
 | [],_,h=>h
 | s::l,o,h=>fold_ok0 xs net r l _ (step_ok xs net r o s h)
theorem fold_ok (xs:List Pair) (net:Int) (r:RawM) (step:Int) (us:List ByteArray):((us.foldl (backStep xs net r) (backE0 r step,true)).1.files=[]∨(us.foldl (backStep xs net r) (backE0 r step,true)).1.files=r.files)∧((us.foldl (backStep xs net r) (backE0 r step,true)).1.text=ByteArray.empty∨(us.foldl (backStep xs net r) (backE0 r step,true)).1.text=r.text) :=
 fold_ok0 xs net r us _ ⟨.inl rfl,.inl rfl⟩
set_option maxRecDepth 100000 in
set_option maxHeartbeats 16000000 in
theorem bBack_any (p:Prof) (A:Option Addr) (c:Nat) (xs:List Pair) (B:Option Addr) (n d:Nat) (net:Int) (r:RawM) (fA:Option Addr) (fc:Nat) (step:Int) (w:World) (hn:n=xs.length)
  (hp:ProfOk w w.heap.size A p) (hpc:p.types.length≤c) (hx:RdP w w.heap.size B xs) (hxl:xs.length≤1000000) (hr:RawOk w w.heap.size fA fc r) (hrc:r.files.length≤fc) :
  Calls Tryz.prog 17 #[p.v A c,.slice B n d,.int .i64 net,r.v fA fc,.int .i64 step] w (BackOut p xs net r step w):=by
 subst hn
 have HP:=hid hp
 have HX:=hid hx
 have HR:=hid hr
 clear hp hx hr
 go_enter Tryz.func17,Tryz.ntmps17
 go_wp2_with fail
 obtain ⟨W0,hW0⟩:∃ W,W=((w.alloc (.cells (p.cs A c) 24)).alloc (.cells (r.cs fA fc) 48)).alloc (.cells zeroE 40):=⟨_,rfl⟩
 have HK0:Hid (BkW p A c r fA fc w W0):=hid (by rw [hW0];exact BkW.start p A c r fA fc w)
 refine Calls.mono (show Calls Tryz.prog 46 #[.int .i64 r.account] _ (fun e w'=>e=.returned (.int .i64 (netI r.account))∧W0=w') from ?_) ?_
 ·rw [hW0]
  exact evNet_any _ _
 clear hW0
 rintro en wx ⟨rfl,hw⟩
 obtain rfl:=hw
 have HK:=HK0
 generalize hna:netI r.account=na
 have HNa:=hid hna
 clear hna
 go_wp2_with (first
  | ((with_reducible show wpList _ _ _ (Oper.mk _ (Op.load 24 _) _ _ _ _::_) _ _);refine wpList_load_g rfl 24 (.tmp 5) rfl w.heap.size 0 rfl (p.cs A c).toList _ HK.out.prof Tryz.underlying24 rfl (by kernel_rfl) ?_)
  | ((with_reducible show wpList _ _ _ (Oper.mk _ (Op.load 48 _) _ _ _ _::_) _ _);refine wpList_load_g rfl 48 (.tmp 8) rfl (w.heap.size+1) 0 rfl (r.cs fA fc).toList _ HK.out.raw Tryz.underlying48 rfl (by kernel_rfl) ?_)
  | ((with_reducible show wpList _ _ _ (Oper.mk _ (Op.store 40 (.tmp 10) _) _ _ _ _::_) _ _);refine wpList_store_box rfl 40 _ _ rfl (w.heap.size+2) zeroE rfl rfl HK.out.there (by kernel_rfl) zeroOne ?_;intro wS hrS htS hgS;have HRS:=hid hrS;have HGS:=hid hgS;clear hrS htS hgS))
 refine (pCheck_any p A c _ (HP.out.now HK0.out.b) hpc).mono ?_
 rintro en w1 ⟨rfl,hb1⟩
 have HK:=hid (HK0.out.below hb1)
 clear hb1 HK0
 generalize hpk:profCheck p=pk
 have HPk:=hid hpk
 clear hpk
 have r2:=range_cell HK.out.raw 2 _ rfl
 cases h1:(pk==0)
 ·have h1n:(pk != 0)=true:=by unfold bne;rw [h1];rfl
  have HA:Hid (argsBad p net r=true):=hid (by unfold argsBad;rw [HPk.out,h1];rfl)
  go_wp2_with (first
   | ((with_reducible show wpList _ _ _ (Oper.mk _ (Op.load 24 _) _ _ _ _::_) _ _);refine wpList_load_g rfl 24 (.tmp 5) rfl w.heap.size 0 rfl (p.cs A c).toList _ HK.out.prof Tryz.underlying24 rfl (by kernel_rfl) ?_)
   | ((with_reducible show wpList _ _ _ (Oper.mk _ (Op.load 48 _) _ _ _ _::_) _ _);refine wpList_load_g rfl 48 (.tmp 8) rfl (w.heap.size+1) 0 rfl (r.cs fA fc).toList _ HK.out.raw Tryz.underlying48 rfl (by kernel_rfl) ?_)
   | ((with_reducible show wpList _ _ _ (Oper.mk _ (Op.store 40 (.tmp 10) _) _ _ _ _::_) _ _);refine wpList_store_box rfl 40 _ _ rfl (w.heap.size+2) zeroE rfl rfl HK.out.there (by kernel_rfl) zeroOne ?_;intro wS hrS htS hgS;have HRS:=hid hrS;have HGS:=hid hgS;clear hrS htS hgS))
  refine ret_box2 10 11 40 rfl (w.heap.size+2) _ _ (.int .i64 1) rfl rfl HRS.out Tryz.underlying40 rfl (by kernel_rfl) rfl ?_
  exact backErr (bad_args HA.out) (HK.out.b.grown HGS.out (by have:=HK.out.z;omega) (fun k hk=>by injection hk with hk;omega))
 have h1n:(pk != 0)=false:=by unfold bne;rw [h1];rfl
 by_cases h2:na<0
 ·have HA:Hid (argsBad p net r=true):=hid (by unfold argsBad;rw [HNa.out,decide_eq_true h2];simp)
  go_wp2_with (first
   | ((with_reducible show wpList _ _ _ (Oper.mk _ (Op.load 24 _) _ _ _ _::_) _ _);refine wpList_load_g rfl 24 (.tmp 5) rfl w.heap.size 0 rfl (p.cs A c).toList _ HK.out.prof Tryz.underlying24 rfl (by kernel_rfl) ?_)
   | ((with_reducible show wpList _ _ _ (Oper.mk _ (Op.load 48 _) _ _ _ _::_) _ _);refine wpList_load_g rfl 48 (.tmp 8) rfl (w.heap.size+1) 0 rfl (r.cs fA fc).toList _ HK.out.raw Tryz.underlying48 rfl (by kernel_rfl) ?_)
   | ((with_reducible show wpList _ _ _ (Oper.mk _ (Op.store 40 (.tmp 10) _) _ _ _ _::_) _ _);refine wpList_store_box rfl 40 _ _ rfl (w.heap.size+2) zeroE rfl rfl HK.out.there (by kernel_rfl) zeroOne ?_;intro wS hrS htS hgS;have HRS:=hid hrS;have HGS:=hid hgS;clear hrS htS hgS))
  refine ret_box2 10 11 40 rfl (w.heap.size+2) _ _ (.int .i64 1) rfl rfl HRS.out Tryz.underlying40 rfl (by kernel_rfl) rfl ?_
  exact backErr (bad_args HA.out) (HK.out.b.grown HGS.out (by have:=HK.out.z;omega) (fun k hk=>by injection hk with hk;omega))
 have h2d:decide (na<0)=false:=decide_eq_false h2
 cases h3:(na==net)
 ·have h3n:(na != net)=true:=by unfold bne;rw [h3];rfl
  have HA:Hid (argsBad p net r=true):=hid (by unfold argsBad;rw [HNa.out,h3];simp)
  go_wp2_with (first
   | ((with_reducible show wpList _ _ _ (Oper.mk _ (Op.load 24 _) _ _ _ _::_) _ _);refine wpList_load_g rfl 24 (.tmp 5) rfl w.heap.size 0 rfl (p.cs A c).toList _ HK.out.prof Tryz.underlying24 rfl (by kernel_rfl) ?_)
   | ((with_reducible show wpList _ _ _ (Oper.mk _ (Op.load 48 _) _ _ _ _::_) _ _);refine wpList_load_g rfl 48 (.tmp 8) rfl (w.heap.size+1) 0 rfl (r.cs fA fc).toList _ HK.out.raw Tryz.underlying48 rfl (by kernel_rfl) ?_)
   | ((with_reducible show wpList _ _ _ (Oper.mk _ (Op.store 40 (.tmp 10) _) _ _ _ _::_) _ _);refine wpList_store_box rfl 40 _ _ rfl (w.heap.size+2) zeroE rfl rfl HK.out.there (by kernel_rfl) zeroOne ?_;intro wS hrS htS hgS;have HRS:=hid hrS;have HGS:=hid hgS;clear hrS htS hgS))
  refine ret_box2 10 11 40 rfl (w.heap.size+2) _ _ (.int .i64 1) rfl rfl HRS.out Tryz.underlying40 rfl (by kernel_rfl) rfl ?_
  exact backErr (bad_args HA.out) (HK.out.b.grown HGS.out (by have:=HK.out.z;omega) (fun k hk=>by injection hk with hk;omega))
 have h3n:(na != net)=false:=by unfold bne;rw [h3];rfl
 by_cases h4:r.kind<0
 ·have HA:Hid (argsBad p net r=true):=hid (by unfold argsBad;rw [decide_eq_true h4];simp)
  go_wp2_with (first
   | ((with_reducible show wpList _ _ _ (Oper.mk _ (Op.load 24 _) _ _ _ _::_) _ _);refine wpList_load_g rfl 24 (.tmp 5) rfl w.heap.size 0 rfl (p.cs A c).toList _ HK.out.prof Tryz.underlying24 rfl (by kernel_rfl) ?_)
   | ((with_reducible show wpList _ _ _ (Oper.mk _ (Op.load 48 _) _ _ _ _::_) _ _);refine wpList_load_g rfl 48 (.tmp 8) rfl (w.heap.size+1) 0 rfl (r.cs fA fc).toList _ HK.out.raw Tryz.underlying48 rfl (by kernel_rfl) ?_)
   | ((with_reducible show wpList _ _ _ (Oper.mk _ (Op.store 40 (.tmp 10) _) _ _ _ _::_) _ _);refine wpList_store_box rfl 40 _ _ rfl (w.heap.size+2) zeroE rfl rfl HK.out.there (by kernel_rfl) zeroOne ?_;intro wS hrS htS hgS;have HRS:=hid hrS;have HGS:=hid hgS;clear hrS htS hgS))
  refine ret_box2 10 11 40 rfl (w.heap.size+2) _ _ (.int .i64 1) rfl rfl HRS.out Tryz.underlying40 rfl (by kernel_rfl) rfl ?_
  exact backErr (bad_args HA.out) (HK.out.b.grown HGS.out (by have:=HK.out.z;omega) (fun k hk=>by injection hk with hk;omega))
 have h4d:decide (r.kind<0)=false:=decide_eq_false h4
 by_cases h5:10≤r.kind
 ·have HA:Hid (argsBad p net r=true):=hid (by unfold argsBad;rw [decide_eq_true h5];simp)
  go_wp2_with (first
   | ((with_reducible show wpList _ _ _ (Oper.mk _ (Op.load 24 _) _ _ _ _::_) _ _);refine wpList_load_g rfl 24 (.tmp 5) rfl w.heap.size 0 rfl (p.cs A c).toList _ HK.out.prof Tryz.underlying24 rfl (by kernel_rfl) ?_)
   | ((with_reducible show wpList _ _ _ (Oper.mk _ (Op.load 48 _) _ _ _ _::_) _ _);refine wpList_load_g rfl 48 (.tmp 8) rfl (w.heap.size+1) 0 rfl (r.cs fA fc).toList _ HK.out.raw Tryz.underlying48 rfl (by kernel_rfl) ?_)
   | ((with_reducible show wpList _ _ _ (Oper.mk _ (Op.store 40 (.tmp 10) _) _ _ _ _::_) _ _);refine wpList_store_box rfl 40 _ _ rfl (w.heap.size+2) zeroE rfl rfl HK.out.there (by kernel_rfl) zeroOne ?_;intro wS hrS htS hgS;have HRS:=hid hrS;have HGS:=hid hgS;clear hrS htS hgS))
  refine ret_box2 10 11 40 rfl (w.heap.size+2) _ _ (.int .i64 1) rfl rfl HRS.out Tryz.underlying40 rfl (by kernel_rfl) rfl ?_
  exact backErr (bad_args HA.out) (HK.out.b.grown HGS.out (by have:=HK.out.z;omega) (fun k hk=>by injection hk with hk;omega))
 have h5d:decide (10≤r.kind)=false:=decide_eq_false h5
 have HA:Hid (argsBad p net r=false):=hid (by unfold argsBad;rw [HPk.out,HNa.out,h1,h2d,h3,h4d,h5d];rfl)
 go_upto_region 4 with fail
 go_cut [13] (fun v wx=>v=.bool (hasX r.kind)∧w1=wx)
 case first =>
  have HXX:Hid (hasX r.kind=((r.kind==0) || (r.kind==1))):=hid rfl
  cases x0:(r.kind==0)
  ·cases x1:(r.kind==1)
   ·go_wp2
    go_meet
    exact ⟨by rw [HXX.out,x0,x1];rfl,by first | rfl | trivial⟩
   ·go_wp2
    go_meet
    exact ⟨by rw [HXX.out,x0,x1];rfl,by first | rfl | trivial⟩
  ·go_wp2
   go_meet
   exact ⟨by rw [HXX.out,x0];rfl,by first | rfl | trivial⟩
 case rest =>
  obtain ⟨rfl,rfl⟩:=hcut
  clear r2
  generalize hxx:hasX r.kind=hx
  have HXx:=hid hxx
  clear hxx
  go_wp2_with (first
   | ((with_reducible show wpList _ _ _ (Oper.mk _ (Op.load 24 _) _ _ _ _::_) _ _);refine wpList_load_g rfl 24 (.tmp 5) rfl w.heap.size 0 rfl (p.cs A c).toList _ HK.out.prof Tryz.underlying24 rfl (by kernel_rfl) ?_)
   | ((with_reducible show wpList _ _ _ (Oper.mk _ (Op.load 48 _) _ _ _ _::_) _ _);refine wpList_load_g rfl 48 (.tmp 8) rfl (w.heap.size+1) 0 rfl (r.cs fA fc).toList _ HK.out.raw Tryz.underlying48 rfl (by kernel_rfl) ?_)
   | ((with_reducible show wpList _ _ _ (Oper.mk _ (Op.store 40 (.tmp 10) _) _ _ _ _::_) _ _);refine wpList_store_box rfl 40 _ _ rfl (w.heap.size+2) zeroE rfl rfl HK.out.there (by kernel_rfl) zeroOne ?_;intro wS hrS htS hgS;have HRS:=hid hrS;have HGS:=hid hgS;clear hrS htS hgS))
  refine (bMeans_any p A c r fA fc _).mono ?_
  rintro en w2 ⟨rfl,hb2⟩
  have HK:=hid (HK.out.below hb2)
  clear hb2
  generalize hmm:meansB p r=mm
  have HMm:=hid hmm
  clear hmm
  cases mm
  ·have HS:Hid (backS p xs net r step=(zeroEv,7)):=hid (by unfold backS;rw [HA.out,HMm.out];rfl)
   go_wp2_with (first
    | ((with_reducible show wpList _ _ _ (Oper.mk _ (Op.load 24 _) _ _ _ _::_) _ _);refine wpList_load_g rfl 24 (.tmp 5) rfl w.heap.size 0 rfl (p.cs A c).toList _ HK.out.prof Tryz.underlying24 rfl (by kernel_rfl) ?_)
    | ((with_reducible show wpList _ _ _ (Oper.mk _ (Op.load 48 _) _ _ _ _::_) _ _);refine wpList_load_g rfl 48 (.tmp 8) rfl (w.heap.size+1) 0 rfl (r.cs fA fc).toList _ HK.out.raw Tryz.underlying48 rfl (by kernel_rfl) ?_)
    | ((with_reducible show wpList _ _ _ (Oper.mk _ (Op.store 40 (.tmp 10) _) _ _ _ _::_) _ _);refine wpList_store_box rfl 40 _ _ rfl (w.heap.size+2) zeroE rfl rfl HK.out.there (by kernel_rfl) zeroOne ?_;intro wS hrS htS hgS;have HRS:=hid hrS;have HGS:=hid hgS;clear hrS htS hgS))
   refine ret_box2 10 11 40 rfl (w.heap.size+2) _ _ (.int .i64 7) rfl rfl HRS.out Tryz.underlying40 rfl (by kernel_rfl) rfl ?_
   exact backErr HS.out (HK.out.b.grown HGS.out (by have:=HK.out.z;omega) (fun k hk=>by injection hk with hk;omega))
  go_upto_region 7 with fail
  go_cut [59] (fun v wx=>v=.bool (fullB p r)∧w2=wx)
  case first =>
   have r8:=range_cell HK.out.raw 8 _ rfl
   have r9:=range_cell HK.out.raw 9 _ rfl
   have p8:=range_cell HK.out.prof 8 _ rfl
   have p10:=range_cell HK.out.prof 10 _ rfl
   have HFu:Hid (fullB p r=(hx && (decide (p.size<r.text.size) || decide (p.files<r.files.length)))):=hid (by rw [← HXx.out];rfl)
   cases hx
   ·go_wp2
    go_meet
    exact ⟨by rw [HFu.out];rfl,by first | rfl | trivial⟩
   ·by_cases x1:p.size<(r.text.size:Int)
    ·have x1d:decide (p.size<(r.text.size:Int))=true:=decide_eq_true x1
     go_wp2
     go_meet
     exact ⟨by rw [HFu.out,x1d];rfl,by first | rfl | trivial⟩
    ·have x1d:decide (p.size<(r.text.size:Int))=false:=decide_eq_false x1
     go_wp2
     go_meet
     exact ⟨by rw [HFu.out,x1d];simp,by first | rfl | trivial⟩
  case rest =>
   obtain ⟨rfl,rfl⟩:=hcut
   generalize hff:fullB p r=ff
   have HFf:=hid hff
   clear hff
   cases ff
   rotate_left
   ·have HS:Hid (backS p xs net r step=(zeroEv,6)):=hid (by unfold backS;rw [HA.out,HMm.out,HFf.out];rfl)
    go_wp2_with (first
     | ((with_reducible show wpList _ _ _ (Oper.mk _ (Op.load 24 _) _ _ _ _::_) _ _);refine wpList_load_g rfl 24 (.tmp 5) rfl w.heap.size 0 rfl (p.cs A c).toList _ HK.out.prof Tryz.underlying24 rfl (by kernel_rfl) ?_)
     | ((with_reducible show wpList _ _ _ (Oper.mk _ (Op.load 48 _) _ _ _ _::_) _ _);refine wpList_load_g rfl 48 (.tmp 8) rfl (w.heap.size+1) 0 rfl (r.cs fA fc).toList _ HK.out.raw Tryz.underlying48 rfl (by kernel_rfl) ?_)
     | ((with_reducible show wpList _ _ _ (Oper.mk _ (Op.store 40 (.tmp 10) _) _ _ _ _::_) _ _);refine wpList_store_box rfl 40 _ _ rfl (w.heap.size+2) zeroE rfl rfl HK.out.there (by kernel_rfl) zeroOne ?_;intro wS hrS htS hgS;have HRS:=hid hrS;have HGS:=hid hgS;clear hrS htS hgS))
    refine ret_box2 10 11 40 rfl (w.heap.size+2) _ _ (.int .i64 6) rfl rfl HRS.out Tryz.underlying40 rfl (by kernel_rfl) rfl ?_
    exact backErr HS.out (HK.out.b.grown HGS.out (by have:=HK.out.z;omega) (fun k hk=>by injection hk with hk;omega))
   have HS:Hid (backS p xs net r step=if (backFold xs net r step).2=false then (zeroEv,4) else if rightE (backFold xs net r step).1=false then (zeroEv,2) else ((backFold xs net r step).1,0)):=hid (by unfold backS;rw [HA.out,HMm.out,HFf.out];rfl)
   have r0:=range_cell HK.out.raw 0 _ rfl
   have r2:=range_cell HK.out.raw 2 _ rfl
   have r3:=range_cell HK.out.raw 3 _ rfl
   have hzK:=HK.out.z
   have r2':∀ o,(w2.alloc o).cell? ⟨w.heap.size+1,2,none⟩=some (.int .i64 r.kind):=fun o=>(cell_old _ _ _ _ (by omega)).trans r2
   have hpf:p.files≤4:=by
    have h1:profCheck p=0:=by rw [HPk.out];simpa using h1
    exact check_files4 p h1
   go_wp2_with fail
   obtain ⟨W3,hW3⟩:∃ W,W=w2.alloc (.cells ((backE0 r step).cs none 0 none 0) 40):=⟨_,rfl⟩
   have hb3:Below w2.heap.size w2 W3:=by rw [hW3];repeat (first | with_reducible exact Below.refl _ _ | with_reducible assumption | with_reducible refine Below.drew ?_ | with_reducible refine Below.alloc ?_ (by first | omega | (simp;done) | (simp;omega)) _)
   have g3:W3.heap[w2.heap.size]?=some (.cells ((backE0 r step).cs none 0 none 0) 40 (0,0)):=by rw [hW3];exact (MapKept.heap_alloc w2 _).1
   have hz3:W3.heap.size=w2.heap.size+1:=by rw [hW3];simp
   refine Calls.mono (show Calls Tryz.prog 48 #[.int .i64 r.kind] _ (UsesOut r.kind W3) from ?_) ?_
   ·rw [hW3]
    exact evUses_any _ _
   have HK3:=hid (HK.out.below hb3)
   have G3:=hid g3
   clear hW3 hb3 g3 r0 r3 r2' r2
   rintro en w4 ⟨uA,uc,rfl,hu,hub,hb4⟩
   have HK4:=hid (HK3.out.below hb4)
   have hz4:=hb4.size
   have F3:=hid ((hb4.block w2.heap.size (by omega)).trans G3.out)
   have HU:=hid hu
   have HUB:=hid hub
   have HMem:=hid (uses_mem r.kind)
   have HUl:=hid (uses_len r.kind)
   have HFx:=hid (full_files (p:=p) (r:=r) HFf.out)
   have HFm:=hid (uses_files r.kind)
   have HXX:=hid (HXx.out)
   clear hb4 hu hub G3 HK3
   obtain ⟨b3,hb3⟩:∃ b,b=w2.heap.size:=⟨_,rfl⟩
   rw [← hb3] at F3 hz3
   simp only [← hb3]
   have hb3lo:w.heap.size+3≤b3:=by omega
   clear hb3
   have HFo:Hid (backFold xs net r step=(usesL r.kind).foldl (backStep xs net r) (backE0 r step,true)):=hid rfl
   generalize hL:usesL r.kind=us at *
   clear hL
   have hul:us.length≤10:=HUl.out
   go_wp2_with fail
   go_loopw [15,17,18,90] (fun v _ _ i wr=>∃ (k:Nat) (o:EvM × Bool) (gA:Option Addr) (gc:Nat),k≤us.length∧i=.int .i64 k∧v=.bool o.2∧o=(us.take k).foldl (backStep xs net r) (backE0 r step,true)∧o.1.causes=[]∧wr.heap[b3]?=some (.cells (o.1.cs none 0 gA gc) 40 (0,0)) ∧
    RdI wr wr.heap.size gA o.1.files∧o.1.files.length≤gc∧(∀ j,slBlk gA=some j→b3<j)∧Turn (fun j=>j=b3) w4 wr) (fun _ _ _ i _=>us.length - (intOf i).toNat)
   case atStart=>exact ⟨0,(backE0 r step,true),none,0,Nat.zero_le _,rfl,rfl,rfl,rfl,F3.out,RdL.nil_,Nat.le_refl _,(fun j hj=>by cases hj),Turn.refl _ _⟩
   case round =>
    obtain ⟨k,o,gA,gc,hk,rfl,rfl,ho,hca,hbx,hgf,hgl,hgb,ht⟩:=hrel
    have HO:=hid ho
    have HCa:=hid hca
    have HBx:=hid hbx
    have HGf:=hid hgf
    have HGb:=hid hgb
    have HT:=hid ht
    have hz:=ht.size
    have HKr:=hid (HK4.out.turn (ht.mono (fun j hj=>.inl (by omega))))
    clear ho hca hgf hgb
    by_cases hlt:k<us.length
    ·obtain ⟨b,off,hA,hbb,c0⟩:=(HU.out).at_ hlt
     have hbl:=HUB.out b off hA
     have c1:wr.cell? ⟨b,off+k * 1+0,none⟩=some (.string us[k]):=(World.cell?_of_block (ht.block b hbb (by omega))).trans (c0 0 _ rfl)
     rw [Nat.mul_one,Nat.add_zero] at c1
     have HM:=hid (HMem.out us[k] (List.getElem_mem hlt))
     have HSt:Hid ((us.take (k+1)).foldl (backStep xs net r) (backE0 r step,true)=backStep xs net r o us[k]):=hid (by rw [List.take_succ_eq_append_getElem hlt,List.foldl_append,← HO.out];rfl)
     have HFk:=hid (fun h:us[k]=sFiles=>HFm.out (by rw [← h];exact List.getElem_mem hlt))
     subst hA
     have q4:=range_cell HKr.out.raw 4 _ rfl
     have q5:=range_cell HKr.out.raw 5 _ rfl
     have q6:=range_cell HKr.out.raw 6 _ rfl
     have q7:=range_cell HKr.out.raw 7 _ rfl
     have q8:=range_cell HKr.out.raw 8 _ rfl
     have q9:=range_cell HKr.out.raw 9 _ rfl
     have o5:=box_cell hbx 5 _ rfl
     have o6:=box_cell hbx 6 _ rfl
     have o7:=box_cell hbx 7 _ rfl
     have o8:=box_cell hbx 8 _ rfl
     have o9:=box_cell hbx 9 _ rfl
     have o10:=box_cell hbx 10 _ rfl
     have oz:=fun j=>box_free hbx j
     clear c0 hbx ht
     generalize us[k]=s at *
     obtain ⟨o1,o2⟩:=o
     simp only at HBx HGf HCa hgl
     cases o2
     ·skip
      rcases HM.out with hs | hs | hs | hs | hs | hs
      ·rw [hs,stepBT] at HSt
       have hs':s=⟨#[84,97,114,103,101,116]⟩:=hs
       clear hs HM
       subst hs'
       have HKn:=hid (bKnown_any xs B xs.length d net r.on wr rfl (HX.out.now HKr.out.b) (by omega))
       generalize knownR xs net r.on=kn at *
       go_wp2_with (go_at_call 49;refine HKn.out.mono ?_;rintro en w5 ⟨rfl,hb5⟩;have hx5:=(hb5.block b3 (by have:=box_lt HBx.out;omega)).trans HBx.out;have o5':=box_cell hx5 5 _ rfl;have oz5:=fun j=>box_free hx5 j;have HX5:=hid hx5;have HB5:=hid hb5;clear hx5 hb5)
       go_roundw
       case rel =>
        have hT:Turn (fun j=>j=b3) wr (w5.setCell ⟨b3,5,none⟩ (.int .i64 kn.1)):=(Turn.below HB5.out).set b3 5 _ (.inl rfl)
        exact ⟨k+1,({o1 with target:=kn.1},false && kn.2),gA,gc,by omega,by go_num,by first | rfl | simp,HSt.out.symm,HCa.out,heap_setCell_same _ _ _ _ _ _ HX5.out,HGf.out.turn (fun i hi hl=>hT.block i hl (by have:=HGb.out i hi;omega)) hT.size,hgl,HGb.out,HT.out.trans hT (fun i hi=>.inl hi)⟩
       case measure=>simp [intOf];omega
      ·rw [hs,stepBQ] at HSt
       have hs':s=⟨#[81,117,111,116,101]⟩:=hs
       clear hs HM
       subst hs'
       have HKn:=hid (bKnown_any xs B xs.length d net r.quote wr rfl (HX.out.now HKr.out.b) (by omega))
       generalize knownR xs net r.quote=kn at *
       go_wp2_with (go_at_call 49;refine HKn.out.mono ?_;rintro en w5 ⟨rfl,hb5⟩;have hx5:=(hb5.block b3 (by have:=box_lt HBx.out;omega)).trans HBx.out;have o5':=box_cell hx5 6 _ rfl;have oz5:=fun j=>box_free hx5 j;have HX5:=hid hx5;have HB5:=hid hb5;clear hx5 hb5)
       go_roundw
       case rel =>
        have hT:Turn (fun j=>j=b3) wr (w5.setCell ⟨b3,6,none⟩ (.int .i64 kn.1)):=(Turn.below HB5.out).set b3 6 _ (.inl rfl)
        exact ⟨k+1,({o1 with quote:=kn.1},false && kn.2),gA,gc,by omega,by go_num,by first | rfl | simp,HSt.out.symm,HCa.out,heap_setCell_same _ _ _ _ _ _ HX5.out,HGf.out.turn (fun i hi hl=>hT.block i hl (by have:=HGb.out i hi;omega)) hT.size,hgl,HGb.out,HT.out.trans hT (fun i hi=>.inl hi)⟩
       case measure=>simp [intOf];omega
      ·rw [hs,stepBW] at HSt
       have hs':s=⟨#[87,104,111]⟩:=hs
       clear hs HM
       subst hs'
       go_wp2
       go_roundw
       case rel =>
        have hT:Turn (fun j=>j=b3) wr (wr.setCell ⟨b3,7,none⟩ (.int .i64 r.who)):=(Turn.refl (fun j=>j=b3) wr).set b3 7 _ (.inl rfl)
        exact ⟨k+1,({o1 with who:=r.who},false),gA,gc,by omega,by go_num,rfl,HSt.out.symm,HCa.out,heap_setCell_same _ _ _ _ _ _ HBx.out,HGf.out.turn (fun i hi hl=>hT.block i hl (by have:=HGb.out i hi;omega)) hT.size,hgl,HGb.out,HT.out.trans hT (fun i hi=>.inl hi)⟩
       case measure=>simp [intOf];omega
      ·rw [hs,stepBN] at HSt
       have hs':s=⟨#[78]⟩:=hs
       clear hs HM
       subst hs'
       go_wp2
       go_roundw
       case rel =>
        have hT:Turn (fun j=>j=b3) wr (wr.setCell ⟨b3,8,none⟩ (.int .i64 r.n)):=(Turn.refl (fun j=>j=b3) wr).set b3 8 _ (.inl rfl)
        exact ⟨k+1,({o1 with n:=r.n},false),gA,gc,by omega,by go_num,rfl,HSt.out.symm,HCa.out,heap_setCell_same _ _ _ _ _ _ HBx.out,HGf.out.turn (fun i hi hl=>hT.block i hl (by have:=HGb.out i hi;omega)) hT.size,hgl,HGb.out,HT.out.trans hT (fun i hi=>.inl hi)⟩
       case measure=>simp [intOf];omega
      ·rw [hs,stepBX] at HSt
       have hs':s=⟨#[84,101,120,116]⟩:=hs
       clear hs HM
       subst hs'
       go_wp2
       go_roundw
       case rel =>
        have hT:Turn (fun j=>j=b3) wr (wr.setCell ⟨b3,9,none⟩ (.string r.text)):=(Turn.refl (fun j=>j=b3) wr).set b3 9 _ (.inl rfl)
        exact ⟨k+1,({o1 with text:=r.text},false),gA,gc,by omega,by go_num,rfl,HSt.out.symm,HCa.out,heap_setCell_same _ _ _ _ _ _ HBx.out,HGf.out.turn (fun i hi hl=>hT.block i hl (by have:=HGb.out i hi;omega)) hT.size,hgl,HGb.out,HT.out.trans hT (fun i hi=>.inl hi)⟩
       case measure=>simp [intOf];omega
      ·have hfl:r.files.length≤4194320:=by
        have h1:=HFk.out hs
        have h2:=HFx.out h1
        omega
       rw [hs,stepBF] at HSt
       have hs':s=⟨#[70,105,108,101,115]⟩:=hs
       clear hs HM HFk
       subst hs'
       have HCl:=hid (intClone_any r.files fA _ fc wr rfl (HR.out.now HKr.out.b).fi hfl)
       go_wp2_with (go_at_call 50;refine HCl.out.mono ?_;rintro en w5 ⟨A5,c5,rfl,hw5,hb5⟩;have hx5:=(hb5.block b3 (by have:=box_lt HBx.out;omega)).trans HBx.out;have o5':=box_cell hx5 10 _ rfl;have oz5:=fun j=>box_free hx5 j;have HX5:=hid hx5;have HB5:=hid hb5;have HO5:=hid hw5;clear hx5 hb5 hw5)
       go_roundw
       case rel =>
        have hT:Turn (fun j=>j=b3) wr (w5.setCell ⟨b3,10,none⟩ (.slice A5 r.files.length c5)):=(Turn.below HB5.out).set b3 10 _ (.inl rfl)
        have hbl3:=box_lt HBx.out
        exact ⟨k+1,({o1 with files:=r.files},false),A5,c5,by omega,by go_num,rfl,HSt.out.symm,HCa.out,heap_setCell_same _ _ _ _ _ _ HX5.out,(HO5.out.rd intLayV).turn (fun i hi hl=>heap_setCell_other _ _ _ _ (by have:=(HO5.out.blk_lt hi).1;show i≠b3;omega)) (by simp [World.setCell]),HO5.out.len_le,(fun i hi=>by have:=(HO5.out.blk_lt hi).1;omega),HT.out.trans hT (fun i hi=>.inl hi)⟩
       case measure=>simp [intOf];omega
     ·skip
      rcases HM.out with hs | hs | hs | hs | hs | hs
      ·rw [hs,stepBT] at HSt
       have hs':s=⟨#[84,97,114,103,101,116]⟩:=hs
       clear hs HM
       subst hs'
       have HKn:=hid (bKnown_any xs B xs.length d net r.on wr rfl (HX.out.now HKr.out.b) (by omega))
       generalize knownR xs net r.on=kn at *
       go_wp2_with (go_at_call 49;refine HKn.out.mono ?_;rintro en w5 ⟨rfl,hb5⟩;have hx5:=(hb5.block b3 (by have:=box_lt HBx.out;omega)).trans HBx.out;have o5':=box_cell hx5 5 _ rfl;have oz5:=fun j=>box_free hx5 j;have HX5:=hid hx5;have HB5:=hid hb5;clear hx5 hb5)
       go_roundw
       case rel =>
        have hT:Turn (fun j=>j=b3) wr (w5.setCell ⟨b3,5,none⟩ (.int .i64 kn.1)):=(Turn.below HB5.out).set b3 5 _ (.inl rfl)
        exact ⟨k+1,({o1 with target:=kn.1},true && kn.2),gA,gc,by omega,by go_num,by first | rfl | simp,HSt.out.symm,HCa.out,heap_setCell_same _ _ _ _ _ _ HX5.out,HGf.out.turn (fun i hi hl=>hT.block i hl (by have:=HGb.out i hi;omega)) hT.size,hgl,HGb.out,HT.out.trans hT (fun i hi=>.inl hi)⟩
       case measure=>simp [intOf];omega
      ·rw [hs,stepBQ] at HSt
       have hs':s=⟨#[81,117,111,116,101]⟩:=hs
       clear hs HM
       subst hs'
       have HKn:=hid (bKnown_any xs B xs.length d net r.quote wr rfl (HX.out.now HKr.out.b) (by omega))
       generalize knownR xs net r.quote=kn at *
       go_wp2_with (go_at_call 49;refine HKn.out.mono ?_;rintro en w5 ⟨rfl,hb5⟩;have hx5:=(hb5.block b3 (by have:=box_lt HBx.out;omega)).trans HBx.out;have o5':=box_cell hx5 6 _ rfl;have oz5:=fun j=>box_free hx5 j;have HX5:=hid hx5;have HB5:=hid hb5;clear hx5 hb5)
       go_roundw
       case rel =>
        have hT:Turn (fun j=>j=b3) wr (w5.setCell ⟨b3,6,none⟩ (.int .i64 kn.1)):=(Turn.below HB5.out).set b3 6 _ (.inl rfl)
        exact ⟨k+1,({o1 with quote:=kn.1},true && kn.2),gA,gc,by omega,by go_num,by first | rfl | simp,HSt.out.symm,HCa.out,heap_setCell_same _ _ _ _ _ _ HX5.out,HGf.out.turn (fun i hi hl=>hT.block i hl (by have:=HGb.out i hi;omega)) hT.size,hgl,HGb.out,HT.out.trans hT (fun i hi=>.inl hi)⟩
       case measure=>simp [intOf];omega
      ·rw [hs,stepBW] at HSt
       have hs':s=⟨#[87,104,111]⟩:=hs
       clear hs HM
       subst hs'
       go_wp2
       go_roundw
       case rel =>
        have hT:Turn (fun j=>j=b3) wr (wr.setCell ⟨b3,7,none⟩ (.int .i64 r.who)):=(Turn.refl (fun j=>j=b3) wr).set b3 7 _ (.inl rfl)
        exact ⟨k+1,({o1 with who:=r.who},true),gA,gc,by omega,by go_num,rfl,HSt.out.symm,HCa.out,heap_setCell_same _ _ _ _ _ _ HBx.out,HGf.out.turn (fun i hi hl=>hT.block i hl (by have:=HGb.out i hi;omega)) hT.size,hgl,HGb.out,HT.out.trans hT (fun i hi=>.inl hi)⟩
       case measure=>simp [intOf];omega
      ·rw [hs,stepBN] at HSt
       have hs':s=⟨#[78]⟩:=hs
       clear hs HM
       subst hs'
       go_wp2
       go_roundw
       case rel =>
        have hT:Turn (fun j=>j=b3) wr (wr.setCell ⟨b3,8,none⟩ (.int .i64 r.n)):=(Turn.refl (fun j=>j=b3) wr).set b3 8 _ (.inl rfl)
        exact ⟨k+1,({o1 with n:=r.n},true),gA,gc,by omega,by go_num,rfl,HSt.out.symm,HCa.out,heap_setCell_same _ _ _ _ _ _ HBx.out,HGf.out.turn (fun i hi hl=>hT.block i hl (by have:=HGb.out i hi;omega)) hT.size,hgl,HGb.out,HT.out.trans hT (fun i hi=>.inl hi)⟩
       case measure=>simp [intOf];omega
      ·rw [hs,stepBX] at HSt
       have hs':s=⟨#[84,101,120,116]⟩:=hs
       clear hs HM
       subst hs'
       go_wp2
       go_roundw
       case rel =>
        have hT:Turn (fun j=>j=b3) wr (wr.setCell ⟨b3,9,none⟩ (.string r.text)):=(Turn.refl (fun j=>j=b3) wr).set b3 9 _ (.inl rfl)
        exact ⟨k+1,({o1 with text:=r.text},true),gA,gc,by omega,by go_num,rfl,HSt.out.symm,HCa.out,heap_setCell_same _ _ _ _ _ _ HBx.out,HGf.out.turn (fun i hi hl=>hT.block i hl (by have:=HGb.out i hi;omega)) hT.size,hgl,HGb.out,HT.out.trans hT (fun i hi=>.inl hi)⟩
       case measure=>simp [intOf];omega
      ·have hfl:r.files.length≤4194320:=by
        have h1:=HFk.out hs
        have h2:=HFx.out h1
        omega
       rw [hs,stepBF] at HSt
       have hs':s=⟨#[70,105,108,101,115]⟩:=hs
       clear hs HM HFk
       subst hs'
       have HCl:=hid (intClone_any r.files fA _ fc wr rfl (HR.out.now HKr.out.b).fi hfl)
       go_wp2_with (go_at_call 50;refine HCl.out.mono ?_;rintro en w5 ⟨A5,c5,rfl,hw5,hb5⟩;have hx5:=(hb5.block b3 (by have:=box_lt HBx.out;omega)).trans HBx.out;have o5':=box_cell hx5 10 _ rfl;have oz5:=fun j=>box_free hx5 j;have HX5:=hid hx5;have HB5:=hid hb5;have HO5:=hid hw5;clear hx5 hb5 hw5)
       go_roundw
       case rel =>
        have hT:Turn (fun j=>j=b3) wr (w5.setCell ⟨b3,10,none⟩ (.slice A5 r.files.length c5)):=(Turn.below HB5.out).set b3 10 _ (.inl rfl)
        have hbl3:=box_lt HBx.out
        exact ⟨k+1,({o1 with files:=r.files},true),A5,c5,by omega,by go_num,rfl,HSt.out.symm,HCa.out,heap_setCell_same _ _ _ _ _ _ HX5.out,(HO5.out.rd intLayV).turn (fun i hi hl=>heap_setCell_other _ _ _ _ (by have:=(HO5.out.blk_lt hi).1;show i≠b3;omega)) (by simp [World.setCell]),HO5.out.len_le,(fun i hi=>by have:=(HO5.out.blk_lt hi).1;omega),HT.out.trans hT (fun i hi=>.inl hi)⟩
       case measure=>simp [intOf];omega
    ·have hE:o=backFold xs net r step:=by rw [HO.out,List.take_of_length_le (by omega),HFo.out]
     have HSS:=HS
     rw [← hE] at HSS
     have HE:=hid hE
     have HK:=HKr
     have hbl3:=box_lt hbx
     clear hE ht
     obtain ⟨o1,o2⟩:=o
     simp only at HBx HGf HCa hgl HSS hbx
     cases o2
     ·have HS4:Hid (backS p xs net r step=(zeroEv,4)):=hid (by rw [HSS.out];rfl)
      clear hbx
      go_wp2_with (first
       | ((with_reducible show wpList _ _ _ (Oper.mk _ (Op.load 24 _) _ _ _ _::_) _ _);refine wpList_load_g rfl 24 (.tmp 5) rfl w.heap.size 0 rfl (p.cs A c).toList _ HK.out.prof Tryz.underlying24 rfl (by kernel_rfl) ?_)
       | ((with_reducible show wpList _ _ _ (Oper.mk _ (Op.load 48 _) _ _ _ _::_) _ _);refine wpList_load_g rfl 48 (.tmp 8) rfl (w.heap.size+1) 0 rfl (r.cs fA fc).toList _ HK.out.raw Tryz.underlying48 rfl (by kernel_rfl) ?_)
       | ((with_reducible show wpList _ _ _ (Oper.mk _ (Op.store 40 (.tmp 10) _) _ _ _ _::_) _ _);refine wpList_store_box rfl 40 _ _ rfl (w.heap.size+2) zeroE rfl rfl HK.out.there (by kernel_rfl) zeroOne ?_;intro wS hrS htS hgS;have HRS:=hid hrS;have HGS:=hid hgS;clear hrS htS hgS))
      refine ret_box2 10 11 40 rfl (w.heap.size+2) _ _ (.int .i64 4) rfl rfl HRS.out Tryz.underlying40 rfl (by kernel_rfl) rfl ?_
      exact backErr HS4.out (HK.out.b.grown HGS.out (by have:=HK.out.z;omega) (fun k hk=>by injection hk with hk;omega))
     have HS4:Hid (backS p xs net r step=if rightE o1=false then (zeroEv,2) else (o1,0)):=hid (by rw [HSS.out];rfl)
     have HR3:=hid (range_block hbx rfl)
     have hok:EvOk wr wr.heap.size none gA o1:=by
      have hfd:=fold_ok xs net r step us
      rw [← HFo.out,← HE.out] at hfd
      refine ⟨by rw [HCa.out];exact RdL.nil_,HGf.out,by rw [HCa.out];simp,?_,?_⟩
      ·rcases hfd.1 with h | h
       ·simp only at h
        rw [h]
        simp
       ·simp only at h
        rw [h]
        exact HR.out.fl
      ·rcases hfd.2 with h | h
       ·simp only at h
        rw [h]
        simp
       ·simp only at h
        rw [h]
        exact HR.out.tx
     have HRi:=hid (evRight_any o1 none 0 gA gc wr hok hgl)
     clear hok hbx
     generalize hri:rightE o1=ri at *
     clear hri
     go_wp2_with ((with_reducible show wpList _ _ _ (Oper.mk _ (Op.load 40 _) _ _ _ _::_) _ _);refine wpList_load_g rfl 40 (.tmp 14) rfl b3 0 rfl (o1.cs none 0 gA gc).toList _ HR3.out Tryz.underlying40 rfl (by kernel_rfl) ?_)
     refine HRi.out.mono ?_
     rintro en w5 ⟨rfl,hb5⟩
     have HK:=hid (HK.out.below hb5)
     have HR5:Hid (w5.rangeAt b3 0 (o1.cs none 0 gA gc).toList):=hid (range_below HR3.out hb5 hbl3)
     have HG5:=hid (HGf.out.now hb5)
     clear hb5
     cases ri
     ·have HS5:Hid (backS p xs net r step=(zeroEv,2)):=hid (by rw [HS4.out];rfl)
      go_wp2_with (first
       | ((with_reducible show wpList _ _ _ (Oper.mk _ (Op.load 24 _) _ _ _ _::_) _ _);refine wpList_load_g rfl 24 (.tmp 5) rfl w.heap.size 0 rfl (p.cs A c).toList _ HK.out.prof Tryz.underlying24 rfl (by kernel_rfl) ?_)
       | ((with_reducible show wpList _ _ _ (Oper.mk _ (Op.load 48 _) _ _ _ _::_) _ _);refine wpList_load_g rfl 48 (.tmp 8) rfl (w.heap.size+1) 0 rfl (r.cs fA fc).toList _ HK.out.raw Tryz.underlying48 rfl (by kernel_rfl) ?_)
       | ((with_reducible show wpList _ _ _ (Oper.mk _ (Op.store 40 (.tmp 10) _) _ _ _ _::_) _ _);refine wpList_store_box rfl 40 _ _ rfl (w.heap.size+2) zeroE rfl rfl HK.out.there (by kernel_rfl) zeroOne ?_;intro wS hrS htS hgS;have HRS:=hid hrS;have HGS:=hid hgS;clear hrS htS hgS))
      refine ret_box2 10 11 40 rfl (w.heap.size+2) _ _ (.int .i64 2) rfl rfl HRS.out Tryz.underlying40 rfl (by kernel_rfl) rfl ?_
      exact backErr HS5.out (HK.out.b.grown HGS.out (by have:=HK.out.z;omega) (fun k hk=>by injection hk with hk;omega))
     have HS5:Hid (backS p xs net r step=(o1,0)):=hid (by rw [HS4.out];rfl)
     go_wp2_with (first
      | ((with_reducible show wpList _ _ _ (Oper.mk _ (Op.load 40 _) _ _ _ _::_) _ _);refine wpList_load_g rfl 40 (.tmp 14) rfl b3 0 rfl (o1.cs none 0 gA gc).toList _ HR5.out Tryz.underlying40 rfl (by kernel_rfl) ?_)
      | ((with_reducible show wpList _ _ _ (Oper.mk _ (Op.store 40 (.tmp 10) _) _ _ _ _::_) _ _);refine wpList_store_box rfl 40 _ _ rfl (w.heap.size+2) (o1.cs none 0 gA gc) rfl rfl HK.out.there (by kernel_rfl) (evOne o1 none 0 gA gc) ?_;intro wS hrS htS hgS;have HRS:=hid hrS;have HGS:=hid hgS;clear hrS htS hgS))
     refine ret_box2 10 11 40 rfl (w.heap.size+2) _ _ (.int .i64 0) rfl rfl HRS.out Tryz.underlying40 rfl (by kernel_rfl) rfl ?_
     unfold BackOut
     rw [HS5.out]
     refine ⟨HK.out.b.grown HGS.out (by have:=HK.out.z;omega) (fun k hk=>by injection hk with hk;omega),gA,gc,rfl,?_,hgl,fun i hi=>by have:=HGb.out i hi;omega⟩
     exact HG5.out.turn (fun i hi hl=>HGS.out.block i hl (fun e=>by have:=HGb.out i hi;have:=Option.some.inj e;omega)) HGS.out.size
end Go.Proofs.YtlnnjdibkbabiaaGreatDoor
