/- Contracts and plain laws, joined: StT, EvW. -/
import Derived.Test.YthlpehhlhebhbaaGreatDoorQbd
import Derived.Test.YthlpehhlhebhbaaGreatDoorQan
/- Contracts of state.nums,state.list and the closures of state.Text (layer 46;written by genstt.py). -/
set_option linter.unusedSimpArgs false
set_option linter.unusedVariables false
namespace Go.Proofs.YthlpehhlhebhbaaGreatDoor
set_option maxHeartbeats 4000000
open Lib (hid)
open Go.RowKit
set_option maxRecDepth 100000
structure FunS {T:Type} (w:World) (f:FV) (xs:List T) (vx:T→Value) (one:T→List UInt8):Prop where
 ent:∀ args w',(callFunc f.n args).run Tryz.prog w'=.ok (.enter f.n args) w'
 run:∀ x∈xs,∀ w',Below w.heap.size w w'→Calls Tryz.prog f.n (f.bnd++#[vx x]++f.cap) w' fun e w''=>e=.returned (.string (bs (one x)))∧Below w'.heap.size w' w''
theorem FunS.now {T:Type} {w w':World} {f:FV} {xs:List T} {vx:T→Value} {one:T→List UInt8} (h:FunS w f xs vx one) (hb:Below w.heap.size w w'):FunS w' f xs vx one :=
 ⟨h.ent,fun x hx w2 h2=>h.run x hx w2 (hb.trans (h2.mono hb.size))⟩
theorem stNums_any {B:Nat} (xs:List Int) (A:Option Addr) (c:Nat) (w:World) (hV:Vs B w) (hr:RdL 1 intE w w.heap.size A xs) (hx:∀ x∈xs,InInt x) (hn:xs.length≤1000000000) :
  Calls Tryz.prog 89 #[.slice A xs.length c] w fun e w'=>e=.returned (.string (bs (numsL xs)))∧Below w.heap.size w w':=by
 have HV:=hid hV
 have HR:=hid hr
 have HX:=hid hx
 have HFl:=hid (flat_le encN xs)
 have HL:Hid ((xs.flatMap encN).length≤22000000000):=hid (by have:=flat_bound encN 22 xs (fun x h=>encN_len x (hx x h));omega)
 clear hr hx
 unfold numsL
 go_enter Tryz.func89,Tryz.ntmps89
 go_wp2_with fail
 have hB0:=bld_new w
 have hw0:=(Below.refl w.heap.size w).alloc (Nat.le_refl _) (.cells #[.pointer none,.slice none 0 0] 236)
 obtain ⟨w0,hw0e⟩:∃ x,x=w.alloc (.cells #[.pointer none,.slice none 0 0] 236):=⟨_,rfl⟩
 rw [← hw0e] at hB0 hw0 ⊢
 clear hw0e
 have HB0:=hid hB0
 have HW0:=hid hw0
 clear hB0 hw0
 go_loopw [5,8] (fun _ i wr=>∃ k:Nat,k≤xs.length∧i=.int .i64 k∧Bld w.heap.size w.heap.size ((xs.take k).flatMap encN) wr∧Below w.heap.size w wr) (fun _ i _=>xs.length - (intOf i).toNat)
 case atStart=>exact ⟨0,Nat.zero_le _,rfl,by simpa using HB0.out,HW0.out⟩
 case round =>
  obtain ⟨k,hk,rfl,hbd,hb⟩:=hrel
  have HB:=hid hb
  have HD:=hid hbd
  clear hbd HB0 HW0
  by_cases hlt:k<xs.length
  ·obtain ⟨b,off,hA,hc⟩:=rd_int (HR.out.now hb) hlt
   subst hA
   have HXk:=hid (HX.out _ (List.getElem_mem hlt))
   have HSt:=hid (flat_succ encN xs k hlt)
   generalize xs[k]=x at *
   clear hb
   go_wp2_with fail
   refine (wNum_any x _ (HV.out.on (HB.out.mono HV.out.le)) HXk.out).mono ?_
   rintro e w3 ⟨rfl,hb3⟩
   have HD3:=hid (HD.out.now hb3)
   have HB3:=hid (HB.out.trans (hb3.mono HB.out.size))
   clear hb3
   go_wp2_with fail
   refine (bld_write HD3.out (by have:=HFl.out (k+1);have:=HL.out;rw [HSt.out] at *;simp only [List.length_append,List.length_cons,List.length_nil] at *;omega) HB3.out.size).mono ?_
   rintro e w4 ⟨rfl,hB4,hb4⟩
   have HB4:=hid hB4
   have HW4:=hid (HB3.out.trans hb4)
   clear hB4 hb4
   go_wp2_with fail
   go_roundw
   case rel=>exact ⟨k+1,by omega,by go_num,by rw [HSt.out];exact HB4.out,HW4.out⟩
   case measure=>simp [intOf];omega
  ·skip
   have hke:xs.take k=xs:=List.take_of_length_le (by omega)
   have hD2:=HD.out
   rw [hke] at hD2
   have HD2:=hid hD2
   clear hD2 HD hke
   go_wp2_with fail
   refine (bld_string HD2.out HB.out.size).mono ?_
   rintro e w5 ⟨rfl,hB5,hb5⟩
   have HW5:=hid (HB.out.trans hb5)
   clear hB5 hb5
   go_wp2_with fail
   go_ret
   exact ⟨rfl,HW5.out⟩
theorem liEvent_any {B:Nat} (xs:List EvL) (one:EvL→List UInt8) (f:FV) (A:Option Addr) (c:Nat) (w:World) (hV:Vs B w) (hr:RdL 12 EvL.cs w w.heap.size A xs) (hn:xs.length≤1000000000000) (hlen:(xs.flatMap one).length≤10000000000000) (hf:FunS w f xs EvL.v one) :
  Calls Tryz.prog 92 #[.slice A xs.length c,.func (.func f.n) f.bnd f.cap] w fun e w'=>e=.returned (.string (bs (lstE one xs)))∧Below w.heap.size w w':=by
 have HV:=hid hV
 have HR:=hid hr
 have HF:=hid hf
 have HFl:=hid (flat_le one xs)
 have HL:=hid hlen
 have hl22:=encN_len xs.length ⟨by omega,by omega⟩
 have HL2:=hid hl22
 clear hr hf hlen hl22
 unfold lstE
 go_enter Tryz.func92,Tryz.ntmps92
 go_wp2_with fail
 have hB0:=bld_new w
 have hw0:=(Below.refl w.heap.size w).alloc (Nat.le_refl _) (.cells #[.pointer none,.slice none 0 0] 236)
 obtain ⟨w0,hw0e⟩:∃ x,x=w.alloc (.cells #[.pointer none,.slice none 0 0] 236):=⟨_,rfl⟩
 rw [← hw0e] at hB0 hw0 ⊢
 clear hw0e
 refine (wNum_any xs.length w0 (HV.out.on (hw0.mono HV.out.le)) ⟨by omega,by omega⟩).mono ?_
 rintro e w1 ⟨rfl,hb1⟩
 have hB1:=hid (hB0.now hb1)
 have hw1:=hid (hw0.trans (hb1.mono hw0.size))
 clear hB0 hw0 hb1
 go_wp2_with fail
 refine (bld_write hB1.out (by have:=HL2.out;simp;omega) hw1.out.size).mono ?_
 rintro e w2 ⟨rfl,hB2,hb2⟩
 have HB2:=hid hB2
 have HW2:=hid (hw1.out.trans hb2)
 clear hB1 hw1 hB2 hb2
 go_wp2_with fail
 go_loopw [7,14] (fun _ i wr=>∃ k:Nat,k≤xs.length∧i=.int .i64 k∧Bld w.heap.size w.heap.size (encN xs.length++(xs.take k).flatMap one) wr∧Below w.heap.size w wr) (fun _ i _=>xs.length - (intOf i).toNat)
 case atStart=>exact ⟨0,Nat.zero_le _,rfl,by simpa using HB2.out,HW2.out⟩
 case round =>
  obtain ⟨k,hk,rfl,hbd,hb⟩:=hrel
  have HB:=hid hb
  have HD:=hid hbd
  clear hbd HB2 HW2
  by_cases hlt:k<xs.length
  ·obtain ⟨b,off,rfl,hbB,hcc⟩:=(HR.out.now hb).at_ hlt
   have HSt:=hid (flat_succ one xs k hlt)
   have HC:=hid (HF.out.run xs[k] (List.getElem_mem hlt))
   have HE:=hid HF.out.ent
   have HCc:Hid (wr.rangeAt b (off+k * 12) xs[k].cs):=hid (fun j v hj=>hcc j v hj)
   clear hcc hb
   generalize xs[k]=x at *
   go_upto_region 6 with (first
    | ((with_reducible show wpList _ _ _ (Oper.mk _ (Op.load 56 _) _ _ _ _::_) _ _);refine wpList_load_g rfl 56 (.tmp 16) rfl b (off+k * 12) rfl (x.ev.cs x.cA x.cc x.fA x.fc).toList _ HCc.out Tryz.underlying56 rfl (by kernel_rfl) ?_)
    | fail)
   change Code.wp _ _ _ _ (wr.alloc (.cells (x.ev.cs x.cA x.cc x.fA x.fc) 56))
   have hb1:Below wr.heap.size wr (wr.alloc (.cells (x.ev.cs x.cA x.cc x.fA x.fc) 56)):=(Below.refl _ _).alloc (Nat.le_refl _) _
   have hr3:(wr.alloc (.cells (x.ev.cs x.cA x.cc x.fA x.fc) 56)).rangeAt wr.heap.size 0 (x.ev.cs x.cA x.cc x.fA x.fc).toList:=range_block (MapKept.heap_alloc wr _).1 rfl
   have HB1:=hid hb1
   have HR3:=hid hr3
   clear hb1 hr3
   generalize wr.alloc (.cells (x.ev.cs x.cA x.cc x.fA x.fc) 56)=wv at *
   go_wp2_with (first
    | ((with_reducible show wpList _ _ _ (Oper.mk _ (Op.load 56 _) _ _ _ _::_) _ _);refine wpList_load_g rfl 56 (.tmp 7) rfl wr.heap.size 0 rfl (x.ev.cs x.cA x.cc x.fA x.fc).toList _ HR3.out Tryz.underlying56 rfl (by kernel_rfl) ?_)
    | fail)
   rw [HE.out,Oper.upon_enter]
   refine (HC.out wv (HB.out.trans (HB1.out.mono HB.out.size))).mono ?_
   rintro e w3 ⟨rfl,hb3⟩
   have hb4:Below wr.heap.size wr w3:=(HB1.out.trans (hb3.mono HB1.out.size))
   have HD3:=hid (HD.out.now hb4)
   have HB3:=hid (HB.out.trans (hb4.mono HB.out.size))
   clear hb3 hb4
   go_wp2_with fail
   refine (bld_write HD3.out (by have:=HFl.out (k+1);have:=HL.out;have:=HL2.out;rw [HSt.out] at *;simp only [List.length_append,List.length_cons,List.length_nil] at *;omega) HB3.out.size).mono ?_
   rintro e w4 ⟨rfl,hB4,hb4⟩
   have HB4:=hid hB4
   have HW4:=hid (HB3.out.trans hb4)
   clear hB4 hb4
   go_wp2_with fail
   go_roundw
   case rel=>exact ⟨k+1,by omega,by go_num,by rw [HSt.out,← List.append_assoc];exact HB4.out,HW4.out⟩
   case measure=>simp [intOf];omega
  ·skip
   have hke:xs.take k=xs:=List.take_of_length_le (by omega)
   have hD2:=HD.out
   rw [hke] at hD2
   have HD2:=hid hD2
   clear hD2 HD hke
   go_wp2_with fail
   refine (bld_string HD2.out HB.out.size).mono ?_
   rintro e w5 ⟨rfl,hB5,hb5⟩
   have HW5:=hid (HB.out.trans hb5)
   clear hB5 hb5
   go_wp2_with fail
   go_ret
   exact ⟨rfl,HW5.out⟩
theorem liWaiting_any {B:Nat} (xs:List D4) (one:D4→List UInt8) (f:FV) (A:Option Addr) (c:Nat) (w:World) (hV:Vs B w) (hr:RdL 4 D4.cs w w.heap.size A xs) (hn:xs.length≤1000000000000) (hlen:(xs.flatMap one).length≤10000000000000) (hf:FunS w f xs D4.v one) :
  Calls Tryz.prog 96 #[.slice A xs.length c,.func (.func f.n) f.bnd f.cap] w fun e w'=>e=.returned (.string (bs (lstE one xs)))∧Below w.heap.size w w':=by
 have HV:=hid hV
 have HR:=hid hr
 have HF:=hid hf
 have HFl:=hid (flat_le one xs)
 have HL:=hid hlen
 have hl22:=encN_len xs.length ⟨by omega,by omega⟩
 have HL2:=hid hl22
 clear hr hf hlen hl22
 unfold lstE
 go_enter Tryz.func96,Tryz.ntmps96
 go_wp2_with fail
 have hB0:=bld_new w
 have hw0:=(Below.refl w.heap.size w).alloc (Nat.le_refl _) (.cells #[.pointer none,.slice none 0 0] 236)
 obtain ⟨w0,hw0e⟩:∃ x,x=w.alloc (.cells #[.pointer none,.slice none 0 0] 236):=⟨_,rfl⟩
 rw [← hw0e] at hB0 hw0 ⊢
 clear hw0e
 refine (wNum_any xs.length w0 (HV.out.on (hw0.mono HV.out.le)) ⟨by omega,by omega⟩).mono ?_
 rintro e w1 ⟨rfl,hb1⟩
 have hB1:=hid (hB0.now hb1)
 have hw1:=hid (hw0.trans (hb1.mono hw0.size))
 clear hB0 hw0 hb1
 go_wp2_with fail
 refine (bld_write hB1.out (by have:=HL2.out;simp;omega) hw1.out.size).mono ?_
 rintro e w2 ⟨rfl,hB2,hb2⟩
 have HB2:=hid hB2
 have HW2:=hid (hw1.out.trans hb2)
 clear hB1 hw1 hB2 hb2
 go_wp2_with fail
 go_loopw [7,14] (fun _ i wr=>∃ k:Nat,k≤xs.length∧i=.int .i64 k∧Bld w.heap.size w.heap.size (encN xs.length++(xs.take k).flatMap one) wr∧Below w.heap.size w wr) (fun _ i _=>xs.length - (intOf i).toNat)
 case atStart=>exact ⟨0,Nat.zero_le _,rfl,by simpa using HB2.out,HW2.out⟩
 case round =>
  obtain ⟨k,hk,rfl,hbd,hb⟩:=hrel
  have HB:=hid hb
  have HD:=hid hbd
  clear hbd HB2 HW2
  by_cases hlt:k<xs.length
  ·obtain ⟨b,off,rfl,hbB,c0,c1,c2,c3⟩:=rdD4 (HR.out.now hb) hlt
   have HSt:=hid (flat_succ one xs k hlt)
   have HC:=hid (HF.out.run xs[k] (List.getElem_mem hlt))
   have HE:=hid HF.out.ent
   clear hb
   generalize xs[k]=x at *
   go_wp2_with fail
   rw [HE.out,Oper.upon_enter]
   refine (HC.out _ (by have hb:=HB.out;have hs:=hb.size;repeat (first | with_reducible exact Below.refl _ _ | with_reducible assumption | with_reducible refine Below.drew ?_ | with_reducible refine Below.alloc ?_ (by first | omega | (simp;done) | (simp;omega)) _))).mono ?_
   rintro e w3 ⟨rfl,hb3⟩
   have hb4:Below wr.heap.size wr w3:=((show Below wr.heap.size wr (wr.alloc _) from (Below.refl _ _).alloc (Nat.le_refl _) _).trans (hb3.mono (by simp)))
   have HD3:=hid (HD.out.now hb4)
   have HB3:=hid (HB.out.trans (hb4.mono HB.out.size))
   clear hb3 hb4
   go_wp2_with fail
   refine (bld_write HD3.out (by have:=HFl.out (k+1);have:=HL.out;have:=HL2.out;rw [HSt.out] at *;simp only [List.length_append,List.length_cons,List.length_nil] at *;omega) HB3.out.size).mono ?_
   rintro e w4 ⟨rfl,hB4,hb4⟩
   have HB4:=hid hB4
   have HW4:=hid (HB3.out.trans hb4)
   clear hB4 hb4
   go_wp2_with fail
   go_roundw
   case rel=>exact ⟨k+1,by omega,by go_num,by rw [HSt.out,← List.append_assoc];exact HB4.out,HW4.out⟩
   case measure=>simp [intOf];omega
  ·skip
   have hke:xs.take k=xs:=List.take_of_length_le (by omega)
   have hD2:=HD.out
   rw [hke] at hD2
   have HD2:=hid hD2
   clear hD2 HD hke
   go_wp2_with fail
   refine (bld_string HD2.out HB.out.size).mono ?_
   rintro e w5 ⟨rfl,hB5,hb5⟩
   have HW5:=hid (HB.out.trans hb5)
   clear hB5 hb5
   go_wp2_with fail
   go_ret
   exact ⟨rfl,HW5.out⟩
theorem liSent_any {B:Nat} (xs:List D3) (one:D3→List UInt8) (f:FV) (A:Option Addr) (c:Nat) (w:World) (hV:Vs B w) (hr:RdL 3 D3.cs w w.heap.size A xs) (hn:xs.length≤1000000000000) (hlen:(xs.flatMap one).length≤10000000000000) (hf:FunS w f xs D3.v one) :
  Calls Tryz.prog 98 #[.slice A xs.length c,.func (.func f.n) f.bnd f.cap] w fun e w'=>e=.returned (.string (bs (lstE one xs)))∧Below w.heap.size w w':=by
 have HV:=hid hV
 have HR:=hid hr
 have HF:=hid hf
 have HFl:=hid (flat_le one xs)
 have HL:=hid hlen
 have hl22:=encN_len xs.length ⟨by omega,by omega⟩
 have HL2:=hid hl22
 clear hr hf hlen hl22
 unfold lstE
 go_enter Tryz.func98,Tryz.ntmps98
 go_wp2_with fail
 have hB0:=bld_new w
 have hw0:=(Below.refl w.heap.size w).alloc (Nat.le_refl _) (.cells #[.pointer none,.slice none 0 0] 236)
 obtain ⟨w0,hw0e⟩:∃ x,x=w.alloc (.cells #[.pointer none,.slice none 0 0] 236):=⟨_,rfl⟩
 rw [← hw0e] at hB0 hw0 ⊢
 clear hw0e
 refine (wNum_any xs.length w0 (HV.out.on (hw0.mono HV.out.le)) ⟨by omega,by omega⟩).mono ?_
 rintro e w1 ⟨rfl,hb1⟩
 have hB1:=hid (hB0.now hb1)
 have hw1:=hid (hw0.trans (hb1.mono hw0.size))
 clear hB0 hw0 hb1
 go_wp2_with fail
 refine (bld_write hB1.out (by have:=HL2.out;simp;omega) hw1.out.size).mono ?_
 rintro e w2 ⟨rfl,hB2,hb2⟩
 have HB2:=hid hB2
 have HW2:=hid (hw1.out.trans hb2)
 clear hB1 hw1 hB2 hb2
 go_wp2_with fail
 go_loopw [7,14] (fun _ i wr=>∃ k:Nat,k≤xs.length∧i=.int .i64 k∧Bld w.heap.size w.heap.size (encN xs.length++(xs.take k).flatMap one) wr∧Below w.heap.size w wr) (fun _ i _=>xs.length - (intOf i).toNat)
 case atStart=>exact ⟨0,Nat.zero_le _,rfl,by simpa using HB2.out,HW2.out⟩
 case round =>
  obtain ⟨k,hk,rfl,hbd,hb⟩:=hrel
  have HB:=hid hb
  have HD:=hid hbd
  clear hbd HB2 HW2
  by_cases hlt:k<xs.length
  ·obtain ⟨b,off,rfl,hbB,c0,c1,c2⟩:=rdD3 (HR.out.now hb) hlt
   have HSt:=hid (flat_succ one xs k hlt)
   have HC:=hid (HF.out.run xs[k] (List.getElem_mem hlt))
   have HE:=hid HF.out.ent
   clear hb
   generalize xs[k]=x at *
   go_wp2_with fail
   rw [HE.out,Oper.upon_enter]
   refine (HC.out _ (by have hb:=HB.out;have hs:=hb.size;repeat (first | with_reducible exact Below.refl _ _ | with_reducible assumption | with_reducible refine Below.drew ?_ | with_reducible refine Below.alloc ?_ (by first | omega | (simp;done) | (simp;omega)) _))).mono ?_
   rintro e w3 ⟨rfl,hb3⟩
   have hb4:Below wr.heap.size wr w3:=((show Below wr.heap.size wr (wr.alloc _) from (Below.refl _ _).alloc (Nat.le_refl _) _).trans (hb3.mono (by simp)))
   have HD3:=hid (HD.out.now hb4)
   have HB3:=hid (HB.out.trans (hb4.mono HB.out.size))
   clear hb3 hb4
   go_wp2_with fail
   refine (bld_write HD3.out (by have:=HFl.out (k+1);have:=HL.out;have:=HL2.out;rw [HSt.out] at *;simp only [List.length_append,List.length_cons,List.length_nil] at *;omega) HB3.out.size).mono ?_
   rintro e w4 ⟨rfl,hB4,hb4⟩
   have HB4:=hid hB4
   have HW4:=hid (HB3.out.trans hb4)
   clear hB4 hb4
   go_wp2_with fail
   go_roundw
   case rel=>exact ⟨k+1,by omega,by go_num,by rw [HSt.out,← List.append_assoc];exact HB4.out,HW4.out⟩
   case measure=>simp [intOf];omega
  ·skip
   have hke:xs.take k=xs:=List.take_of_length_le (by omega)
   have hD2:=HD.out
   rw [hke] at hD2
   have HD2:=hid hD2
   clear hD2 HD hke
   go_wp2_with fail
   refine (bld_string HD2.out HB.out.size).mono ?_
   rintro e w5 ⟨rfl,hB5,hb5⟩
   have HW5:=hid (HB.out.trans hb5)
   clear hB5 hb5
   go_wp2_with fail
   go_ret
   exact ⟨rfl,HW5.out⟩
theorem liDebt_any {B:Nat} (xs:List D2) (one:D2→List UInt8) (f:FV) (A:Option Addr) (c:Nat) (w:World) (hV:Vs B w) (hr:RdL 2 D2.cs w w.heap.size A xs) (hn:xs.length≤1000000000000) (hlen:(xs.flatMap one).length≤10000000000000) (hf:FunS w f xs D2.v one) :
  Calls Tryz.prog 100 #[.slice A xs.length c,.func (.func f.n) f.bnd f.cap] w fun e w'=>e=.returned (.string (bs (lstE one xs)))∧Below w.heap.size w w':=by
 have HV:=hid hV
 have HR:=hid hr
 have HF:=hid hf
 have HFl:=hid (flat_le one xs)
 have HL:=hid hlen
 have hl22:=encN_len xs.length ⟨by omega,by omega⟩
 have HL2:=hid hl22
 clear hr hf hlen hl22
 unfold lstE
 go_enter Tryz.func100,Tryz.ntmps100
 go_wp2_with fail
 have hB0:=bld_new w
 have hw0:=(Below.refl w.heap.size w).alloc (Nat.le_refl _) (.cells #[.pointer none,.slice none 0 0] 236)
 obtain ⟨w0,hw0e⟩:∃ x,x=w.alloc (.cells #[.pointer none,.slice none 0 0] 236):=⟨_,rfl⟩
 rw [← hw0e] at hB0 hw0 ⊢
 clear hw0e
 refine (wNum_any xs.length w0 (HV.out.on (hw0.mono HV.out.le)) ⟨by omega,by omega⟩).mono ?_
 rintro e w1 ⟨rfl,hb1⟩
 have hB1:=hid (hB0.now hb1)
 have hw1:=hid (hw0.trans (hb1.mono hw0.size))
 clear hB0 hw0 hb1
 go_wp2_with fail
 refine (bld_write hB1.out (by have:=HL2.out;simp;omega) hw1.out.size).mono ?_
 rintro e w2 ⟨rfl,hB2,hb2⟩
 have HB2:=hid hB2
 have HW2:=hid (hw1.out.trans hb2)
 clear hB1 hw1 hB2 hb2
 go_wp2_with fail
 go_loopw [7,14] (fun _ i wr=>∃ k:Nat,k≤xs.length∧i=.int .i64 k∧Bld w.heap.size w.heap.size (encN xs.length++(xs.take k).flatMap one) wr∧Below w.heap.size w wr) (fun _ i _=>xs.length - (intOf i).toNat)
 case atStart=>exact ⟨0,Nat.zero_le _,rfl,by simpa using HB2.out,HW2.out⟩
 case round =>
  obtain ⟨k,hk,rfl,hbd,hb⟩:=hrel
  have HB:=hid hb
  have HD:=hid hbd
  clear hbd HB2 HW2
  by_cases hlt:k<xs.length
  ·obtain ⟨b,off,rfl,hbB,c0,c1⟩:=rdD2 (HR.out.now hb) hlt
   have HSt:=hid (flat_succ one xs k hlt)
   have HC:=hid (HF.out.run xs[k] (List.getElem_mem hlt))
   have HE:=hid HF.out.ent
   clear hb
   generalize xs[k]=x at *
   go_wp2_with fail
   rw [HE.out,Oper.upon_enter]
   refine (HC.out _ (by have hb:=HB.out;have hs:=hb.size;repeat (first | with_reducible exact Below.refl _ _ | with_reducible assumption | with_reducible refine Below.drew ?_ | with_reducible refine Below.alloc ?_ (by first | omega | (simp;done) | (simp;omega)) _))).mono ?_
   rintro e w3 ⟨rfl,hb3⟩
   have hb4:Below wr.heap.size wr w3:=((show Below wr.heap.size wr (wr.alloc _) from (Below.refl _ _).alloc (Nat.le_refl _) _).trans (hb3.mono (by simp)))
   have HD3:=hid (HD.out.now hb4)
   have HB3:=hid (HB.out.trans (hb4.mono HB.out.size))
   clear hb3 hb4
   go_wp2_with fail
   refine (bld_write HD3.out (by have:=HFl.out (k+1);have:=HL.out;have:=HL2.out;rw [HSt.out] at *;simp only [List.length_append,List.length_cons,List.length_nil] at *;omega) HB3.out.size).mono ?_
   rintro e w4 ⟨rfl,hB4,hb4⟩
   have HB4:=hid hB4
   have HW4:=hid (HB3.out.trans hb4)
   clear hB4 hb4
   go_wp2_with fail
   go_roundw
   case rel=>exact ⟨k+1,by omega,by go_num,by rw [HSt.out,← List.append_assoc];exact HB4.out,HW4.out⟩
   case measure=>simp [intOf];omega
  ·skip
   have hke:xs.take k=xs:=List.take_of_length_le (by omega)
   have hD2:=HD.out
   rw [hke] at hD2
   have HD2:=hid hD2
   clear hD2 HD hke
   go_wp2_with fail
   refine (bld_string HD2.out HB.out.size).mono ?_
   rintro e w5 ⟨rfl,hB5,hb5⟩
   have HW5:=hid (HB.out.trans hb5)
   clear hB5 hb5
   go_wp2_with fail
   go_ret
   exact ⟨rfl,HW5.out⟩
theorem liPair_any {B:Nat} (xs:List D4) (one:D4→List UInt8) (f:FV) (A:Option Addr) (c:Nat) (w:World) (hV:Vs B w) (hr:RdL 4 D4.cs w w.heap.size A xs) (hn:xs.length≤1000000000000) (hlen:(xs.flatMap one).length≤10000000000000) (hf:FunS w f xs D4.v one) :
  Calls Tryz.prog 101 #[.slice A xs.length c,.func (.func f.n) f.bnd f.cap] w fun e w'=>e=.returned (.string (bs (lstE one xs)))∧Below w.heap.size w w':=by
 have HV:=hid hV
 have HR:=hid hr
 have HF:=hid hf
 have HFl:=hid (flat_le one xs)
 have HL:=hid hlen
 have hl22:=encN_len xs.length ⟨by omega,by omega⟩
 have HL2:=hid hl22
 clear hr hf hlen hl22
 unfold lstE
 go_enter Tryz.func101,Tryz.ntmps101
 go_wp2_with fail
 have hB0:=bld_new w
 have hw0:=(Below.refl w.heap.size w).alloc (Nat.le_refl _) (.cells #[.pointer none,.slice none 0 0] 236)
 obtain ⟨w0,hw0e⟩:∃ x,x=w.alloc (.cells #[.pointer none,.slice none 0 0] 236):=⟨_,rfl⟩
 rw [← hw0e] at hB0 hw0 ⊢
 clear hw0e
 refine (wNum_any xs.length w0 (HV.out.on (hw0.mono HV.out.le)) ⟨by omega,by omega⟩).mono ?_
 rintro e w1 ⟨rfl,hb1⟩
 have hB1:=hid (hB0.now hb1)
 have hw1:=hid (hw0.trans (hb1.mono hw0.size))
 clear hB0 hw0 hb1
 go_wp2_with fail
 refine (bld_write hB1.out (by have:=HL2.out;simp;omega) hw1.out.size).mono ?_
 rintro e w2 ⟨rfl,hB2,hb2⟩
 have HB2:=hid hB2
 have HW2:=hid (hw1.out.trans hb2)
 clear hB1 hw1 hB2 hb2
 go_wp2_with fail
 go_loopw [7,14] (fun _ i wr=>∃ k:Nat,k≤xs.length∧i=.int .i64 k∧Bld w.heap.size w.heap.size (encN xs.length++(xs.take k).flatMap one) wr∧Below w.heap.size w wr) (fun _ i _=>xs.length - (intOf i).toNat)
 case atStart=>exact ⟨0,Nat.zero_le _,rfl,by simpa using HB2.out,HW2.out⟩
 case round =>
  obtain ⟨k,hk,rfl,hbd,hb⟩:=hrel
  have HB:=hid hb
  have HD:=hid hbd
  clear hbd HB2 HW2
  by_cases hlt:k<xs.length
  ·obtain ⟨b,off,rfl,hbB,c0,c1,c2,c3⟩:=rdD4 (HR.out.now hb) hlt
   have HSt:=hid (flat_succ one xs k hlt)
   have HC:=hid (HF.out.run xs[k] (List.getElem_mem hlt))
   have HE:=hid HF.out.ent
   clear hb
   generalize xs[k]=x at *
   go_wp2_with fail
   rw [HE.out,Oper.upon_enter]
   refine (HC.out _ (by have hb:=HB.out;have hs:=hb.size;repeat (first | with_reducible exact Below.refl _ _ | with_reducible assumption | with_reducible refine Below.drew ?_ | with_reducible refine Below.alloc ?_ (by first | omega | (simp;done) | (simp;omega)) _))).mono ?_
   rintro e w3 ⟨rfl,hb3⟩
   have hb4:Below wr.heap.size wr w3:=((show Below wr.heap.size wr (wr.alloc _) from (Below.refl _ _).alloc (Nat.le_refl _) _).trans (hb3.mono (by simp)))
   have HD3:=hid (HD.out.now hb4)
   have HB3:=hid (HB.out.trans (hb4.mono HB.out.size))
   clear hb3 hb4
   go_wp2_with fail
   refine (bld_write HD3.out (by have:=HFl.out (k+1);have:=HL.out;have:=HL2.out;rw [HSt.out] at *;simp only [List.length_append,List.length_cons,List.length_nil] at *;omega) HB3.out.size).mono ?_
   rintro e w4 ⟨rfl,hB4,hb4⟩
   have HB4:=hid hB4
   have HW4:=hid (HB3.out.trans hb4)
   clear hB4 hb4
   go_wp2_with fail
   go_roundw
   case rel=>exact ⟨k+1,by omega,by go_num,by rw [HSt.out,← List.append_assoc];exact HB4.out,HW4.out⟩
   case measure=>simp [intOf];omega
  ·skip
   have hke:xs.take k=xs:=List.take_of_length_le (by omega)
   have hD2:=HD.out
   rw [hke] at hD2
   have HD2:=hid hD2
   clear hD2 HD hke
   go_wp2_with fail
   refine (bld_string HD2.out HB.out.size).mono ?_
   rintro e w5 ⟨rfl,hB5,hb5⟩
   have HW5:=hid (HB.out.trans hb5)
   clear hB5 hb5
   go_wp2_with fail
   go_ret
   exact ⟨rfl,HW5.out⟩
theorem liProof_any {B:Nat} (xs:List D3) (one:D3→List UInt8) (f:FV) (A:Option Addr) (c:Nat) (w:World) (hV:Vs B w) (hr:RdL 3 D3.cs w w.heap.size A xs) (hn:xs.length≤1000000000000) (hlen:(xs.flatMap one).length≤10000000000000) (hf:FunS w f xs D3.v one) :
  Calls Tryz.prog 103 #[.slice A xs.length c,.func (.func f.n) f.bnd f.cap] w fun e w'=>e=.returned (.string (bs (lstE one xs)))∧Below w.heap.size w w':=by
 have HV:=hid hV
 have HR:=hid hr
 have HF:=hid hf
 have HFl:=hid (flat_le one xs)
 have HL:=hid hlen
 have hl22:=encN_len xs.length ⟨by omega,by omega⟩
 have HL2:=hid hl22
 clear hr hf hlen hl22
 unfold lstE
 go_enter Tryz.func103,Tryz.ntmps103
 go_wp2_with fail
 have hB0:=bld_new w
 have hw0:=(Below.refl w.heap.size w).alloc (Nat.le_refl _) (.cells #[.pointer none,.slice none 0 0] 236)
 obtain ⟨w0,hw0e⟩:∃ x,x=w.alloc (.cells #[.pointer none,.slice none 0 0] 236):=⟨_,rfl⟩
 rw [← hw0e] at hB0 hw0 ⊢
 clear hw0e
 refine (wNum_any xs.length w0 (HV.out.on (hw0.mono HV.out.le)) ⟨by omega,by omega⟩).mono ?_
 rintro e w1 ⟨rfl,hb1⟩
 have hB1:=hid (hB0.now hb1)
 have hw1:=hid (hw0.trans (hb1.mono hw0.size))
 clear hB0 hw0 hb1
 go_wp2_with fail
 refine (bld_write hB1.out (by have:=HL2.out;simp;omega) hw1.out.size).mono ?_
 rintro e w2 ⟨rfl,hB2,hb2⟩
 have HB2:=hid hB2
 have HW2:=hid (hw1.out.trans hb2)
 clear hB1 hw1 hB2 hb2
 go_wp2_with fail
 go_loopw [7,14] (fun _ i wr=>∃ k:Nat,k≤xs.length∧i=.int .i64 k∧Bld w.heap.size w.heap.size (encN xs.length++(xs.take k).flatMap one) wr∧Below w.heap.size w wr) (fun _ i _=>xs.length - (intOf i).toNat)
 case atStart=>exact ⟨0,Nat.zero_le _,rfl,by simpa using HB2.out,HW2.out⟩
 case round =>
  obtain ⟨k,hk,rfl,hbd,hb⟩:=hrel
  have HB:=hid hb
  have HD:=hid hbd
  clear hbd HB2 HW2
  by_cases hlt:k<xs.length
  ·obtain ⟨b,off,rfl,hbB,c0,c1,c2⟩:=rdD3 (HR.out.now hb) hlt
   have HSt:=hid (flat_succ one xs k hlt)
   have HC:=hid (HF.out.run xs[k] (List.getElem_mem hlt))
   have HE:=hid HF.out.ent
   clear hb
   generalize xs[k]=x at *
   go_wp2_with fail
   rw [HE.out,Oper.upon_enter]
   refine (HC.out _ (by have hb:=HB.out;have hs:=hb.size;repeat (first | with_reducible exact Below.refl _ _ | with_reducible assumption | with_reducible refine Below.drew ?_ | with_reducible refine Below.alloc ?_ (by first | omega | (simp;done) | (simp;omega)) _))).mono ?_
   rintro e w3 ⟨rfl,hb3⟩
   have hb4:Below wr.heap.size wr w3:=((show Below wr.heap.size wr (wr.alloc _) from (Below.refl _ _).alloc (Nat.le_refl _) _).trans (hb3.mono (by simp)))
   have HD3:=hid (HD.out.now hb4)
   have HB3:=hid (HB.out.trans (hb4.mono HB.out.size))
   clear hb3 hb4
   go_wp2_with fail
   refine (bld_write HD3.out (by have:=HFl.out (k+1);have:=HL.out;have:=HL2.out;rw [HSt.out] at *;simp only [List.length_append,List.length_cons,List.length_nil] at *;omega) HB3.out.size).mono ?_
   rintro e w4 ⟨rfl,hB4,hb4⟩
   have HB4:=hid hB4
   have HW4:=hid (HB3.out.trans hb4)
   clear hB4 hb4
   go_wp2_with fail
   go_roundw
   case rel=>exact ⟨k+1,by omega,by go_num,by rw [HSt.out,← List.append_assoc];exact HB4.out,HW4.out⟩
   case measure=>simp [intOf];omega
  ·skip
   have hke:xs.take k=xs:=List.take_of_length_le (by omega)
   have hD2:=HD.out
   rw [hke] at hD2
   have HD2:=hid hD2
   clear hD2 HD hke
   go_wp2_with fail
   refine (bld_string HD2.out HB.out.size).mono ?_
   rintro e w5 ⟨rfl,hB5,hb5⟩
   have HW5:=hid (HB.out.trans hb5)
   clear hB5 hb5
   go_wp2_with fail
   go_ret
   exact ⟨rfl,HW5.out⟩
theorem liNotes_any {B:Nat} (xs:List NL) (one:NL→List UInt8) (f:FV) (A:Option Addr) (c:Nat) (w:World) (hV:Vs B w) (hr:RdL 1 NL.cs w w.heap.size A xs) (hn:xs.length≤1000000000000) (hlen:(xs.flatMap one).length≤10000000000000) (hf:FunS w f xs NL.v one) :
  Calls Tryz.prog 105 #[.slice A xs.length c,.func (.func f.n) f.bnd f.cap] w fun e w'=>e=.returned (.string (bs (lstE one xs)))∧Below w.heap.size w w':=by
 have HV:=hid hV
 have HR:=hid hr
 have HF:=hid hf
 have HFl:=hid (flat_le one xs)
 have HL:=hid hlen
 have hl22:=encN_len xs.length ⟨by omega,by omega⟩
 have HL2:=hid hl22
 clear hr hf hlen hl22
 unfold lstE
 go_enter Tryz.func105,Tryz.ntmps105
 go_wp2_with fail
 have hB0:=bld_new w
 have hw0:=(Below.refl w.heap.size w).alloc (Nat.le_refl _) (.cells #[.pointer none,.slice none 0 0] 236)
 obtain ⟨w0,hw0e⟩:∃ x,x=w.alloc (.cells #[.pointer none,.slice none 0 0] 236):=⟨_,rfl⟩
 rw [← hw0e] at hB0 hw0 ⊢
 clear hw0e
 refine (wNum_any xs.length w0 (HV.out.on (hw0.mono HV.out.le)) ⟨by omega,by omega⟩).mono ?_
 rintro e w1 ⟨rfl,hb1⟩
 have hB1:=hid (hB0.now hb1)
 have hw1:=hid (hw0.trans (hb1.mono hw0.size))
 clear hB0 hw0 hb1
 go_wp2_with fail
 refine (bld_write hB1.out (by have:=HL2.out;simp;omega) hw1.out.size).mono ?_
 rintro e w2 ⟨rfl,hB2,hb2⟩
 have HB2:=hid hB2
 have HW2:=hid (hw1.out.trans hb2)
 clear hB1 hw1 hB2 hb2
 go_wp2_with fail
 go_loopw [7,14] (fun _ i wr=>∃ k:Nat,k≤xs.length∧i=.int .i64 k∧Bld w.heap.size w.heap.size (encN xs.length++(xs.take k).flatMap one) wr∧Below w.heap.size w wr) (fun _ i _=>xs.length - (intOf i).toNat)
 case atStart=>exact ⟨0,Nat.zero_le _,rfl,by simpa using HB2.out,HW2.out⟩
 case round =>
  obtain ⟨k,hk,rfl,hbd,hb⟩:=hrel
  have HB:=hid hb
  have HD:=hid hbd
  clear hbd HB2 HW2
  by_cases hlt:k<xs.length
  ·obtain ⟨b,off,rfl,hbB,c0⟩:=rdNL (HR.out.now hb) hlt
   have HSt:=hid (flat_succ one xs k hlt)
   have HC:=hid (HF.out.run xs[k] (List.getElem_mem hlt))
   have HE:=hid HF.out.ent
   clear hb
   generalize xs[k]=x at *
   go_wp2_with fail
   rw [HE.out,Oper.upon_enter]
   refine (HC.out _ (HB.out)).mono ?_
   rintro e w3 ⟨rfl,hb3⟩
   have hb4:Below wr.heap.size wr w3:=hb3
   have HD3:=hid (HD.out.now hb4)
   have HB3:=hid (HB.out.trans (hb4.mono HB.out.size))
   clear hb3 hb4
   go_wp2_with fail
   refine (bld_write HD3.out (by have:=HFl.out (k+1);have:=HL.out;have:=HL2.out;rw [HSt.out] at *;simp only [List.length_append,List.length_cons,List.length_nil] at *;omega) HB3.out.size).mono ?_
   rintro e w4 ⟨rfl,hB4,hb4⟩
   have HB4:=hid hB4
   have HW4:=hid (HB3.out.trans hb4)
   clear hB4 hb4
   go_wp2_with fail
   go_roundw
   case rel=>exact ⟨k+1,by omega,by go_num,by rw [HSt.out,← List.append_assoc];exact HB4.out,HW4.out⟩
   case measure=>simp [intOf];omega
  ·skip
   have hke:xs.take k=xs:=List.take_of_length_le (by omega)
   have hD2:=HD.out
   rw [hke] at hD2
   have HD2:=hid hD2
   clear hD2 HD hke
   go_wp2_with fail
   refine (bld_string HD2.out HB.out.size).mono ?_
   rintro e w5 ⟨rfl,hB5,hb5⟩
   have HW5:=hid (HB.out.trans hb5)
   clear hB5 hb5
   go_wp2_with fail
   go_ret
   exact ⟨rfl,HW5.out⟩
theorem liNote_any {B:Nat} (xs:List E5) (one:E5→List UInt8) (f:FV) (A:Option Addr) (c:Nat) (w:World) (hV:Vs B w) (hr:RdL 5 E5.cs w w.heap.size A xs) (hn:xs.length≤1000000000000) (hlen:(xs.flatMap one).length≤10000000000000) (hf:FunS w f xs E5.v one) :
  Calls Tryz.prog 107 #[.slice A xs.length c,.func (.func f.n) f.bnd f.cap] w fun e w'=>e=.returned (.string (bs (lstE one xs)))∧Below w.heap.size w w':=by
 have HV:=hid hV
 have HR:=hid hr
 have HF:=hid hf
 have HFl:=hid (flat_le one xs)
 have HL:=hid hlen
 have hl22:=encN_len xs.length ⟨by omega,by omega⟩
 have HL2:=hid hl22
 clear hr hf hlen hl22
 unfold lstE
 go_enter Tryz.func107,Tryz.ntmps107
 go_wp2_with fail
 have hB0:=bld_new w
 have hw0:=(Below.refl w.heap.size w).alloc (Nat.le_refl _) (.cells #[.pointer none,.slice none 0 0] 236)
 obtain ⟨w0,hw0e⟩:∃ x,x=w.alloc (.cells #[.pointer none,.slice none 0 0] 236):=⟨_,rfl⟩
 rw [← hw0e] at hB0 hw0 ⊢
 clear hw0e
 refine (wNum_any xs.length w0 (HV.out.on (hw0.mono HV.out.le)) ⟨by omega,by omega⟩).mono ?_
 rintro e w1 ⟨rfl,hb1⟩
 have hB1:=hid (hB0.now hb1)
 have hw1:=hid (hw0.trans (hb1.mono hw0.size))
 clear hB0 hw0 hb1
 go_wp2_with fail
 refine (bld_write hB1.out (by have:=HL2.out;simp;omega) hw1.out.size).mono ?_
 rintro e w2 ⟨rfl,hB2,hb2⟩
 have HB2:=hid hB2
 have HW2:=hid (hw1.out.trans hb2)
 clear hB1 hw1 hB2 hb2
 go_wp2_with fail
 go_loopw [7,14] (fun _ i wr=>∃ k:Nat,k≤xs.length∧i=.int .i64 k∧Bld w.heap.size w.heap.size (encN xs.length++(xs.take k).flatMap one) wr∧Below w.heap.size w wr) (fun _ i _=>xs.length - (intOf i).toNat)
 case atStart=>exact ⟨0,Nat.zero_le _,rfl,by simpa using HB2.out,HW2.out⟩
 case round =>
  obtain ⟨k,hk,rfl,hbd,hb⟩:=hrel
  have HB:=hid hb
  have HD:=hid hbd
  clear hbd HB2 HW2
  by_cases hlt:k<xs.length
  ·obtain ⟨b,off,rfl,hbB,c0,c1,c2,c3,c4⟩:=rdE5 (HR.out.now hb) hlt
   have HSt:=hid (flat_succ one xs k hlt)
   have HC:=hid (HF.out.run xs[k] (List.getElem_mem hlt))
   have HE:=hid HF.out.ent
   clear hb
   generalize xs[k]=x at *
   go_wp2_with fail
   rw [HE.out,Oper.upon_enter]
   refine (HC.out _ (by have hb:=HB.out;have hs:=hb.size;repeat (first | with_reducible exact Below.refl _ _ | with_reducible assumption | with_reducible refine Below.drew ?_ | with_reducible refine Below.alloc ?_ (by first | omega | (simp;done) | (simp;omega)) _))).mono ?_
   rintro e w3 ⟨rfl,hb3⟩
   have hb4:Below wr.heap.size wr w3:=((show Below wr.heap.size wr (wr.alloc _) from (Below.refl _ _).alloc (Nat.le_refl _) _).trans (hb3.mono (by simp)))
   have HD3:=hid (HD.out.now hb4)
   have HB3:=hid (HB.out.trans (hb4.mono HB.out.size))
   clear hb3 hb4
   go_wp2_with fail
   refine (bld_write HD3.out (by have:=HFl.out (k+1);have:=HL.out;have:=HL2.out;rw [HSt.out] at *;simp only [List.length_append,List.length_cons,List.length_nil] at *;omega) HB3.out.size).mono ?_
   rintro e w4 ⟨rfl,hB4,hb4⟩
   have HB4:=hid hB4
   have HW4:=hid (HB3.out.trans hb4)
   clear hB4 hb4
   go_wp2_with fail
   go_roundw
   case rel=>exact ⟨k+1,by omega,by go_num,by rw [HSt.out,← List.append_assoc];exact HB4.out,HW4.out⟩
   case measure=>simp [intOf];omega
  ·skip
   have hke:xs.take k=xs:=List.take_of_length_le (by omega)
   have hD2:=HD.out
   rw [hke] at hD2
   have HD2:=hid hD2
   clear hD2 HD hke
   go_wp2_with fail
   refine (bld_string HD2.out HB.out.size).mono ?_
   rintro e w5 ⟨rfl,hB5,hb5⟩
   have HW5:=hid (HB.out.trans hb5)
   clear hB5 hb5
   go_wp2_with fail
   go_ret
   exact ⟨rfl,HW5.out⟩
theorem liVerdict_any {B:Nat} (xs:List E3) (one:E3→List UInt8) (f:FV) (A:Option Addr) (c:Nat) (w:World) (hV:Vs B w) (hr:RdL 3 E3.cs w w.heap.size A xs) (hn:xs.length≤1000000000000) (hlen:(xs.flatMap one).length≤10000000000000) (hf:FunS w f xs E3.v one) :
  Calls Tryz.prog 109 #[.slice A xs.length c,.func (.func f.n) f.bnd f.cap] w fun e w'=>e=.returned (.string (bs (lstE one xs)))∧Below w.heap.size w w':=by
 have HV:=hid hV
 have HR:=hid hr
 have HF:=hid hf
 have HFl:=hid (flat_le one xs)
 have HL:=hid hlen
 have hl22:=encN_len xs.length ⟨by omega,by omega⟩
 have HL2:=hid hl22
 clear hr hf hlen hl22
 unfold lstE
 go_enter Tryz.func109,Tryz.ntmps109
 go_wp2_with fail
 have hB0:=bld_new w
 have hw0:=(Below.refl w.heap.size w).alloc (Nat.le_refl _) (.cells #[.pointer none,.slice none 0 0] 236)
 obtain ⟨w0,hw0e⟩:∃ x,x=w.alloc (.cells #[.pointer none,.slice none 0 0] 236):=⟨_,rfl⟩
 rw [← hw0e] at hB0 hw0 ⊢
 clear hw0e
 refine (wNum_any xs.length w0 (HV.out.on (hw0.mono HV.out.le)) ⟨by omega,by omega⟩).mono ?_
 rintro e w1 ⟨rfl,hb1⟩
 have hB1:=hid (hB0.now hb1)
 have hw1:=hid (hw0.trans (hb1.mono hw0.size))
 clear hB0 hw0 hb1
 go_wp2_with fail
 refine (bld_write hB1.out (by have:=HL2.out;simp;omega) hw1.out.size).mono ?_
 rintro e w2 ⟨rfl,hB2,hb2⟩
 have HB2:=hid hB2
 have HW2:=hid (hw1.out.trans hb2)
 clear hB1 hw1 hB2 hb2
 go_wp2_with fail
 go_loopw [7,14] (fun _ i wr=>∃ k:Nat,k≤xs.length∧i=.int .i64 k∧Bld w.heap.size w.heap.size (encN xs.length++(xs.take k).flatMap one) wr∧Below w.heap.size w wr) (fun _ i _=>xs.length - (intOf i).toNat)
 case atStart=>exact ⟨0,Nat.zero_le _,rfl,by simpa using HB2.out,HW2.out⟩
 case round =>
  obtain ⟨k,hk,rfl,hbd,hb⟩:=hrel
  have HB:=hid hb
  have HD:=hid hbd
  clear hbd HB2 HW2
  by_cases hlt:k<xs.length
  ·obtain ⟨b,off,rfl,hbB,c0,c1,c2⟩:=rdE3 (HR.out.now hb) hlt
   have HSt:=hid (flat_succ one xs k hlt)
   have HC:=hid (HF.out.run xs[k] (List.getElem_mem hlt))
   have HE:=hid HF.out.ent
   clear hb
   generalize xs[k]=x at *
   go_wp2_with fail
   rw [HE.out,Oper.upon_enter]
   refine (HC.out _ (by have hb:=HB.out;have hs:=hb.size;repeat (first | with_reducible exact Below.refl _ _ | with_reducible assumption | with_reducible refine Below.drew ?_ | with_reducible refine Below.alloc ?_ (by first | omega | (simp;done) | (simp;omega)) _))).mono ?_
   rintro e w3 ⟨rfl,hb3⟩
   have hb4:Below wr.heap.size wr w3:=((show Below wr.heap.size wr (wr.alloc _) from (Below.refl _ _).alloc (Nat.le_refl _) _).trans (hb3.mono (by simp)))
   have HD3:=hid (HD.out.now hb4)
   have HB3:=hid (HB.out.trans (hb4.mono HB.out.size))
   clear hb3 hb4
   go_wp2_with fail
   refine (bld_write HD3.out (by have:=HFl.out (k+1);have:=HL.out;have:=HL2.out;rw [HSt.out] at *;simp only [List.length_append,List.length_cons,List.length_nil] at *;omega) HB3.out.size).mono ?_
   rintro e w4 ⟨rfl,hB4,hb4⟩
   have HB4:=hid hB4
   have HW4:=hid (HB3.out.trans hb4)
   clear hB4 hb4
   go_wp2_with fail
   go_roundw
   case rel=>exact ⟨k+1,by omega,by go_num,by rw [HSt.out,← List.append_assoc];exact HB4.out,HW4.out⟩
   case measure=>simp [intOf];omega
  ·skip
   have hke:xs.take k=xs:=List.take_of_length_le (by omega)
   have hD2:=HD.out
   rw [hke] at hD2
   have HD2:=hid hD2
   clear hD2 HD hke
   go_wp2_with fail
   refine (bld_string HD2.out HB.out.size).mono ?_
   rintro e w5 ⟨rfl,hB5,hb5⟩
   have HW5:=hid (HB.out.trans hb5)
   clear hB5 hb5
   go_wp2_with fail
   go_ret
   exact ⟨rfl,HW5.out⟩
theorem liHold_any {B:Nat} (xs:List D4) (one:D4→List UInt8) (f:FV) (A:Option Addr) (c:Nat) (w:World) (hV:Vs B w) (hr:RdL 4 D4.cs w w.heap.size A xs) (hn:xs.length≤1000000000000) (hlen:(xs.flatMap one).length≤10000000000000) (hf:FunS w f xs D4.v one) :
  Calls Tryz.prog 112 #[.slice A xs.length c,.func (.func f.n) f.bnd f.cap] w fun e w'=>e=.returned (.string (bs (lstE one xs)))∧Below w.heap.size w w':=by
 have HV:=hid hV
 have HR:=hid hr
 have HF:=hid hf
 have HFl:=hid (flat_le one xs)
 have HL:=hid hlen
 have hl22:=encN_len xs.length ⟨by omega,by omega⟩
 have HL2:=hid hl22
 clear hr hf hlen hl22
 unfold lstE
 go_enter Tryz.func112,Tryz.ntmps112
 go_wp2_with fail
 have hB0:=bld_new w
 have hw0:=(Below.refl w.heap.size w).alloc (Nat.le_refl _) (.cells #[.pointer none,.slice none 0 0] 236)
 obtain ⟨w0,hw0e⟩:∃ x,x=w.alloc (.cells #[.pointer none,.slice none 0 0] 236):=⟨_,rfl⟩
 rw [← hw0e] at hB0 hw0 ⊢
 clear hw0e
 refine (wNum_any xs.length w0 (HV.out.on (hw0.mono HV.out.le)) ⟨by omega,by omega⟩).mono ?_
 rintro e w1 ⟨rfl,hb1⟩
 have hB1:=hid (hB0.now hb1)
 have hw1:=hid (hw0.trans (hb1.mono hw0.size))
 clear hB0 hw0 hb1
 go_wp2_with fail
 refine (bld_write hB1.out (by have:=HL2.out;simp;omega) hw1.out.size).mono ?_
 rintro e w2 ⟨rfl,hB2,hb2⟩
 have HB2:=hid hB2
 have HW2:=hid (hw1.out.trans hb2)
 clear hB1 hw1 hB2 hb2
 go_wp2_with fail
 go_loopw [7,14] (fun _ i wr=>∃ k:Nat,k≤xs.length∧i=.int .i64 k∧Bld w.heap.size w.heap.size (encN xs.length++(xs.take k).flatMap one) wr∧Below w.heap.size w wr) (fun _ i _=>xs.length - (intOf i).toNat)
 case atStart=>exact ⟨0,Nat.zero_le _,rfl,by simpa using HB2.out,HW2.out⟩
 case round =>
  obtain ⟨k,hk,rfl,hbd,hb⟩:=hrel
  have HB:=hid hb
  have HD:=hid hbd
  clear hbd HB2 HW2
  by_cases hlt:k<xs.length
  ·obtain ⟨b,off,rfl,hbB,c0,c1,c2,c3⟩:=rdD4 (HR.out.now hb) hlt
   have HSt:=hid (flat_succ one xs k hlt)
   have HC:=hid (HF.out.run xs[k] (List.getElem_mem hlt))
   have HE:=hid HF.out.ent
   clear hb
   generalize xs[k]=x at *
   go_wp2_with fail
   rw [HE.out,Oper.upon_enter]
   refine (HC.out _ (by have hb:=HB.out;have hs:=hb.size;repeat (first | with_reducible exact Below.refl _ _ | with_reducible assumption | with_reducible refine Below.drew ?_ | with_reducible refine Below.alloc ?_ (by first | omega | (simp;done) | (simp;omega)) _))).mono ?_
   rintro e w3 ⟨rfl,hb3⟩
   have hb4:Below wr.heap.size wr w3:=((show Below wr.heap.size wr (wr.alloc _) from (Below.refl _ _).alloc (Nat.le_refl _) _).trans (hb3.mono (by simp)))
   have HD3:=hid (HD.out.now hb4)
   have HB3:=hid (HB.out.trans (hb4.mono HB.out.size))
   clear hb3 hb4
   go_wp2_with fail
   refine (bld_write HD3.out (by have:=HFl.out (k+1);have:=HL.out;have:=HL2.out;rw [HSt.out] at *;simp only [List.length_append,List.length_cons,List.length_nil] at *;omega) HB3.out.size).mono ?_
   rintro e w4 ⟨rfl,hB4,hb4⟩
   have HB4:=hid hB4
   have HW4:=hid (HB3.out.trans hb4)
   clear hB4 hb4
   go_wp2_with fail
   go_roundw
   case rel=>exact ⟨k+1,by omega,by go_num,by rw [HSt.out,← List.append_assoc];exact HB4.out,HW4.out⟩
   case measure=>simp [intOf];omega
  ·skip
   have hke:xs.take k=xs:=List.take_of_length_le (by omega)
   have hD2:=HD.out
   rw [hke] at hD2
   have HD2:=hid hD2
   clear hD2 HD hke
   go_wp2_with fail
   refine (bld_string HD2.out HB.out.size).mono ?_
   rintro e w5 ⟨rfl,hB5,hb5⟩
   have HW5:=hid (HB.out.trans hb5)
   clear hB5 hb5
   go_wp2_with fail
   go_ret
   exact ⟨rfl,HW5.out⟩
theorem liOrder_any {B:Nat} (xs:List D4) (one:D4→List UInt8) (f:FV) (A:Option Addr) (c:Nat) (w:World) (hV:Vs B w) (hr:RdL 4 D4.cs w w.heap.size A xs) (hn:xs.length≤1000000000000) (hlen:(xs.flatMap one).length≤10000000000000) (hf:FunS w f xs D4.v one) :
  Calls Tryz.prog 115 #[.slice A xs.length c,.func (.func f.n) f.bnd f.cap] w fun e w'=>e=.returned (.string (bs (lstE one xs)))∧Below w.heap.size w w':=by
 have HV:=hid hV
 have HR:=hid hr
 have HF:=hid hf
 have HFl:=hid (flat_le one xs)
 have HL:=hid hlen
 have hl22:=encN_len xs.length ⟨by omega,by omega⟩
 have HL2:=hid hl22
 clear hr hf hlen hl22
 unfold lstE
 go_enter Tryz.func115,Tryz.ntmps115
 go_wp2_with fail
 have hB0:=bld_new w
 have hw0:=(Below.refl w.heap.size w).alloc (Nat.le_refl _) (.cells #[.pointer none,.slice none 0 0] 236)
 obtain ⟨w0,hw0e⟩:∃ x,x=w.alloc (.cells #[.pointer none,.slice none 0 0] 236):=⟨_,rfl⟩
 rw [← hw0e] at hB0 hw0 ⊢
 clear hw0e
 refine (wNum_any xs.length w0 (HV.out.on (hw0.mono HV.out.le)) ⟨by omega,by omega⟩).mono ?_
 rintro e w1 ⟨rfl,hb1⟩
 have hB1:=hid (hB0.now hb1)
 have hw1:=hid (hw0.trans (hb1.mono hw0.size))
 clear hB0 hw0 hb1
 go_wp2_with fail
 refine (bld_write hB1.out (by have:=HL2.out;simp;omega) hw1.out.size).mono ?_
 rintro e w2 ⟨rfl,hB2,hb2⟩
 have HB2:=hid hB2
 have HW2:=hid (hw1.out.trans hb2)
 clear hB1 hw1 hB2 hb2
 go_wp2_with fail
 go_loopw [7,14] (fun _ i wr=>∃ k:Nat,k≤xs.length∧i=.int .i64 k∧Bld w.heap.size w.heap.size (encN xs.length++(xs.take k).flatMap one) wr∧Below w.heap.size w wr) (fun _ i _=>xs.length - (intOf i).toNat)
 case atStart=>exact ⟨0,Nat.zero_le _,rfl,by simpa using HB2.out,HW2.out⟩
 case round =>
  obtain ⟨k,hk,rfl,hbd,hb⟩:=hrel
  have HB:=hid hb
  have HD:=hid hbd
  clear hbd HB2 HW2
  by_cases hlt:k<xs.length
  ·obtain ⟨b,off,rfl,hbB,c0,c1,c2,c3⟩:=rdD4 (HR.out.now hb) hlt
   have HSt:=hid (flat_succ one xs k hlt)
   have HC:=hid (HF.out.run xs[k] (List.getElem_mem hlt))
   have HE:=hid HF.out.ent
   clear hb
   generalize xs[k]=x at *
   go_wp2_with fail
   rw [HE.out,Oper.upon_enter]
   refine (HC.out _ (by have hb:=HB.out;have hs:=hb.size;repeat (first | with_reducible exact Below.refl _ _ | with_reducible assumption | with_reducible refine Below.drew ?_ | with_reducible refine Below.alloc ?_ (by first | omega | (simp;done) | (simp;omega)) _))).mono ?_
   rintro e w3 ⟨rfl,hb3⟩
   have hb4:Below wr.heap.size wr w3:=((show Below wr.heap.size wr (wr.alloc _) from (Below.refl _ _).alloc (Nat.le_refl _) _).trans (hb3.mono (by simp)))
   have HD3:=hid (HD.out.now hb4)
   have HB3:=hid (HB.out.trans (hb4.mono HB.out.size))
   clear hb3 hb4
   go_wp2_with fail
   refine (bld_write HD3.out (by have:=HFl.out (k+1);have:=HL.out;have:=HL2.out;rw [HSt.out] at *;simp only [List.length_append,List.length_cons,List.length_nil] at *;omega) HB3.out.size).mono ?_
   rintro e w4 ⟨rfl,hB4,hb4⟩
   have HB4:=hid hB4
   have HW4:=hid (HB3.out.trans hb4)
   clear hB4 hb4
   go_wp2_with fail
   go_roundw
   case rel=>exact ⟨k+1,by omega,by go_num,by rw [HSt.out,← List.append_assoc];exact HB4.out,HW4.out⟩
   case measure=>simp [intOf];omega
  ·skip
   have hke:xs.take k=xs:=List.take_of_length_le (by omega)
   have hD2:=HD.out
   rw [hke] at hD2
   have HD2:=hid hD2
   clear hD2 HD hke
   go_wp2_with fail
   refine (bld_string HD2.out HB.out.size).mono ?_
   rintro e w5 ⟨rfl,hB5,hb5⟩
   have HW5:=hid (HB.out.trans hb5)
   clear hB5 hb5
   go_wp2_with fail
   go_ret
   exact ⟨rfl,HW5.out⟩
theorem liSealed_any {B:Nat} (xs:List D3) (one:D3→List UInt8) (f:FV) (A:Option Addr) (c:Nat) (w:World) (hV:Vs B w) (hr:RdL 3 D3.cs w w.heap.size A xs) (hn:xs.length≤1000000000000) (hlen:(xs.flatMap one).length≤10000000000000) (hf:FunS w f xs D3.v one) :
  Calls Tryz.prog 117 #[.slice A xs.length c,.func (.func f.n) f.bnd f.cap] w fun e w'=>e=.returned (.string (bs (lstE one xs)))∧Below w.heap.size w w':=by
 have HV:=hid hV
 have HR:=hid hr
 have HF:=hid hf
 have HFl:=hid (flat_le one xs)
 have HL:=hid hlen
 have hl22:=encN_len xs.length ⟨by omega,by omega⟩
 have HL2:=hid hl22
 clear hr hf hlen hl22
 unfold lstE
 go_enter Tryz.func117,Tryz.ntmps117
 go_wp2_with fail
 have hB0:=bld_new w
 have hw0:=(Below.refl w.heap.size w).alloc (Nat.le_refl _) (.cells #[.pointer none,.slice none 0 0] 236)
 obtain ⟨w0,hw0e⟩:∃ x,x=w.alloc (.cells #[.pointer none,.slice none 0 0] 236):=⟨_,rfl⟩
 rw [← hw0e] at hB0 hw0 ⊢
 clear hw0e
 refine (wNum_any xs.length w0 (HV.out.on (hw0.mono HV.out.le)) ⟨by omega,by omega⟩).mono ?_
 rintro e w1 ⟨rfl,hb1⟩
 have hB1:=hid (hB0.now hb1)
 have hw1:=hid (hw0.trans (hb1.mono hw0.size))
 clear hB0 hw0 hb1
 go_wp2_with fail
 refine (bld_write hB1.out (by have:=HL2.out;simp;omega) hw1.out.size).mono ?_
 rintro e w2 ⟨rfl,hB2,hb2⟩
 have HB2:=hid hB2
 have HW2:=hid (hw1.out.trans hb2)
 clear hB1 hw1 hB2 hb2
 go_wp2_with fail
 go_loopw [7,14] (fun _ i wr=>∃ k:Nat,k≤xs.length∧i=.int .i64 k∧Bld w.heap.size w.heap.size (encN xs.length++(xs.take k).flatMap one) wr∧Below w.heap.size w wr) (fun _ i _=>xs.length - (intOf i).toNat)
 case atStart=>exact ⟨0,Nat.zero_le _,rfl,by simpa using HB2.out,HW2.out⟩
 case round =>
  obtain ⟨k,hk,rfl,hbd,hb⟩:=hrel
  have HB:=hid hb
  have HD:=hid hbd
  clear hbd HB2 HW2
  by_cases hlt:k<xs.length
  ·obtain ⟨b,off,rfl,hbB,c0,c1,c2⟩:=rdD3 (HR.out.now hb) hlt
   have HSt:=hid (flat_succ one xs k hlt)
   have HC:=hid (HF.out.run xs[k] (List.getElem_mem hlt))
   have HE:=hid HF.out.ent
   clear hb
   generalize xs[k]=x at *
   go_wp2_with fail
   rw [HE.out,Oper.upon_enter]
   refine (HC.out _ (by have hb:=HB.out;have hs:=hb.size;repeat (first | with_reducible exact Below.refl _ _ | with_reducible assumption | with_reducible refine Below.drew ?_ | with_reducible refine Below.alloc ?_ (by first | omega | (simp;done) | (simp;omega)) _))).mono ?_
   rintro e w3 ⟨rfl,hb3⟩
   have hb4:Below wr.heap.size wr w3:=((show Below wr.heap.size wr (wr.alloc _) from (Below.refl _ _).alloc (Nat.le_refl _) _).trans (hb3.mono (by simp)))
   have HD3:=hid (HD.out.now hb4)
   have HB3:=hid (HB.out.trans (hb4.mono HB.out.size))
   clear hb3 hb4
   go_wp2_with fail
   refine (bld_write HD3.out (by have:=HFl.out (k+1);have:=HL.out;have:=HL2.out;rw [HSt.out] at *;simp only [List.length_append,List.length_cons,List.length_nil] at *;omega) HB3.out.size).mono ?_
   rintro e w4 ⟨rfl,hB4,hb4⟩
   have HB4:=hid hB4
   have HW4:=hid (HB3.out.trans hb4)
   clear hB4 hb4
   go_wp2_with fail
   go_roundw
   case rel=>exact ⟨k+1,by omega,by go_num,by rw [HSt.out,← List.append_assoc];exact HB4.out,HW4.out⟩
   case measure=>simp [intOf];omega
  ·skip
   have hke:xs.take k=xs:=List.take_of_length_le (by omega)
   have hD2:=HD.out
   rw [hke] at hD2
   have HD2:=hid hD2
   clear hD2 HD hke
   go_wp2_with fail
   refine (bld_string HD2.out HB.out.size).mono ?_
   rintro e w5 ⟨rfl,hB5,hb5⟩
   have HW5:=hid (HB.out.trans hb5)
   clear hB5 hb5
   go_wp2_with fail
   go_ret
   exact ⟨rfl,HW5.out⟩
/- Contract of event.Text (layer 14;written by genevw.py). -/
theorem ev_cells {b:Nat} {e:EvM} {cA:Option Addr} {cc:Nat} {fA:Option Addr} {fc:Nat} {w:World} {t:TypeId} (h:w.heap[b]?=some (.cells (e.cs cA cc fA fc) t (0,0))) :
  w.cell? ⟨b,0,none⟩=some (.int .i64 e.author)∧w.cell? ⟨b,1,none⟩=some (.int .i64 e.seq)∧w.cell? ⟨b,2,none⟩=some (.slice cA e.causes.length cc)∧w.cell? ⟨b,3,none⟩=some (.int .i64 e.kind)∧w.cell? ⟨b,4,none⟩=some (.int .i64 e.group)∧w.cell? ⟨b,5,none⟩=some (.int .i64 e.target)∧w.cell? ⟨b,6,none⟩=some (.int .i64 e.quote)∧w.cell? ⟨b,7,none⟩=some (.int .i64 e.who)∧w.cell? ⟨b,8,none⟩=some (.int .i64 e.n)∧w.cell? ⟨b,9,none⟩=some (.string e.text)∧w.cell? ⟨b,10,none⟩=some (.slice fA e.files.length fc)∧w.cell? ⟨b,11,none⟩=some (.int .i64 e.step) :=
 ⟨box_cell h 0 _ rfl,box_cell h 1 _ rfl,box_cell h 2 _ rfl,box_cell h 3 _ rfl,box_cell h 4 _ rfl,box_cell h 5 _ rfl,box_cell h 6 _ rfl,box_cell h 7 _ rfl,box_cell h 8 _ rfl,box_cell h 9 _ rfl,box_cell h 10 _ rfl,box_cell h 11 _ rfl⟩
theorem evText_any {B:Nat} (e:EvL) (w:World) (hV:Vs B w) (h:EvLOk w w.heap.size e) :
  Calls Tryz.prog 95 #[e.v] w fun en w'=>en=.returned (.string (bs (textE e.ev)))∧Below w.heap.size w w':=by
 have hb0:Below w.heap.size w (w.alloc (.cells (e.ev.cs e.cA e.cc e.fA e.fc) 56)):=by repeat (first | with_reducible exact Below.refl _ _ | with_reducible assumption | with_reducible refine Below.drew ?_ | with_reducible refine Below.alloc ?_ (by first | omega | (simp;done) | (simp;omega)) _)
 have HB0:=hid hb0
 have HX:Hid ((w.alloc (.cells (e.ev.cs e.cA e.cc e.fA e.fc) 56)).heap[w.heap.size]?=some (.cells (e.ev.cs e.cA e.cc e.fA e.fc) 56 (0,0))):=hid (MapKept.heap_alloc w _).1
 have HV:=hid (hV.now hb0)
 have HO:=hid (h.now hb0)
 clear hb0 hV h
 go_enter Tryz.func95,Tryz.ntmps95
 go_upto_region 1 with fail
 generalize w.alloc (.cells (e.ev.cs e.cA e.cc e.fA e.fc) 56)=wb at *
 obtain ⟨bx,hbx⟩:∃ bx,bx=w.heap.size:=⟨_,rfl⟩
 rw [← hbx] at HX ⊢
 clear hbx
 have HXr:=hid (show wb.rangeAt bx 0 (e.ev.cs e.cA e.cc e.fA e.fc).toList from range_block HX.out rfl)
 go_wp2_with (first
  | ((with_reducible show wpList _ _ _ (Oper.mk _ (Op.load 56 _) _ _ _ _::_) _ _);refine wpList_load_g rfl 56 (.tmp 1) rfl bx 0 rfl (e.ev.cs e.cA e.cc e.fA e.fc).toList _ HXr.out Tryz.underlying56 rfl (by kernel_rfl) ?_)
  | fail)
 refine (evRight_any e.ev e.cA e.cc e.fA e.fc wb HO.out.ok HO.out.cap).mono ?_
 rintro en w1 ⟨rfl,hb1⟩
 have HX1:=hid ((hb1.block _ (box_lt HX.out)).trans HX.out)
 have HB1:=hid (HB0.out.trans (hb1.mono HB0.out.size))
 have HV1:=hid (HV.out.now hb1)
 have HO1:=hid (HO.out.now hb1)
 clear hb1 HX HB0 HV HO HXr
 cases hR:rightE e.ev with
 | false =>
  have HT:Hid (textE e.ev=[]):=hid (by unfold textE;rw [if_neg (by rw [hR];decide)])
  clear hR
  go_wp2_with fail
  go_ret
  exact ⟨by rw [HT.out];rfl,HB1.out⟩
 | true =>
  have HT:Hid (textE e.ev=textRaw e.ev):=hid (by unfold textE;rw [if_pos hR])
  have HN:=hid (right_nums hR)
  have HC:=hid (fun wq (h:Below w1.heap.size w1 wq)=>ev_cells ((h.block _ (box_lt HX1.out)).trans HX1.out))
  clear hR
  have K0:Hid (∀ wq,Below w1.heap.size w1 wq→Calls Tryz.prog 91 #[.int .i64 e.ev.kind] wq fun en w'=>en=.returned (.string (bs (encN e.ev.kind)))∧Below wq.heap.size wq w'):=hid (fun wq h=>wNum_any e.ev.kind wq (HV1.out.now h) (by have:=HN.out.kind;exact ⟨by omega,by omega⟩))
  have l0:=encN_len e.ev.kind (by have:=HN.out.kind;exact ⟨by omega,by omega⟩)
  have K1:Hid (∀ wq,Below w1.heap.size w1 wq→Calls Tryz.prog 91 #[.int .i64 e.ev.author] wq fun en w'=>en=.returned (.string (bs (encN e.ev.author)))∧Below wq.heap.size wq w'):=hid (fun wq h=>wNum_any e.ev.author wq (HV1.out.now h) (by have:=HN.out.author;exact ⟨by omega,by omega⟩))
  have l1:=encN_len e.ev.author (by have:=HN.out.author;exact ⟨by omega,by omega⟩)
  have K2:Hid (∀ wq,Below w1.heap.size w1 wq→Calls Tryz.prog 91 #[.int .i64 e.ev.seq] wq fun en w'=>en=.returned (.string (bs (encN e.ev.seq)))∧Below wq.heap.size wq w'):=hid (fun wq h=>wNum_any e.ev.seq wq (HV1.out.now h) (by have:=HN.out.seq;exact ⟨by omega,by omega⟩))
  have l2:=encN_len e.ev.seq (by have:=HN.out.seq;exact ⟨by omega,by omega⟩)
  have K3:Hid (∀ wq,Below w1.heap.size w1 wq→Calls Tryz.prog 213 #[.slice e.cA e.ev.causes.length e.cc] wq fun en w'=>en=.returned (.string (bs (encL encI e.ev.causes)))∧Below wq.heap.size wq w'):=hid (fun wq h=>wNums_any e.ev.causes e.cA e.cc wq (HV1.out.now h) (HO1.out.now h).ok.ca (fun y hy=>by have:=HN.out.causes y hy;exact ⟨by omega,by omega⟩) (by have:=HN.out.cl;omega))
  have l3:(encL encI e.ev.causes).length≤300:=by
   have k1:=flat_bound encI 22 e.ev.causes (fun y hy=>encI_len y (by have:=HN.out.causes y hy;exact ⟨by omega,by omega⟩))
   have k2:=Lib.itoa_length_le e.ev.causes.length (by omega) (by have:=HN.out.cl;omega)
   have k3:=HN.out.cl
   simp only [encL,List.length_append,List.length_cons,List.length_nil]
   omega
  have K4:Hid (∀ wq,Below w1.heap.size w1 wq→Calls Tryz.prog 91 #[.int .i64 e.ev.group] wq fun en w'=>en=.returned (.string (bs (encN e.ev.group)))∧Below wq.heap.size wq w'):=hid (fun wq h=>wNum_any e.ev.group wq (HV1.out.now h) (by have:=HN.out.group;exact ⟨by omega,by omega⟩))
  have l4:=encN_len e.ev.group (by have:=HN.out.group;exact ⟨by omega,by omega⟩)
  have K5:Hid (∀ wq,Below w1.heap.size w1 wq→Calls Tryz.prog 114 #[.int .i64 e.ev.target] wq fun en w'=>en=.returned (.string (bs (encI e.ev.target)))∧Below wq.heap.size wq w'):=hid (fun wq h=>wInt_any e.ev.target wq (HV1.out.now h) (by have:=HN.out.target;exact ⟨by omega,by omega⟩))
  have l5:=encI_len e.ev.target (by have:=HN.out.target;exact ⟨by omega,by omega⟩)
  have K6:Hid (∀ wq,Below w1.heap.size w1 wq→Calls Tryz.prog 114 #[.int .i64 e.ev.quote] wq fun en w'=>en=.returned (.string (bs (encI e.ev.quote)))∧Below wq.heap.size wq w'):=hid (fun wq h=>wInt_any e.ev.quote wq (HV1.out.now h) (by have:=HN.out.quote;exact ⟨by omega,by omega⟩))
  have l6:=encI_len e.ev.quote (by have:=HN.out.quote;exact ⟨by omega,by omega⟩)
  have K7:Hid (∀ wq,Below w1.heap.size w1 wq→Calls Tryz.prog 114 #[.int .i64 e.ev.who] wq fun en w'=>en=.returned (.string (bs (encI e.ev.who)))∧Below wq.heap.size wq w'):=hid (fun wq h=>wInt_any e.ev.who wq (HV1.out.now h) (by have:=HN.out.who;exact ⟨by omega,by omega⟩))
  have l7:=encI_len e.ev.who (by have:=HN.out.who;exact ⟨by omega,by omega⟩)
  have K8:Hid (∀ wq,Below w1.heap.size w1 wq→Calls Tryz.prog 91 #[.int .i64 e.ev.n] wq fun en w'=>en=.returned (.string (bs (encN e.ev.n)))∧Below wq.heap.size wq w'):=hid (fun wq h=>wNum_any e.ev.n wq (HV1.out.now h) (by have:=HN.out.n;exact ⟨by omega,by omega⟩))
  have l8:=encN_len e.ev.n (by have:=HN.out.n;exact ⟨by omega,by omega⟩)
  have K9:Hid (∀ wq,Below w1.heap.size w1 wq→Calls Tryz.prog 91 #[.int .i64 e.ev.step] wq fun en w'=>en=.returned (.string (bs (encN e.ev.step)))∧Below wq.heap.size wq w'):=hid (fun wq h=>wNum_any e.ev.step wq (HV1.out.now h) (by have:=HN.out.step;exact ⟨by omega,by omega⟩))
  have l9:=encN_len e.ev.step (by have:=HN.out.step;exact ⟨by omega,by omega⟩)
  have K10:Hid (∀ wq,Below w1.heap.size w1 wq→Calls Tryz.prog 213 #[.slice e.fA e.ev.files.length e.fc] wq fun en w'=>en=.returned (.string (bs (encL encI e.ev.files)))∧Below wq.heap.size wq w'):=hid (fun wq h=>wNums_any e.ev.files e.fA e.fc wq (HV1.out.now h) (HO1.out.now h).ok.fi (fun y hy=>by have:=HN.out.files y hy;exact ⟨by omega,by omega⟩) (by have:=HN.out.fl;omega))
  have l10:(encL encI e.ev.files).length≤300:=by
   have k1:=flat_bound encI 22 e.ev.files (fun y hy=>encI_len y (by have:=HN.out.files y hy;exact ⟨by omega,by omega⟩))
   have k2:=Lib.itoa_length_le e.ev.files.length (by omega) (by have:=HN.out.fl;omega)
   have k3:=HN.out.fl
   simp only [encL,List.length_append,List.length_cons,List.length_nil]
   omega
  have ht:e.ev.text.data.toList.length=e.ev.text.size:=rfl
  have K11:Hid (∀ wq,Below w1.heap.size w1 wq→Calls Tryz.prog 94 #[.string e.ev.text] wq fun en w'=>en=.returned (.string (bs (encT e.ev.text.data.toList)))∧Below wq.heap.size wq w'):=hid (fun wq h=>wText_any e.ev.text.data.toList wq (HV1.out.now h) (by have:=HN.out.text;omega))
  have l11:=encT_len e.ev.text.data.toList ⟨by omega,by have:=HN.out.text;omega⟩
  have l99:=HN.out.text
  rw [ht] at l11
  clear ht
  have HTr:Hid (textE e.ev=encN e.ev.kind++encN e.ev.author++encN e.ev.seq++encL encI e.ev.causes++encN e.ev.group++encI e.ev.target++encI e.ev.quote++encI e.ev.who++encN e.ev.n++encN e.ev.step++encL encI e.ev.files++encT e.ev.text.data.toList):=hid HT.out
  clear HT
  generalize encN e.ev.kind=m0 at *
  generalize encN e.ev.author=m1 at *
  generalize encN e.ev.seq=m2 at *
  generalize encL encI e.ev.causes=m3 at *
  generalize encN e.ev.group=m4 at *
  generalize encI e.ev.target=m5 at *
  generalize encI e.ev.quote=m6 at *
  generalize encI e.ev.who=m7 at *
  generalize encN e.ev.n=m8 at *
  generalize encN e.ev.step=m9 at *
  generalize encL encI e.ev.files=m10 at *
  generalize encT e.ev.text.data.toList=m11 at *
  have HS:Hid (e.ev.text.size≤4000):=hid l99
  clear HN
  go_wp2_with fail
  refine wp_region_det (S:=Below w1.heap.size w1) (by kernel_rfl) (by kernel_rfl) ((Below.refl _ _).drew) ?_
  rw [List.toList_toArray]
  first
    | (refine Det.read (v:=?_) (by rfl) ?_ ?_;rotate_left;(· (intro wq hSq;skip;go_simp;try with_reducible rfl));simp only [Act.put,sA,sB,sC,sD,sE,sF])
  first
    | (refine Det.read (v:=?_) (by rfl) ?_ ?_;rotate_left;(· (intro wq hSq;obtain ⟨q0,q1,q2,q3,q4,q5,q6,q7,q8,q9,q10,q11⟩:=HC.out _ hSq;go_simp;try with_reducible rfl));simp only [Act.put,sA,sB,sC,sD,sE,sF])
  first
    | ((with_reducible show Det _ _ _ _ (Oper.mk _ (Op.call (Call.mk (Callee.value (Operand.func 91)) _ _)) _ _ _ _::_) _);refine Det.step (.string (bs m0)) (by rfl) (fun wq hSq K hK=>?_) ?_;(· (go_simp;refine (K0.out _ hSq).mono ?_;rintro e4 w4 ⟨rfl,hb4⟩;go_wp2_with fail;refine hK.out _ _ (hSq.trans (hb4.mono hSq.size)) ?_;first | rfl | (simp [Act.put];done)));simp only [Act.put,sA,sB,sC,sD,sE,sF])
  first
    | (refine Det.read (v:=?_) (by rfl) ?_ ?_;rotate_left;(· (intro wq hSq;skip;go_simp;try with_reducible rfl));simp only [Act.put,sA,sB,sC,sD,sE,sF])
  first
    | (refine Det.read (v:=?_) (by rfl) ?_ ?_;rotate_left;(· (intro wq hSq;obtain ⟨q0,q1,q2,q3,q4,q5,q6,q7,q8,q9,q10,q11⟩:=HC.out _ hSq;go_simp;try with_reducible rfl));simp only [Act.put,sA,sB,sC,sD,sE,sF])
  first
    | ((with_reducible show Det _ _ _ _ (Oper.mk _ (Op.call (Call.mk (Callee.value (Operand.func 91)) _ _)) _ _ _ _::_) _);refine Det.step (.string (bs m1)) (by rfl) (fun wq hSq K hK=>?_) ?_;(· (go_simp;refine (K1.out _ hSq).mono ?_;rintro e4 w4 ⟨rfl,hb4⟩;go_wp2_with fail;refine hK.out _ _ (hSq.trans (hb4.mono hSq.size)) ?_;first | rfl | (simp [Act.put];done)));simp only [Act.put,sA,sB,sC,sD,sE,sF])
  first
    | ((with_reducible show Det _ _ _ _ (Oper.mk _ (Op.binOp .add 9 _ _ _) _ _ _ _::_) _);refine Det.cat (by rfl) rfl Tryz.underlying9 rfl rfl (by first | omega | (simp;done) | (simp;omega) | (simp only [List.length_append,List.length_cons,List.length_nil];omega)) ?_;simp only [Act.put,sA,sB,sC,sD,sE,sF])
  first
    | (refine Det.read (v:=?_) (by rfl) ?_ ?_;rotate_left;(· (intro wq hSq;skip;go_simp;try with_reducible rfl));simp only [Act.put,sA,sB,sC,sD,sE,sF])
  first
    | (refine Det.read (v:=?_) (by rfl) ?_ ?_;rotate_left;(· (intro wq hSq;obtain ⟨q0,q1,q2,q3,q4,q5,q6,q7,q8,q9,q10,q11⟩:=HC.out _ hSq;go_simp;try with_reducible rfl));simp only [Act.put,sA,sB,sC,sD,sE,sF])
  first
    | ((with_reducible show Det _ _ _ _ (Oper.mk _ (Op.call (Call.mk (Callee.value (Operand.func 91)) _ _)) _ _ _ _::_) _);refine Det.step (.string (bs m2)) (by rfl) (fun wq hSq K hK=>?_) ?_;(· (go_simp;refine (K2.out _ hSq).mono ?_;rintro e4 w4 ⟨rfl,hb4⟩;go_wp2_with fail;refine hK.out _ _ (hSq.trans (hb4.mono hSq.size)) ?_;first | rfl | (simp [Act.put];done)));simp only [Act.put,sA,sB,sC,sD,sE,sF])
  first
    | ((with_reducible show Det _ _ _ _ (Oper.mk _ (Op.binOp .add 9 _ _ _) _ _ _ _::_) _);refine Det.cat (by rfl) rfl Tryz.underlying9 rfl rfl (by first | omega | (simp;done) | (simp;omega) | (simp only [List.length_append,List.length_cons,List.length_nil];omega)) ?_;simp only [Act.put,sA,sB,sC,sD,sE,sF])
  first
    | (refine Det.read (v:=?_) (by rfl) ?_ ?_;rotate_left;(· (intro wq hSq;skip;go_simp;try with_reducible rfl));simp only [Act.put,sA,sB,sC,sD,sE,sF])
  first
    | (refine Det.read (v:=?_) (by rfl) ?_ ?_;rotate_left;(· (intro wq hSq;obtain ⟨q0,q1,q2,q3,q4,q5,q6,q7,q8,q9,q10,q11⟩:=HC.out _ hSq;go_simp;try with_reducible rfl));simp only [Act.put,sA,sB,sC,sD,sE,sF])
  first
    | ((with_reducible show Det _ _ _ _ (Oper.mk _ (Op.call (Call.mk (Callee.value (Operand.func 213)) _ _)) _ _ _ _::_) _);refine Det.step (.string (bs m3)) (by rfl) (fun wq hSq K hK=>?_) ?_;(· (go_simp;refine (K3.out _ hSq).mono ?_;rintro e4 w4 ⟨rfl,hb4⟩;go_wp2_with fail;refine hK.out _ _ (hSq.trans (hb4.mono hSq.size)) ?_;first | rfl | (simp [Act.put];done)));simp only [Act.put,sA,sB,sC,sD,sE,sF])
  first
    | ((with_reducible show Det _ _ _ _ (Oper.mk _ (Op.binOp .add 9 _ _ _) _ _ _ _::_) _);refine Det.cat (by rfl) rfl Tryz.underlying9 rfl rfl (by first | omega | (simp;done) | (simp;omega) | (simp only [List.length_append,List.length_cons,List.length_nil];omega)) ?_;simp only [Act.put,sA,sB,sC,sD,sE,sF])
  first
    | (refine Det.read (v:=?_) (by rfl) ?_ ?_;rotate_left;(· (intro wq hSq;skip;go_simp;try with_reducible rfl));simp only [Act.put,sA,sB,sC,sD,sE,sF])
  first
    | (refine Det.read (v:=?_) (by rfl) ?_ ?_;rotate_left;(· (intro wq hSq;obtain ⟨q0,q1,q2,q3,q4,q5,q6,q7,q8,q9,q10,q11⟩:=HC.out _ hSq;go_simp;try with_reducible rfl));simp only [Act.put,sA,sB,sC,sD,sE,sF])
  first
    | ((with_reducible show Det _ _ _ _ (Oper.mk _ (Op.call (Call.mk (Callee.value (Operand.func 91)) _ _)) _ _ _ _::_) _);refine Det.step (.string (bs m4)) (by rfl) (fun wq hSq K hK=>?_) ?_;(· (go_simp;refine (K4.out _ hSq).mono ?_;rintro e4 w4 ⟨rfl,hb4⟩;go_wp2_with fail;refine hK.out _ _ (hSq.trans (hb4.mono hSq.size)) ?_;first | rfl | (simp [Act.put];done)));simp only [Act.put,sA,sB,sC,sD,sE,sF])
  first
    | ((with_reducible show Det _ _ _ _ (Oper.mk _ (Op.binOp .add 9 _ _ _) _ _ _ _::_) _);refine Det.cat (by rfl) rfl Tryz.underlying9 rfl rfl (by first | omega | (simp;done) | (simp;omega) | (simp only [List.length_append,List.length_cons,List.length_nil];omega)) ?_;simp only [Act.put,sA,sB,sC,sD,sE,sF])
  first
    | (refine Det.read (v:=?_) (by rfl) ?_ ?_;rotate_left;(· (intro wq hSq;skip;go_simp;try with_reducible rfl));simp only [Act.put,sA,sB,sC,sD,sE,sF])
  first
    | (refine Det.read (v:=?_) (by rfl) ?_ ?_;rotate_left;(· (intro wq hSq;obtain ⟨q0,q1,q2,q3,q4,q5,q6,q7,q8,q9,q10,q11⟩:=HC.out _ hSq;go_simp;try with_reducible rfl));simp only [Act.put,sA,sB,sC,sD,sE,sF])
  first
    | ((with_reducible show Det _ _ _ _ (Oper.mk _ (Op.call (Call.mk (Callee.value (Operand.func 114)) _ _)) _ _ _ _::_) _);refine Det.step (.string (bs m5)) (by rfl) (fun wq hSq K hK=>?_) ?_;(· (go_simp;refine (K5.out _ hSq).mono ?_;rintro e4 w4 ⟨rfl,hb4⟩;go_wp2_with fail;refine hK.out _ _ (hSq.trans (hb4.mono hSq.size)) ?_;first | rfl | (simp [Act.put];done)));simp only [Act.put,sA,sB,sC,sD,sE,sF])
  first
    | ((with_reducible show Det _ _ _ _ (Oper.mk _ (Op.binOp .add 9 _ _ _) _ _ _ _::_) _);refine Det.cat (by rfl) rfl Tryz.underlying9 rfl rfl (by first | omega | (simp;done) | (simp;omega) | (simp only [List.length_append,List.length_cons,List.length_nil];omega)) ?_;simp only [Act.put,sA,sB,sC,sD,sE,sF])
  first
    | (refine Det.read (v:=?_) (by rfl) ?_ ?_;rotate_left;(· (intro wq hSq;skip;go_simp;try with_reducible rfl));simp only [Act.put,sA,sB,sC,sD,sE,sF])
  first
    | (refine Det.read (v:=?_) (by rfl) ?_ ?_;rotate_left;(· (intro wq hSq;obtain ⟨q0,q1,q2,q3,q4,q5,q6,q7,q8,q9,q10,q11⟩:=HC.out _ hSq;go_simp;try with_reducible rfl));simp only [Act.put,sA,sB,sC,sD,sE,sF])
  first
    | ((with_reducible show Det _ _ _ _ (Oper.mk _ (Op.call (Call.mk (Callee.value (Operand.func 114)) _ _)) _ _ _ _::_) _);refine Det.step (.string (bs m6)) (by rfl) (fun wq hSq K hK=>?_) ?_;(· (go_simp;refine (K6.out _ hSq).mono ?_;rintro e4 w4 ⟨rfl,hb4⟩;go_wp2_with fail;refine hK.out _ _ (hSq.trans (hb4.mono hSq.size)) ?_;first | rfl | (simp [Act.put];done)));simp only [Act.put,sA,sB,sC,sD,sE,sF])
  first
    | ((with_reducible show Det _ _ _ _ (Oper.mk _ (Op.binOp .add 9 _ _ _) _ _ _ _::_) _);refine Det.cat (by rfl) rfl Tryz.underlying9 rfl rfl (by first | omega | (simp;done) | (simp;omega) | (simp only [List.length_append,List.length_cons,List.length_nil];omega)) ?_;simp only [Act.put,sA,sB,sC,sD,sE,sF])
  first
    | (refine Det.read (v:=?_) (by rfl) ?_ ?_;rotate_left;(· (intro wq hSq;skip;go_simp;try with_reducible rfl));simp only [Act.put,sA,sB,sC,sD,sE,sF])
  first
    | (refine Det.read (v:=?_) (by rfl) ?_ ?_;rotate_left;(· (intro wq hSq;obtain ⟨q0,q1,q2,q3,q4,q5,q6,q7,q8,q9,q10,q11⟩:=HC.out _ hSq;go_simp;try with_reducible rfl));simp only [Act.put,sA,sB,sC,sD,sE,sF])
  first
    | ((with_reducible show Det _ _ _ _ (Oper.mk _ (Op.call (Call.mk (Callee.value (Operand.func 114)) _ _)) _ _ _ _::_) _);refine Det.step (.string (bs m7)) (by rfl) (fun wq hSq K hK=>?_) ?_;(· (go_simp;refine (K7.out _ hSq).mono ?_;rintro e4 w4 ⟨rfl,hb4⟩;go_wp2_with fail;refine hK.out _ _ (hSq.trans (hb4.mono hSq.size)) ?_;first | rfl | (simp [Act.put];done)));simp only [Act.put,sA,sB,sC,sD,sE,sF])
  first
    | ((with_reducible show Det _ _ _ _ (Oper.mk _ (Op.binOp .add 9 _ _ _) _ _ _ _::_) _);refine Det.cat (by rfl) rfl Tryz.underlying9 rfl rfl (by first | omega | (simp;done) | (simp;omega) | (simp only [List.length_append,List.length_cons,List.length_nil];omega)) ?_;simp only [Act.put,sA,sB,sC,sD,sE,sF])
  first
    | (refine Det.read (v:=?_) (by rfl) ?_ ?_;rotate_left;(· (intro wq hSq;skip;go_simp;try with_reducible rfl));simp only [Act.put,sA,sB,sC,sD,sE,sF])
  first
    | (refine Det.read (v:=?_) (by rfl) ?_ ?_;rotate_left;(· (intro wq hSq;obtain ⟨q0,q1,q2,q3,q4,q5,q6,q7,q8,q9,q10,q11⟩:=HC.out _ hSq;go_simp;try with_reducible rfl));simp only [Act.put,sA,sB,sC,sD,sE,sF])
  first
    | ((with_reducible show Det _ _ _ _ (Oper.mk _ (Op.call (Call.mk (Callee.value (Operand.func 91)) _ _)) _ _ _ _::_) _);refine Det.step (.string (bs m8)) (by rfl) (fun wq hSq K hK=>?_) ?_;(· (go_simp;refine (K8.out _ hSq).mono ?_;rintro e4 w4 ⟨rfl,hb4⟩;go_wp2_with fail;refine hK.out _ _ (hSq.trans (hb4.mono hSq.size)) ?_;first | rfl | (simp [Act.put];done)));simp only [Act.put,sA,sB,sC,sD,sE,sF])
  first
    | ((with_reducible show Det _ _ _ _ (Oper.mk _ (Op.binOp .add 9 _ _ _) _ _ _ _::_) _);refine Det.cat (by rfl) rfl Tryz.underlying9 rfl rfl (by first | omega | (simp;done) | (simp;omega) | (simp only [List.length_append,List.length_cons,List.length_nil];omega)) ?_;simp only [Act.put,sA,sB,sC,sD,sE,sF])
  first
    | (refine Det.read (v:=?_) (by rfl) ?_ ?_;rotate_left;(· (intro wq hSq;skip;go_simp;try with_reducible rfl));simp only [Act.put,sA,sB,sC,sD,sE,sF])
  first
    | (refine Det.read (v:=?_) (by rfl) ?_ ?_;rotate_left;(· (intro wq hSq;obtain ⟨q0,q1,q2,q3,q4,q5,q6,q7,q8,q9,q10,q11⟩:=HC.out _ hSq;go_simp;try with_reducible rfl));simp only [Act.put,sA,sB,sC,sD,sE,sF])
  first
    | ((with_reducible show Det _ _ _ _ (Oper.mk _ (Op.call (Call.mk (Callee.value (Operand.func 91)) _ _)) _ _ _ _::_) _);refine Det.step (.string (bs m9)) (by rfl) (fun wq hSq K hK=>?_) ?_;(· (go_simp;refine (K9.out _ hSq).mono ?_;rintro e4 w4 ⟨rfl,hb4⟩;go_wp2_with fail;refine hK.out _ _ (hSq.trans (hb4.mono hSq.size)) ?_;first | rfl | (simp [Act.put];done)));simp only [Act.put,sA,sB,sC,sD,sE,sF])
  first
    | ((with_reducible show Det _ _ _ _ (Oper.mk _ (Op.binOp .add 9 _ _ _) _ _ _ _::_) _);refine Det.cat (by rfl) rfl Tryz.underlying9 rfl rfl (by first | omega | (simp;done) | (simp;omega) | (simp only [List.length_append,List.length_cons,List.length_nil];omega)) ?_;simp only [Act.put,sA,sB,sC,sD,sE,sF])
  first
    | (refine Det.read (v:=?_) (by rfl) ?_ ?_;rotate_left;(· (intro wq hSq;skip;go_simp;try with_reducible rfl));simp only [Act.put,sA,sB,sC,sD,sE,sF])
  first
    | (refine Det.read (v:=?_) (by rfl) ?_ ?_;rotate_left;(· (intro wq hSq;obtain ⟨q0,q1,q2,q3,q4,q5,q6,q7,q8,q9,q10,q11⟩:=HC.out _ hSq;go_simp;try with_reducible rfl));simp only [Act.put,sA,sB,sC,sD,sE,sF])
  first
    | ((with_reducible show Det _ _ _ _ (Oper.mk _ (Op.call (Call.mk (Callee.value (Operand.func 213)) _ _)) _ _ _ _::_) _);refine Det.step (.string (bs m10)) (by rfl) (fun wq hSq K hK=>?_) ?_;(· (go_simp;refine (K10.out _ hSq).mono ?_;rintro e4 w4 ⟨rfl,hb4⟩;go_wp2_with fail;refine hK.out _ _ (hSq.trans (hb4.mono hSq.size)) ?_;first | rfl | (simp [Act.put];done)));simp only [Act.put,sA,sB,sC,sD,sE,sF])
  first
    | ((with_reducible show Det _ _ _ _ (Oper.mk _ (Op.binOp .add 9 _ _ _) _ _ _ _::_) _);refine Det.cat (by rfl) rfl Tryz.underlying9 rfl rfl (by first | omega | (simp;done) | (simp;omega) | (simp only [List.length_append,List.length_cons,List.length_nil];omega)) ?_;simp only [Act.put,sA,sB,sC,sD,sE,sF])
  first
    | (refine Det.read (v:=?_) (by rfl) ?_ ?_;rotate_left;(· (intro wq hSq;skip;go_simp;try with_reducible rfl));simp only [Act.put,sA,sB,sC,sD,sE,sF])
  first
    | (refine Det.read (v:=?_) (by rfl) ?_ ?_;rotate_left;(· (intro wq hSq;obtain ⟨q0,q1,q2,q3,q4,q5,q6,q7,q8,q9,q10,q11⟩:=HC.out _ hSq;go_simp;try with_reducible rfl));simp only [Act.put,sA,sB,sC,sD,sE,sF])
  first
    | ((with_reducible show Det _ _ _ _ (Oper.mk _ (Op.call (Call.mk (Callee.value (Operand.func 94)) _ _)) _ _ _ _::_) _);refine Det.step (.string (bs m11)) (by rfl) (fun wq hSq K hK=>?_) ?_;(· (go_simp;refine (K11.out _ hSq).mono ?_;rintro e4 w4 ⟨rfl,hb4⟩;go_wp2_with fail;refine hK.out _ _ (hSq.trans (hb4.mono hSq.size)) ?_;first | rfl | (simp [Act.put];done)));simp only [Act.put,sA,sB,sC,sD,sE,sF])
  first
    | ((with_reducible show Det _ _ _ _ (Oper.mk _ (Op.binOp .add 9 _ _ _) _ _ _ _::_) _);refine Det.cat (by rfl) rfl Tryz.underlying9 rfl rfl (by first | omega | (simp;done) | (simp;omega) | (simp only [List.length_append,List.length_cons,List.length_nil];omega)) ?_;simp only [Act.put,sA,sB,sC,sD,sE,sF])
  first
    | (refine Det.read (v:=?_) (by rfl) ?_ ?_;rotate_left;(· (intro wq hSq;skip;go_simp;try with_reducible rfl));simp only [Act.put,sA,sB,sC,sD,sE,sF])
  refine Det.done fun wz hz=>?_
  go_wp2
  go_ret
  exact ⟨ret_str (by rw [HTr.out];simp only [List.append_assoc]),HB1.out.trans (hz.mono HB1.out.size)⟩
end Go.Proofs.YthlpehhlhebhbaaGreatDoor
