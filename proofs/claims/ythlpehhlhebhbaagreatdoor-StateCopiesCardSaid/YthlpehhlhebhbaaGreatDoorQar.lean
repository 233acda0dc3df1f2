/- Contracts and plain laws, joined: WyF, EvE, WyG, WyH. -/
import Derived.Test.YthlpehhlhebhbaaGreatDoorQap
import Derived.Deep.MidRow
import Derived.Test.YthlpehhlhebhbaaGreatDoorQaj
import Derived.Test.YthlpehhlhebhbaaGreatDoorQal
import Derived.Test.YthlpehhlhebhbaaGreatDoorQah
/- Contracts of profile.Check and of its reference. -/
set_option linter.unusedSimpArgs false
set_option linter.unusedVariables false
namespace Go.Proofs.YthlpehhlhebhbaaGreatDoor
open Lib (hid)
open Go.RowKit
theorem wpList_load_g {P:Program} {ops:Array Oper} {rest:List Oper} {op:Oper} {a:Act} {w:World} {Q:Exit→Act→World→Prop} (hgd:Region.wanted op (yielded ops a.tmps)=true) (ty:TypeId) (x:Operand) (ho:op.op=.load ty x)
  (b o:Nat) (hx:a.eval x=.pointer (some ⟨b,o,none⟩)) (cs:List Value) (d:TypeDesc) (hc:w.rangeAt b o cs)
  (hu:P.underlying ty=some d) (hd:d.isRow=true) (hi:(P.info? ty).map (·.size)=some cs.length)
  (h:wpList P ops Q rest (a.put op.dst (.agg cs.toArray)) w):wpList P ops Q (op::rest) a w :=
 BigFrame.wpList_want hgd fun _ hK=>wp_load_mid ty x ho b o hx cs d hc hu hd hi (hK _ _ h)
theorem RdL.take {T:Type} {sz:Nat} {enc:T→List Value} {w:World} {B:Nat} {A:Option Addr} {xs:List T} (h:RdL sz enc w B A xs) (n:Nat):RdL sz enc w B A (xs.take n):=fun k x hx=>h k x (by
 rw [List.getElem?_take] at hx
 split at hx
 ·exact hx
 ·cases hx)
/- Contract of event.spare. -/
theorem uses_len (k:Int):(usesL k).length≤10:=by
 unfold usesL
 repeat (split;· decide)
 decide
def fieldStep (e o:EvM) (s:ByteArray):EvM :=
 if s=sTarget then {o with target:=e.target} else if s=sQuote then {o with quote:=e.quote} else if s=sWho then {o with who:=e.who} else if s=sN then {o with n:=e.n} else if s=sText then {o with text:=e.text} else if s=sFiles then {o with files:=e.files} else o
def baseE (e:EvM):EvM:={e with target:=-1,quote:=-1,who:=-1,n:=0,text:=ByteArray.empty,files:=[]}
theorem spare_fold (e:EvM):(usesL e.kind).foldl (fieldStep e) (baseE e)=spareE e:=by
 obtain ⟨a,b,c,k,d,f,g,h,i,j,l,m⟩:=e
 rcases kind_cases k with hk | hk | hk | hk | hk | hk | hk | hk | hk
 all_goals first | subst hk | skip
 all_goals first
  | rfl
  | (obtain ⟨a0,a1,a2,a3,a4,a5,a7,a9⟩:=hk
     simp [usesL,spareE,baseE,hasT,hasQ,hasW,hasN,hasX,a0,a1,a2,a3,a4,a5,a7,a9]
     try omega)
theorem uses_mem (k:Int) (s:ByteArray) (h:s∈usesL k):s=sTarget∨s=sQuote∨s=sWho∨s=sN∨s=sText∨s=sFiles:=by
 rcases kind_cases k with hk | hk | hk | hk | hk | hk | hk | hk | hk
 all_goals first
  | (subst hk;simp [usesL] at h;rcases h with h | h | h | h | h <;> simp [h];done)
  | (subst hk;simp [usesL] at h;rcases h with h | h | h <;> simp [h];done)
  | (subst hk;simp [usesL] at h;rcases h with h | h <;> simp [h];done)
  | (subst hk;simp [usesL] at h;simp [h];done)
  | (obtain ⟨a0,a1,a2,a3,a4,a5,a7,a9⟩:=hk
     simp [usesL,a0,a1,a2,a3,a4,a5,a7,a9] at h)
theorem stepT (e o:EvM):fieldStep e o sTarget={o with target:=e.target}:=by
 unfold fieldStep
 rw [if_pos rfl]
theorem stepQ (e o:EvM):fieldStep e o sQuote={o with quote:=e.quote}:=by
 unfold fieldStep
 rw [if_neg (by decide),if_pos rfl]
theorem stepW (e o:EvM):fieldStep e o sWho={o with who:=e.who}:=by
 unfold fieldStep
 rw [if_neg (by decide),if_neg (by decide),if_pos rfl]
theorem stepN (e o:EvM):fieldStep e o sN={o with n:=e.n}:=by
 unfold fieldStep
 rw [if_neg (by decide),if_neg (by decide),if_neg (by decide),if_pos rfl]
theorem stepX (e o:EvM):fieldStep e o sText={o with text:=e.text}:=by
 unfold fieldStep
 rw [if_neg (by decide),if_neg (by decide),if_neg (by decide),if_neg (by decide),if_pos rfl]
theorem stepF (e o:EvM):fieldStep e o sFiles={o with files:=e.files}:=by
 unfold fieldStep
 rw [if_neg (by decide),if_neg (by decide),if_neg (by decide),if_neg (by decide),if_neg (by decide),if_pos rfl]
structure SpO (e o:EvM) (fA:Option Addr) (fc:Nat) (gA:Option Addr) (gc:Nat):Prop where
 ca:o.causes=e.causes
 fi:(o.files=[]∧gA=none∧gc=0)∨(o.files=e.files∧gA=fA∧gc=fc)
def zeroE:Array Value:=#[.int .i64 0,.int .i64 0,.slice none 0 0,.int .i64 0,.int .i64 0,.int .i64 0,.int .i64 0,.int .i64 0,.int .i64 0,.string ⟨#[]⟩,.slice none 0 0,.int .i64 0]
theorem evOne (o:EvM) (cA:Option Addr) (cc:Nat) (gA:Option Addr) (gc:Nat):(o.cs cA cc gA gc).all (·.oneCell')=true:=by
 simp [EvM.cs,Value.oneCell']
def SpareOut (e:EvM) (cA:Option Addr) (cc:Nat) (fA:Option Addr) (fc:Nat) (w:World) (en:Ending) (w':World):Prop :=
 Below w.heap.size w w'∧∃ gA gc,en=.returned ((spareE e).v cA cc gA gc)∧((spareE e).files=[]∨((spareE e).files=e.files∧gA=fA))
set_option maxRecDepth 100000 in
set_option maxHeartbeats 4000000 in
theorem evSpare_any (e:EvM) (cA:Option Addr) (cc:Nat) (fA:Option Addr) (fc:Nat) (w:World):Calls Tryz.prog 227 #[e.v cA cc fA fc] w (SpareOut e cA cc fA fc w):=by
 go_enter Tryz.func227,Tryz.ntmps227
 go_wp2_with fail
 obtain ⟨W3,hW3⟩:∃ W,W=((w.alloc (.cells (e.cs cA cc fA fc) 56)).alloc (.cells zeroE 56)).alloc (.cells ((baseE e).cs cA cc none 0) 56):=⟨_,rfl⟩
 have hb3:Below w.heap.size w W3:=by rw [hW3];repeat (first | with_reducible exact Below.refl _ _ | with_reducible assumption | with_reducible refine Below.drew ?_ | with_reducible refine Below.alloc ?_ (by first | omega | (simp;done) | (simp;omega)) _)
 have g0:W3.heap[w.heap.size]?=some (.cells (e.cs cA cc fA fc) 56 (0,0)):=by
  rw [hW3,Below.heap_alloc _ _ _ (by simp;omega),Below.heap_alloc _ _ _ (by simp)]
  exact (MapKept.heap_alloc w _).1
 have g1:W3.heap[w.heap.size+1]?=some (.cells zeroE 56 (0,0)):=by
  rw [hW3,Below.heap_alloc _ _ _ (by simp)]
  exact (by simpa using (MapKept.heap_alloc (w.alloc (.cells (e.cs cA cc fA fc) 56)) (.cells zeroE 56)).1)
 have g2:W3.heap[w.heap.size+2]?=some (.cells ((baseE e).cs cA cc none 0) 56 (0,0)):=by
  rw [hW3]
  exact (by simpa using (MapKept.heap_alloc ((w.alloc (.cells (e.cs cA cc fA fc) 56)).alloc (.cells zeroE 56)) (.cells ((baseE e).cs cA cc none 0) 56)).1)
 have hz3:W3.heap.size=w.heap.size+3:=by rw [hW3];simp
 refine Calls.mono (show Calls Tryz.prog 271 #[.int .i64 e.kind] _ (UsesOut e.kind W3) from ?_) ?_
 ·rw [hW3]
  exact evUses_any _ _
 have HB3:=hid hb3
 have G0:=hid g0
 have G1:=hid g1
 have G2:=hid g2
 clear hW3 hb3 g0 g1 g2
 rintro en w1 ⟨uA,uc,rfl,hu,hub,hb1⟩
 have HB1:=hid (HB3.out.trans (hb1.mono (by omega)))
 have hz1:=hb1.size
 have F0:=hid ((hb1.block w.heap.size (by omega)).trans G0.out)
 have F1:=hid ((hb1.block (w.heap.size+1) (by omega)).trans G1.out)
 have F2:=hid ((hb1.block (w.heap.size+2) (by omega)).trans G2.out)
 have HU:=hid hu
 have HUB:=hid hub
 have HFold:=hid (spare_fold e)
 have HMem:=hid (uses_mem e.kind)
 have HUl:=hid (uses_len e.kind)
 clear hb1 hu hub G0 G1 G2 HB3
 generalize hL:usesL e.kind=us at *
 clear hL
 have hul:us.length≤10:=HUl.out
 go_wp2_with fail
 go_loopw [5,23] (fun _ i wr=>∃ (k:Nat) (o:EvM) (gA:Option Addr) (gc:Nat),k≤us.length∧i=.int .i64 k∧o=(us.take k).foldl (fieldStep e) (baseE e)∧SpO e o fA fc gA gc∧wr.heap[w.heap.size+2]?=some (.cells (o.cs cA cc gA gc) 56 (0,0))∧w1.grownBy wr (some (w.heap.size+2))) (fun _ i _=>us.length - (intOf i).toNat)
 case atStart=>exact ⟨0,baseE e,none,0,Nat.zero_le _,rfl,rfl,⟨rfl,.inl ⟨rfl,rfl,rfl⟩⟩,F2.out,World.grownBy.refl _ _⟩
 case round =>
  obtain ⟨k,o,gA,gc,hk,rfl,ho,hsp,hbx,hg⟩:=hrel
  have HO:=hid ho
  have HSp:=hid hsp
  have HBx:=hid hbx
  have HG:=hid hg
  have hz:=hg.size
  clear ho hsp
  by_cases hlt:k<us.length
  ·obtain ⟨b,off,hA,hbb,c0⟩:=(HU.out).at_ hlt
   have hbl:=HUB.out b off hA
   have c1:wr.cell? ⟨b,off+k * 1+0,none⟩=some (.string us[k]):=(World.cell?_of_block (hg.block b hbb (fun e=>by injection e with e;omega))).trans (c0 0 _ rfl)
   rw [Nat.mul_one,Nat.add_zero] at c1
   have HM:=hid (HMem.out us[k] (List.getElem_mem hlt))
   have HSt:Hid ((us.take (k+1)).foldl (fieldStep e) (baseE e)=fieldStep e o us[k]):=hid (by rw [List.take_succ_eq_append_getElem hlt,List.foldl_append,← HO.out];rfl)
   subst hA
   have f0:=(hg.block w.heap.size (by omega) (by simp)).trans F0.out
   have b5:=box_cell f0 5 _ rfl
   have b6:=box_cell f0 6 _ rfl
   have b7:=box_cell f0 7 _ rfl
   have b8:=box_cell f0 8 _ rfl
   have b9:=box_cell f0 9 _ rfl
   have b10:=box_cell f0 10 _ rfl
   have o5:=box_cell hbx 5 _ rfl
   have o6:=box_cell hbx 6 _ rfl
   have o7:=box_cell hbx 7 _ rfl
   have o8:=box_cell hbx 8 _ rfl
   have o9:=box_cell hbx 9 _ rfl
   have o10:=box_cell hbx 10 _ rfl
   have oz:=fun j=>box_free hbx j
   clear c0 hbx f0 hg
   generalize us[k]=s at *
   rcases HM.out with hs | hs | hs | hs | hs | hs
   ·rw [hs,stepT] at HSt
    have hs':s=⟨#[84,97,114,103,101,116]⟩:=hs
    clear hs HM
    subst hs'
    go_wp2
    go_roundw
    case rel=>exact ⟨k+1,{o with target:=e.target},gA,gc,by omega,by go_num,HSt.out.symm,⟨HSp.out.ca,HSp.out.fi⟩,heap_setCell_same _ _ _ _ _ _ HBx.out,HG.out.andThen (grown_set _ _ _ _) (fun j h=>.inr (by rw [h]))⟩
    case measure=>simp [intOf];omega
   ·rw [hs,stepQ] at HSt
    have hs':s=⟨#[81,117,111,116,101]⟩:=hs
    clear hs HM
    subst hs'
    go_wp2
    go_roundw
    case rel=>exact ⟨k+1,{o with quote:=e.quote},gA,gc,by omega,by go_num,HSt.out.symm,⟨HSp.out.ca,HSp.out.fi⟩,heap_setCell_same _ _ _ _ _ _ HBx.out,HG.out.andThen (grown_set _ _ _ _) (fun j h=>.inr (by rw [h]))⟩
    case measure=>simp [intOf];omega
   ·rw [hs,stepW] at HSt
    have hs':s=⟨#[87,104,111]⟩:=hs
    clear hs HM
    subst hs'
    go_wp2
    go_roundw
    case rel=>exact ⟨k+1,{o with who:=e.who},gA,gc,by omega,by go_num,HSt.out.symm,⟨HSp.out.ca,HSp.out.fi⟩,heap_setCell_same _ _ _ _ _ _ HBx.out,HG.out.andThen (grown_set _ _ _ _) (fun j h=>.inr (by rw [h]))⟩
    case measure=>simp [intOf];omega
   ·rw [hs,stepN] at HSt
    have hs':s=⟨#[78]⟩:=hs
    clear hs HM
    subst hs'
    go_wp2
    go_roundw
    case rel=>exact ⟨k+1,{o with n:=e.n},gA,gc,by omega,by go_num,HSt.out.symm,⟨HSp.out.ca,HSp.out.fi⟩,heap_setCell_same _ _ _ _ _ _ HBx.out,HG.out.andThen (grown_set _ _ _ _) (fun j h=>.inr (by rw [h]))⟩
    case measure=>simp [intOf];omega
   ·rw [hs,stepX] at HSt
    have hs':s=⟨#[84,101,120,116]⟩:=hs
    clear hs HM
    subst hs'
    go_wp2
    go_roundw
    case rel=>exact ⟨k+1,{o with text:=e.text},gA,gc,by omega,by go_num,HSt.out.symm,⟨HSp.out.ca,HSp.out.fi⟩,heap_setCell_same _ _ _ _ _ _ HBx.out,HG.out.andThen (grown_set _ _ _ _) (fun j h=>.inr (by rw [h]))⟩
    case measure=>simp [intOf];omega
   ·rw [hs,stepF] at HSt
    have hs':s=⟨#[70,105,108,101,115]⟩:=hs
    clear hs HM
    subst hs'
    go_wp2
    go_roundw
    case rel=>exact ⟨k+1,{o with files:=e.files},fA,fc,by omega,by go_num,HSt.out.symm,⟨HSp.out.ca,.inr ⟨rfl,rfl,rfl⟩⟩,heap_setCell_same _ _ _ _ _ _ HBx.out,HG.out.andThen (grown_set _ _ _ _) (fun j h=>.inr (by rw [h]))⟩
    case measure=>simp [intOf];omega
  ·have hE:o=spareE e:=by rw [HO.out,List.take_of_length_le (by omega),HFold.out]
   have ht1:wr.there (w.heap.size+1) 0 12:=by
    have h1:=(hg.block (w.heap.size+1) (by omega) (by simp)).trans F1.out
    intro j hj
    rw [Nat.zero_add]
    refine ⟨?_,box_free h1 j⟩
    unfold World.cell?
    simp [h1,zeroE]
    omega
   have hrg:wr.rangeAt (w.heap.size+2) 0 (o.cs cA cc gA gc).toList:=fun j v hj=>by
    rw [Nat.zero_add]
    exact box_cell hbx j v (by rw [← Array.getElem?_toList];exact hj)
   have HT1:=hid ht1
   have HR2:=hid hrg
   have HE:=hid hE
   clear ht1 hrg hE hbx hg
   go_wp2_with (first
    | ((with_reducible show wpList _ _ _ (Oper.mk _ (Op.load 56 _) _ _ _ _::_) _ _);refine wpList_load_g rfl 56 (.tmp 3) rfl (w.heap.size+2) 0 rfl (o.cs cA cc gA gc).toList _ HR2.out Tryz.underlying56 rfl (by kernel_rfl) ?_)
    | ((with_reducible show wpList _ _ _ (Oper.mk _ (Op.store 56 _ _) _ _ _ _::_) _ _);refine wpList_store_box rfl 56 _ _ rfl (w.heap.size+1) (o.cs cA cc gA gc) rfl rfl HT1.out (by kernel_rfl) (evOne o cA cc gA gc) ?_;intro w2 hr2 ht2 hg2;have HR3:=hid hr2;have HG3:=hid hg2;clear hr2 ht2 hg2))
   refine ret_box 2 56 rfl (w.heap.size+1) _ _ rfl HR3.out Tryz.underlying56 rfl (by kernel_rfl) rfl ⟨?_,gA,gc,?_,?_⟩
   ·exact (HB1.out.grown HG.out (by omega) (fun k hk=>by injection hk with hk;omega)).grown HG3.out (by omega) (fun k hk=>by injection hk with hk;omega)
   ·rw [← HE.out]
   ·rw [← HE.out]
    rcases HSp.out.fi with ⟨h,_⟩ | ⟨h,h2,_⟩
    ·exact .inl h
    ·exact .inr ⟨h,h2⟩
/- Contract of the reference of profile.Check. -/
/- Contracts of the small functions of the reference of the ways. -/
end Go.Proofs.YthlpehhlhebhbaaGreatDoor
