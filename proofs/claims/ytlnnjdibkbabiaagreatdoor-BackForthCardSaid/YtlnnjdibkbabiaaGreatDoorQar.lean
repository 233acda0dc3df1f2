/- Contracts and plain laws, joined: WyF, WyG, WyH, EvE. -/
import Derived.Test.YtlnnjdibkbabiaaGreatDoorQam
import Derived.Deep.MidRow
import Derived.Test.YtlnnjdibkbabiaaGreatDoorQah
import Derived.Test.YtlnnjdibkbabiaaGreatDoorQai
import Derived.Test.YtlnnjdibkbabiaaGreatDoorQag
/- Contracts of profile.Check and of its reference. -/
set_option linter.unusedSimpArgs false
set_option linter.unusedVariables false
namespace Go.Proofs.YtlnnjdibkbabiaaGreatDoor
set_option maxHeartbeats 4000000
open _root_.Go.Lib (hid)
open Go.RowKit
def togetherB (p:Prof):Bool:=((p.files==0)==(p.bytes==0)) && ((p.files==0)==decide (p.types=[]))
def boundsB (p:Prof):Bool:=inR p.size 40 4000 && (inR p.parts 1 20 && (decide (p.files≤4) && (decide (p.bytes≤65536) && (decide (1≤p.rate) && (decide (p.down=0∨p.down<p.window) && togetherB p)))))
def offB (p:Prof):Bool:=!boundsB p
def profCheck (p:Prof):Int:=if profRight p then (if offB p then 3 else (if p.types.Nodup then 0 else 5)) else 1
theorem together_any (p:Prof) (A:Option Addr) (c:Nat) (w:World):Calls Tryz.prog 38 #[p.v A c] w fun e w'=>e=.returned (.bool (togetherB p))∧Below w.heap.size w w':=by
 have HB:=hid ((Below.refl w.heap.size w).alloc (Nat.le_refl _) (.cells (p.cs A c) 24))
 go_enter Tryz.func38,Tryz.ntmps38
 go_wp2
 all_goals go_ret
 all_goals exact ⟨by simp_all [togetherB,len0],HB.out⟩
theorem boxCells (w:World) (cs:Array Value) (t:TypeId) {w':World} (hb:Below (w.alloc (.cells cs t)).heap.size (w.alloc (.cells cs t)) w'):∀ j v,cs[j]?=some v→w'.cell? ⟨w.heap.size,j,none⟩=some v:=fun j v hj=>by
 have h:=boxAll w cs t (w':=w') (hb.mono (by simp)) j
 rw [h,hj]
theorem boxRange (w:World) (cs:Array Value) (t:TypeId) {w':World} (hb:Below (w.alloc (.cells cs t)).heap.size (w.alloc (.cells cs t)) w'):w'.rangeAt w.heap.size 0 cs.toList:=fun j v hj=>by
 rw [Nat.zero_add];exact boxCells w cs t hb j v (by rw [← hj];simp)
theorem wpList_load_g {P:Program} {ops:Array Oper} {rest:List Oper} {op:Oper} {a:Act} {w:World} {Q:Exit→Act→World→Prop} (hgd:Region.wanted op (yielded ops a.tmps)=true) (ty:TypeId) (x:Operand) (ho:op.op=.load ty x)
  (b o:Nat) (hx:a.eval x=.pointer (some ⟨b,o,none⟩)) (cs:List Value) (d:TypeDesc) (hc:w.rangeAt b o cs)
  (hu:P.underlying ty=some d) (hd:d.isRow=true) (hi:(P.info? ty).map (·.size)=some cs.length)
  (h:wpList P ops Q rest (a.put op.dst (.agg cs.toArray)) w):wpList P ops Q (op::rest) a w :=
 BigFrame.wpList_want hgd fun _ hK=>wp_load_mid ty x ho b o hx cs d hc hu hd hi (hK _ _ h)
theorem has_mem (xs:List ByteArray) (s:ByteArray):hasS xs s=true ↔ s∈xs:=by
 simp [hasS,eqS]
theorem nodup_hit {xs:List ByteArray} {k:Nat} {s:ByteArray} (h:xs[k]?=some s) (hm:hasS (xs.take k) s=true):¬ xs.Nodup:=by
 intro hn
 rw [has_mem,List.mem_take_iff_getElem] at hm
 obtain ⟨j,hj,e⟩:=hm
 obtain ⟨hk,rfl⟩:=List.getElem?_eq_some_iff.1 h
 have:=nodup_inj hn (by omega) hk e
 omega
theorem nodup_miss {xs:List ByteArray} {k:Nat} {s:ByteArray} (h:xs[k]?=some s) (hm:hasS (xs.take k) s=false) (hn:(xs.take k).Nodup):(xs.take (k+1)).Nodup:=by
 obtain ⟨hk,rfl⟩:=List.getElem?_eq_some_iff.1 h
 have hm:¬ xs[k]∈xs.take k:=fun h=>by rw [(has_mem _ _).2 h] at hm;cases hm
 rw [List.take_succ_eq_append_getElem hk,List.nodup_append]
 refine ⟨hn,by simp,fun x hx y hy=>?_⟩
 simp only [List.mem_singleton] at hy
 subst hy
 exact fun e=>hm (e ▸ hx)
theorem RdL.take {T:Type} {sz:Nat} {enc:T→List Value} {w:World} {B:Nat} {A:Option Addr} {xs:List T} (h:RdL sz enc w B A xs) (n:Nat):RdL sz enc w B A (xs.take n):=fun k x hx=>h k x (by
 rw [List.getElem?_take] at hx
 split at hx
 ·exact hx
 ·cases hx)
theorem strCont_take (xs:List ByteArray) (n:Nat) (s:ByteArray) (A:Option Addr) (c:Nat) (w:World) (hr:RdS w w.heap.size A xs) (hm:xs.length≤9223372036854775807) (hn:n≤xs.length) :
  Calls Tryz.prog 39 #[.slice A n c,.string s] w fun e w'=>e=.returned (.bool (hasS (xs.take n) s))∧w=w':=by
 have h:=strCont_any (xs.take n) s A c w (hr.take n) (by rw [List.length_take];omega)
 rwa [List.length_take,Nat.min_eq_left hn] at h
theorem bounds_cases (p:Prof):inR p.size 40 4000=false∨(inR p.size 40 4000=true∧(inR p.parts 1 20=false∨(inR p.parts 1 20=true∧(decide (4<p.files)=true∨(decide (4<p.files)=false∧(decide (65536<p.bytes)=true∨(decide (65536<p.bytes)=false∧(decide (p.rate<1)=true∨(decide (p.rate<1)=false ∧
  (((p.down != 0)=true∧decide (p.window≤p.down)=true)∨(p.down != 0)=false∨((p.down != 0)=true∧decide (p.window≤p.down)=false))))))))))) :=by
 cases inR p.size 40 4000 <;> cases inR p.parts 1 20 <;> simp <;> omega
set_option maxRecDepth 100000 in
theorem pCheck_any (p:Prof) (A:Option Addr) (c:Nat) (w:World) (hr:ProfOk w w.heap.size A p) (hcap:p.types.length≤c):Calls Tryz.prog 11 #[p.v A c] w fun e w'=>e=.returned (.int .i64 (profCheck p))∧Below w.heap.size w w':=by
 have hb0:Below w.heap.size w (w.alloc (.cells (p.cs A c) 24)):=(Below.refl _ _).alloc (Nat.le_refl _) _
 have hr0:=hr.now hb0
 have HB:=hid hb0
 clear hb0
 have HRA:=hid (boxRange w (p.cs A c) 24 (Below.refl _ _))
 go_enter Tryz.func11,Tryz.ntmps11
 go_wp2_with ((with_reducible show wpList _ _ _ (Oper.mk _ (Op.load 24 _) _ _ _ _::_) _ _);refine wpList_load_g rfl 24 (.tmp 1) rfl w.heap.size 0 rfl (p.cs A c).toList _ HRA.out Tryz.underlying24 rfl (by kernel_rfl) ?_)
 refine (pRight_any p A c _ hr0).mono ?_
 rintro e w1 ⟨rfl,hb1⟩
 have hcc:=boxCells w _ _ hb1
 have HRA1:=hid (boxRange w _ _ hb1)
 have hr1:=hr0.now hb1
 have HB1:=hid (HB.out.trans (hb1.mono HB.out.size))
 have hs1:w.heap.size<w1.heap.size:=by have:=hb1.size;simp at this;omega
 clear hb1
 generalize hpr:profRight p=pr
 have HPR:=hid hpr
 clear hpr
 cases pr
 ·go_wp2
  go_ret
  exact ⟨by simp [profCheck,HPR.out],HB1.out⟩
 ·obtain ⟨hrd,hnm,hlen,hts⟩:=hr1
  clear hts hr0
  have f8:=hcc 8 _ rfl
  have f9:=hcc 9 _ rfl
  have f10:=hcc 10 _ rfl
  have f11:=hcc 11 _ rfl
  have f12:=hcc 12 _ rfl
  have f18:=hcc 18 _ rfl
  have f19:=hcc 19 _ rfl
  have f20:=hcc 20 _ rfl
  clear hcc
  have HT:=fun (w:World)=>hid (together_any p A c w)
  go_upto_region 3 with fail
  go_cut [49] (fun v wx=>v=.bool (offB p)∧Below w1.heap.size w1 wx)
  case first =>
   have HBC:=bounds_cases p
   rcases HBC with g | ⟨g1,g | ⟨g2,g | ⟨g3,g | ⟨g4,g | ⟨g5,⟨g6,g⟩ | g6 | ⟨g6,g⟩⟩⟩⟩⟩⟩
   all_goals
    go_wp2_with (first
     | (go_at_call 37;refine (pWithin_any _ _ _ _).mono ?_;rintro e w' ⟨rfl,rfl⟩)
     | ((with_reducible show wpList _ _ _ (Oper.mk _ (Op.load 24 _) _ _ _ _::_) _ _);refine wpList_load_g rfl 24 (.tmp 1) rfl w.heap.size 0 rfl (p.cs A c).toList _ HRA1.out Tryz.underlying24 rfl (by kernel_rfl) ?_)
     | (go_at_call 38;refine ((HT _).out).mono ?_;rintro e w' ⟨rfl,hb'⟩))
   all_goals go_meet
   all_goals exact ⟨by simp_all [offB,boundsB],by first | assumption | exact Below.refl _ _⟩
  case rest =>
   obtain ⟨rfl,hb2⟩:=hcut
   generalize hbb:offB p=bb
   have HBB:=hid hbb
   clear hbb
   cases bb
   rotate_left
   ·go_wp2
    go_ret
    exact ⟨by simp [profCheck,HPR.out,HBB.out],HB1.out.trans (hb2.mono HB1.out.size)⟩
   have hrd2:=hrd.now hb2
   obtain ⟨wc,hwc,hb2⟩:∃ wc,wc=_∧Below w1.heap.size w1 wc:=⟨_,rfl,hb2⟩
   subst hwc
   have hlt0:=Nat.lt_of_lt_of_le hs1 hb2.size
   have g12:=(hb2.cell (p:=⟨w.heap.size,12,none⟩) hs1).trans f12
   have HB2:=hid (HB1.out.trans (hb2.mono HB1.out.size))
   clear f8 f9 f10 f11 f12 f18 f19 f20 hb2 HT
   go_wp2_with fail
   go_loopw [53] (fun i wr=>∃ k:Nat,k≤p.types.length∧i=.int .i64 k∧(p.types.take k).Nodup∧wr=wc) (fun i _=>p.types.length - (intOf i).toNat)
   case atStart=>exact ⟨0,Nat.zero_le _,rfl,by simp,rfl⟩
   case round =>
    obtain ⟨k,hk,rfl,hnd,rfl⟩:=hrel
    have HND:=hid hnd
    clear hnd
    by_cases hlt:k<p.types.length
    ·obtain ⟨b,off,s,rfl,hbb,hp,hc⟩:=RdS_at hrd2 hlt
     have HP:=hid hp
     clear hp
     have HC:=hid (strCont_take p.types k s _ c _ hrd2 hlen (Nat.le_of_lt hlt))
     generalize hhs:hasS (p.types.take k) s=hh at HC
     have HHS:=hid hhs
     clear hhs
     cases hh
     ·go_wp2_with fail
      refine (HC.out).mono ?_
      rintro e w' ⟨rfl,rfl⟩
      go_wp2
      go_roundw
      case rel=>exact ⟨k+1,by omega,by go_num,nodup_miss HP.out HHS.out HND.out,trivial⟩
      case measure=>simp [intOf];omega
     ·go_wp2_with fail
      refine (HC.out).mono ?_
      rintro e w' ⟨rfl,rfl⟩
      go_wp2
      go_ret
      exact ⟨by simp [profCheck,HPR.out,HBB.out,nodup_hit HP.out HHS.out],HB2.out⟩
    ·have hall:p.types.Nodup:=by have h:=HND.out;rwa [List.take_of_length_le (by omega)] at h
     have HA:=hid hall
     clear hall
     go_wp2
     go_ret
     exact ⟨by simp [profCheck,HPR.out,HBB.out,HA.out],HB2.out⟩
/- Contract of the reference of profile.Check. -/
/- Contracts of the small functions of the reference of the ways. -/
abbrev wayV (x:Int × Int):Value:=.agg #[.int .i64 x.1,.int .i64 x.2]
def longW (p:Prof):Int × Int:=if 2≤p.parts then (if 4400≤p.size * p.parts then (1,1) else (4,1)) else (4,0)
def editsB (p:Prof):Bool:=(p.edit==2) && (p.within_==0)
def editW (p:Prof):Int × Int:=if editsB p then (0,0) else (3,2)
def goneW (p:Prof):Int × Int:=if p.delete=0 then (if editsB p then (2,0) else (3,2)) else (0,0)
def reactW (p:Prof):Int × Int:=if p.react then (if p.parts=1 then (0,0) else (0,1)) else (3,2)
def replyW (p:Prof):Int × Int:=if p.thread=2 then (0,0) else if p.thread=1 then (2,1) else (2,2)
def ownW (b:Bool):Int × Int:=if b then (0,0) else (2,2)
def fileW (p:Prof):Int × Int:=if 4≤p.files then (0,0) else if 1≤p.files then (4,1) else (2,2)
theorem boxFree (w:World) (cs:Array Value) (t:TypeId) {w':World} (hb:Below (w.alloc (.cells cs t)).heap.size (w.alloc (.cells cs t)) w') (b:Nat) (he:b=w.heap.size) (o:Nat):w'.frozen? ⟨b,o,none⟩=false:=by
 subst he
 rw [hb.frozen (p:=⟨w.heap.size,o,none⟩) (by simp)]
 simp
theorem boxCell (w:World) (cs:Array Value) (t:TypeId) {w':World} (hb:Below (w.alloc (.cells cs t)).heap.size (w.alloc (.cells cs t)) w') (b:Nat) (he:b=w.heap.size) (j:Nat) (v:Value) (hj:cs[j]?=some v):w'.cell? ⟨b,j,none⟩=some v:=by
 subst he
 exact boxCells w cs t hb j v hj
/- Contract of event.spare. -/
theorem uses_len (k:Int):(usesL k).length≤10:=by
 unfold usesL
 repeat (split;· decide)
 decide
def fieldStep (e o:EvM) (s:ByteArray):EvM :=
 if s=sTarget then {o with target:=e.target} else if s=sQuote then {o with quote:=e.quote} else if s=sWho then {o with who:=e.who} else if s=sN then {o with n:=e.n} else if s=sText then {o with text:=e.text} else if s=sFiles then {o with files:=e.files} else o
def baseE (e:EvM):EvM:={e with target:=-1,quote:=-1,who:=-1,n:=0,text:=ByteArray.empty,files:=[]}
theorem spare_fold (e:EvM):(usesL e.kind).foldl (fieldStep e) (baseE e)=spareE e:=by
 obtain ⟨a,b,c,k,d,f,g,h,i,j,l,m⟩:=e
 rcases kind_cases k with hk | hk | hk | hk | hk | hk | hk | hk | hk
 all_goals first | subst hk | skip
 all_goals first
  | rfl
  | (obtain ⟨a0,a1,a2,a3,a4,a5,a7,a9⟩:=hk
     simp [usesL,spareE,baseE,hasT,hasQ,hasW,hasN,hasX,a0,a1,a2,a3,a4,a5,a7,a9]
     try omega)
theorem uses_mem (k:Int) (s:ByteArray) (h:s∈usesL k):s=sTarget∨s=sQuote∨s=sWho∨s=sN∨s=sText∨s=sFiles:=by
 rcases kind_cases k with hk | hk | hk | hk | hk | hk | hk | hk | hk
 all_goals first
  | (subst hk;simp [usesL] at h;rcases h with h | h | h | h | h <;> simp [h];done)
  | (subst hk;simp [usesL] at h;rcases h with h | h | h <;> simp [h];done)
  | (subst hk;simp [usesL] at h;rcases h with h | h <;> simp [h];done)
  | (subst hk;simp [usesL] at h;simp [h];done)
  | (obtain ⟨a0,a1,a2,a3,a4,a5,a7,a9⟩:=hk
     simp [usesL,a0,a1,a2,a3,a4,a5,a7,a9] at h)
theorem stepT (e o:EvM):fieldStep e o sTarget={o with target:=e.target}:=by
 unfold fieldStep
 rw [if_pos rfl]
theorem stepQ (e o:EvM):fieldStep e o sQuote={o with quote:=e.quote}:=by
 unfold fieldStep
 rw [if_neg (by decide),if_pos rfl]
theorem stepW (e o:EvM):fieldStep e o sWho={o with who:=e.who}:=by
 unfold fieldStep
 rw [if_neg (by decide),if_neg (by decide),if_pos rfl]
theorem stepN (e o:EvM):fieldStep e o sN={o with n:=e.n}:=by
 unfold fieldStep
 rw [if_neg (by decide),if_neg (by decide),if_neg (by decide),if_pos rfl]
theorem stepX (e o:EvM):fieldStep e o sText={o with text:=e.text}:=by
 unfold fieldStep
 rw [if_neg (by decide),if_neg (by decide),if_neg (by decide),if_neg (by decide),if_pos rfl]
theorem stepF (e o:EvM):fieldStep e o sFiles={o with files:=e.files}:=by
 unfold fieldStep
 rw [if_neg (by decide),if_neg (by decide),if_neg (by decide),if_neg (by decide),if_neg (by decide),if_pos rfl]
structure SpO (e o:EvM) (fA:Option Addr) (fc:Nat) (gA:Option Addr) (gc:Nat):Prop where
 ca:o.causes=e.causes
 fi:(o.files=[]∧gA=none∧gc=0)∨(o.files=e.files∧gA=fA∧gc=fc)
def zeroE:Array Value:=#[.int .i64 0,.int .i64 0,.slice none 0 0,.int .i64 0,.int .i64 0,.int .i64 0,.int .i64 0,.int .i64 0,.int .i64 0,.string ⟨#[]⟩,.slice none 0 0,.int .i64 0]
theorem evOne (o:EvM) (cA:Option Addr) (cc:Nat) (gA:Option Addr) (gc:Nat):(o.cs cA cc gA gc).all (·.oneCell')=true:=by
 simp [EvM.cs,Value.oneCell']
def SpareOut (e:EvM) (cA:Option Addr) (cc:Nat) (fA:Option Addr) (fc:Nat) (w:World) (en:Ending) (w':World):Prop :=
 Below w.heap.size w w'∧∃ gA gc,en=.returned ((spareE e).v cA cc gA gc)∧((spareE e).files=[]∨((spareE e).files=e.files∧gA=fA))
set_option maxRecDepth 100000 in
theorem evSpare_any (e:EvM) (cA:Option Addr) (cc:Nat) (fA:Option Addr) (fc:Nat) (w:World):Calls Tryz.prog 85 #[e.v cA cc fA fc] w (SpareOut e cA cc fA fc w):=by
 go_enter Tryz.func85,Tryz.ntmps85
 go_wp2_with fail
 obtain ⟨W3,hW3⟩:∃ W,W=((w.alloc (.cells (e.cs cA cc fA fc) 40)).alloc (.cells zeroE 40)).alloc (.cells ((baseE e).cs cA cc none 0) 40):=⟨_,rfl⟩
 have hb3:Below w.heap.size w W3:=by rw [hW3];repeat (first | with_reducible exact Below.refl _ _ | with_reducible assumption | with_reducible refine Below.drew ?_ | with_reducible refine Below.alloc ?_ (by first | omega | (simp;done) | (simp;omega)) _)
 have g0:W3.heap[w.heap.size]?=some (.cells (e.cs cA cc fA fc) 40 (0,0)):=by
  rw [hW3,Below.heap_alloc _ _ _ (by simp;omega),Below.heap_alloc _ _ _ (by simp)]
  exact (MapKept.heap_alloc w _).1
 have g1:W3.heap[w.heap.size+1]?=some (.cells zeroE 40 (0,0)):=by
  rw [hW3,Below.heap_alloc _ _ _ (by simp)]
  exact (by simpa using (MapKept.heap_alloc (w.alloc (.cells (e.cs cA cc fA fc) 40)) (.cells zeroE 40)).1)
 have g2:W3.heap[w.heap.size+2]?=some (.cells ((baseE e).cs cA cc none 0) 40 (0,0)):=by
  rw [hW3]
  exact (by simpa using (MapKept.heap_alloc ((w.alloc (.cells (e.cs cA cc fA fc) 40)).alloc (.cells zeroE 40)) (.cells ((baseE e).cs cA cc none 0) 40)).1)
 have hz3:W3.heap.size=w.heap.size+3:=by rw [hW3];simp
 refine Calls.mono (show Calls Tryz.prog 48 #[.int .i64 e.kind] _ (UsesOut e.kind W3) from ?_) ?_
 ·rw [hW3]
  exact evUses_any _ _
 have HB3:=hid hb3
 have G0:=hid g0
 have G1:=hid g1
 have G2:=hid g2
 clear hW3 hb3 g0 g1 g2
 rintro en w1 ⟨uA,uc,rfl,hu,hub,hb1⟩
 have HB1:=hid (HB3.out.trans (hb1.mono (by omega)))
 have hz1:=hb1.size
 have F0:=hid ((hb1.block w.heap.size (by omega)).trans G0.out)
 have F1:=hid ((hb1.block (w.heap.size+1) (by omega)).trans G1.out)
 have F2:=hid ((hb1.block (w.heap.size+2) (by omega)).trans G2.out)
 have HU:=hid hu
 have HUB:=hid hub
 have HFold:=hid (spare_fold e)
 have HMem:=hid (uses_mem e.kind)
 have HUl:=hid (uses_len e.kind)
 clear hb1 hu hub G0 G1 G2 HB3
 generalize hL:usesL e.kind=us at *
 clear hL
 have hul:us.length≤10:=HUl.out
 go_wp2_with fail
 go_loopw [5,23] (fun _ i wr=>∃ (k:Nat) (o:EvM) (gA:Option Addr) (gc:Nat),k≤us.length∧i=.int .i64 k∧o=(us.take k).foldl (fieldStep e) (baseE e)∧SpO e o fA fc gA gc∧wr.heap[w.heap.size+2]?=some (.cells (o.cs cA cc gA gc) 40 (0,0))∧w1.grownBy wr (some (w.heap.size+2))) (fun _ i _=>us.length - (intOf i).toNat)
 case atStart=>exact ⟨0,baseE e,none,0,Nat.zero_le _,rfl,rfl,⟨rfl,.inl ⟨rfl,rfl,rfl⟩⟩,F2.out,World.grownBy.refl _ _⟩
 case round =>
  obtain ⟨k,o,gA,gc,hk,rfl,ho,hsp,hbx,hg⟩:=hrel
  have HO:=hid ho
  have HSp:=hid hsp
  have HBx:=hid hbx
  have HG:=hid hg
  have hz:=hg.size
  clear ho hsp
  by_cases hlt:k<us.length
  ·obtain ⟨b,off,hA,hbb,c0⟩:=(HU.out).at_ hlt
   have hbl:=HUB.out b off hA
   have c1:wr.cell? ⟨b,off+k * 1+0,none⟩=some (.string us[k]):=(World.cell?_of_block (hg.block b hbb (fun e=>by injection e with e;omega))).trans (c0 0 _ rfl)
   rw [Nat.mul_one,Nat.add_zero] at c1
   have HM:=hid (HMem.out us[k] (List.getElem_mem hlt))
   have HSt:Hid ((us.take (k+1)).foldl (fieldStep e) (baseE e)=fieldStep e o us[k]):=hid (by rw [List.take_succ_eq_append_getElem hlt,List.foldl_append,← HO.out];rfl)
   subst hA
   have f0:=(hg.block w.heap.size (by omega) (by simp)).trans F0.out
   have b5:=box_cell f0 5 _ rfl
   have b6:=box_cell f0 6 _ rfl
   have b7:=box_cell f0 7 _ rfl
   have b8:=box_cell f0 8 _ rfl
   have b9:=box_cell f0 9 _ rfl
   have b10:=box_cell f0 10 _ rfl
   have o5:=box_cell hbx 5 _ rfl
   have o6:=box_cell hbx 6 _ rfl
   have o7:=box_cell hbx 7 _ rfl
   have o8:=box_cell hbx 8 _ rfl
   have o9:=box_cell hbx 9 _ rfl
   have o10:=box_cell hbx 10 _ rfl
   have oz:=fun j=>box_free hbx j
   clear c0 hbx f0 hg
   generalize us[k]=s at *
   rcases HM.out with hs | hs | hs | hs | hs | hs
   ·rw [hs,stepT] at HSt
    have hs':s=⟨#[84,97,114,103,101,116]⟩:=hs
    clear hs HM
    subst hs'
    go_wp2
    go_roundw
    case rel=>exact ⟨k+1,{o with target:=e.target},gA,gc,by omega,by go_num,HSt.out.symm,⟨HSp.out.ca,HSp.out.fi⟩,heap_setCell_same _ _ _ _ _ _ HBx.out,HG.out.andThen (grown_set _ _ _ _) (fun j h=>.inr (by rw [h]))⟩
    case measure=>simp [intOf];omega
   ·rw [hs,stepQ] at HSt
    have hs':s=⟨#[81,117,111,116,101]⟩:=hs
    clear hs HM
    subst hs'
    go_wp2
    go_roundw
    case rel=>exact ⟨k+1,{o with quote:=e.quote},gA,gc,by omega,by go_num,HSt.out.symm,⟨HSp.out.ca,HSp.out.fi⟩,heap_setCell_same _ _ _ _ _ _ HBx.out,HG.out.andThen (grown_set _ _ _ _) (fun j h=>.inr (by rw [h]))⟩
    case measure=>simp [intOf];omega
   ·rw [hs,stepW] at HSt
    have hs':s=⟨#[87,104,111]⟩:=hs
    clear hs HM
    subst hs'
    go_wp2
    go_roundw
    case rel=>exact ⟨k+1,{o with who:=e.who},gA,gc,by omega,by go_num,HSt.out.symm,⟨HSp.out.ca,HSp.out.fi⟩,heap_setCell_same _ _ _ _ _ _ HBx.out,HG.out.andThen (grown_set _ _ _ _) (fun j h=>.inr (by rw [h]))⟩
    case measure=>simp [intOf];omega
   ·rw [hs,stepN] at HSt
    have hs':s=⟨#[78]⟩:=hs
    clear hs HM
    subst hs'
    go_wp2
    go_roundw
    case rel=>exact ⟨k+1,{o with n:=e.n},gA,gc,by omega,by go_num,HSt.out.symm,⟨HSp.out.ca,HSp.out.fi⟩,heap_setCell_same _ _ _ _ _ _ HBx.out,HG.out.andThen (grown_set _ _ _ _) (fun j h=>.inr (by rw [h]))⟩
    case measure=>simp [intOf];omega
   ·rw [hs,stepX] at HSt
    have hs':s=⟨#[84,101,120,116]⟩:=hs
    clear hs HM
    subst hs'
    go_wp2
    go_roundw
    case rel=>exact ⟨k+1,{o with text:=e.text},gA,gc,by omega,by go_num,HSt.out.symm,⟨HSp.out.ca,HSp.out.fi⟩,heap_setCell_same _ _ _ _ _ _ HBx.out,HG.out.andThen (grown_set _ _ _ _) (fun j h=>.inr (by rw [h]))⟩
    case measure=>simp [intOf];omega
   ·rw [hs,stepF] at HSt
    have hs':s=⟨#[70,105,108,101,115]⟩:=hs
    clear hs HM
    subst hs'
    go_wp2
    go_roundw
    case rel=>exact ⟨k+1,{o with files:=e.files},fA,fc,by omega,by go_num,HSt.out.symm,⟨HSp.out.ca,.inr ⟨rfl,rfl,rfl⟩⟩,heap_setCell_same _ _ _ _ _ _ HBx.out,HG.out.andThen (grown_set _ _ _ _) (fun j h=>.inr (by rw [h]))⟩
    case measure=>simp [intOf];omega
  ·have hE:o=spareE e:=by rw [HO.out,List.take_of_length_le (by omega),HFold.out]
   have ht1:wr.there (w.heap.size+1) 0 12:=by
    have h1:=(hg.block (w.heap.size+1) (by omega) (by simp)).trans F1.out
    intro j hj
    rw [Nat.zero_add]
    refine ⟨?_,box_free h1 j⟩
    unfold World.cell?
    simp [h1,zeroE]
    omega
   have hrg:wr.rangeAt (w.heap.size+2) 0 (o.cs cA cc gA gc).toList:=fun j v hj=>by
    rw [Nat.zero_add]
    exact box_cell hbx j v (by rw [← Array.getElem?_toList];exact hj)
   have HT1:=hid ht1
   have HR2:=hid hrg
   have HE:=hid hE
   clear ht1 hrg hE hbx hg
   go_wp2_with (first
    | ((with_reducible show wpList _ _ _ (Oper.mk _ (Op.load 40 _) _ _ _ _::_) _ _);refine wpList_load_g rfl 40 (.tmp 3) rfl (w.heap.size+2) 0 rfl (o.cs cA cc gA gc).toList _ HR2.out Tryz.underlying40 rfl (by kernel_rfl) ?_)
    | ((with_reducible show wpList _ _ _ (Oper.mk _ (Op.store 40 _ _) _ _ _ _::_) _ _);refine wpList_store_box rfl 40 _ _ rfl (w.heap.size+1) (o.cs cA cc gA gc) rfl rfl HT1.out (by kernel_rfl) (evOne o cA cc gA gc) ?_;intro w2 hr2 ht2 hg2;have HR3:=hid hr2;have HG3:=hid hg2;clear hr2 ht2 hg2))
   refine ret_box 2 40 rfl (w.heap.size+1) _ _ rfl HR3.out Tryz.underlying40 rfl (by kernel_rfl) rfl ⟨?_,gA,gc,?_,?_⟩
   ·exact (HB1.out.grown HG.out (by omega) (fun k hk=>by injection hk with hk;omega)).grown HG3.out (by omega) (fun k hk=>by injection hk with hk;omega)
   ·rw [← HE.out]
   ·rw [← HE.out]
    rcases HSp.out.fi with ⟨h,_⟩ | ⟨h,h2,_⟩
    ·exact .inl h
    ·exact .inr ⟨h,h2⟩
end Go.Proofs.YtlnnjdibkbabiaaGreatDoor
