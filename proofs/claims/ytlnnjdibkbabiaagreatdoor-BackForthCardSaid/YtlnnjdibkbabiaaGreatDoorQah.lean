/- Contracts and plain laws, joined: WyA, WyB, EvB, EvC, EvD, TgE, TgG, StA. -/
import Derived.Test.YtlnnjdibkbabiaaGreatDoorRows
import Derived.Test.YtlnnjdibkbabiaaGreatDoorQag
import Derived.Test.YtlnnjdibkbabiaaGreatDoorQac
/- Contracts of words and lists of strings (layers 11 and 12,and package slices at []string). -/
set_option linter.unusedSimpArgs false
set_option linter.unusedVariables false
namespace Go.Proofs.YtlnnjdibkbabiaaGreatDoor
set_option maxHeartbeats 4000000
open _root_.Go.Lib (hid)
open Go.RowKit
def letterI (n:Int):Bool:=decide (97≤n) && decide (n≤122)
def digitI (n:Int):Bool:=decide (48≤n) && decide (n≤57)
def wordI (n:Int):Bool:=letterI n || digitI n
def wordC (c:UInt8):Bool:=wordI c.toNat
def wordL:List UInt8→Bool
 | []=>false
 | c::r=>letterI c.toNat && decide (r.length≤19) && (c::r).all wordC
def wordB (s:ByteArray):Bool:=wordL s.data.toList
theorem lexLetter_any (n:Int) (w:World):Calls Tryz.prog 121 #[.int .u8 n] w fun e w'=>e=.returned (.bool (letterI n))∧w=w':=by
 unfold letterI
 go_enter Tryz.func121,Tryz.ntmps121
 go_wp2
 all_goals go_ret
 all_goals exact ⟨by first | (simp_all;done) | (simp;omega) | (simp_all;omega),rfl⟩
theorem lexDigit_any (n:Int) (w:World):Calls Tryz.prog 124 #[.int .u8 n] w fun e w'=>e=.returned (.bool (digitI n))∧w=w':=by
 unfold digitI
 go_enter Tryz.func124,Tryz.ntmps124
 go_wp2
 all_goals go_ret
 all_goals exact ⟨by first | (simp_all;done) | (simp;omega) | (simp_all;omega),rfl⟩
theorem lexWord1_any (n:Int) (w:World):Calls Tryz.prog 123 #[.int .u8 n] w fun e w'=>e=.returned (.bool (wordI n))∧w=w':=by
 unfold wordI
 cases h:letterI n
 ·go_enter Tryz.func123,Tryz.ntmps123
  go_wp2_with (first | (go_at_call 121;refine (lexLetter_any _ _).mono ?_;rintro e w' ⟨rfl,rfl⟩) | (go_at_call 124;refine (lexDigit_any _ _).mono ?_;rintro e w' ⟨rfl,rfl⟩))
  go_ret
  exact ⟨by simp,rfl⟩
 ·go_enter Tryz.func123,Tryz.ntmps123
  go_wp2_with (first | (go_at_call 121;refine (lexLetter_any _ _).mono ?_;rintro e w' ⟨rfl,rfl⟩) | (go_at_call 124;refine (lexDigit_any _ _).mono ?_;rintro e w' ⟨rfl,rfl⟩))
  go_ret
  exact ⟨by simp,rfl⟩
theorem all_take_snoc (f:UInt8→Bool) (s:ByteArray) (k:Nat) (h:k<s.size):(s.data.toList.take (k+1)).all f=((s.data.toList.take k).all f && f s[k]):=by
 rw [List.take_succ_eq_append_getElem (by simpa using h),List.all_append]
 simp
 rfl
theorem takeWhile_at (f:UInt8→Bool) (l:List UInt8) (k:Nat) (h:(l.take k).all f=true) (hk:k≤l.length) (hn:∀ c,l[k]?=some c→f c=false):(l.takeWhile f).length=k:=by
 have e:l=l.take k++l.drop k:=(List.take_append_drop k l).symm
 rw [e,List.takeWhile_append_of_pos (fun a ha=>List.all_eq_true.1 h a ha),List.length_append,List.length_take,Nat.min_eq_left hk]
 rcases hd:l.drop k with _ | ⟨c,r⟩
 ·simp
 ·have hc:l[k]?=some c:=by
   have:(l.drop k)[0]?=some c:=by rw [hd];rfl
   rwa [List.getElem?_drop] at this
  rw [List.takeWhile_cons_of_neg (by rw [hn c hc];simp)]
  simp
theorem lexSpan_any (s:ByteArray) (K:FuncId) (f:Int→Bool) (w:World) (hs:s.size≤9223372036854775807)
  (hK:∀ (args:Array Value) (w:World),(callFunc K args).run Tryz.prog w=.ok (.enter K args) w)
  (hF:∀ (n:Int) (w:World),Calls Tryz.prog K #[.int .u8 n] w fun e w'=>e=.returned (.bool (f n))∧w=w') :
  Calls Tryz.prog 122 #[.string s,.func (.func K) #[] #[]] w fun e w'=>e=.returned (.int .i64 ((s.data.toList.takeWhile (fun c=>f c.toNat)).length:Nat))∧w=w':=by
 have HFF:=hid hF
 clear hF
 go_enter Tryz.func122,Tryz.ntmps122
 go_wp2
 go_loop [5] (fun i=>∃ k:Nat,k≤s.size∧i=.int .i64 k∧(s.data.toList.take k).all (fun c=>f c.toNat)=true) (fun i=>s.size - (intOf i).toNat)
 case atStart=>exact ⟨0,Nat.zero_le _,rfl,rfl⟩
 case round =>
  obtain ⟨k,hk,rfl,hf⟩:=hrel
  by_cases hlt:k<s.size
  ·have HA:=hid (all_take_snoc (fun c=>f c.toNat) s k hlt)
   have HF:=hid hf
   clear hf
   cases hv:f s[k].toNat
   ·go_wp2_with fail
    refine (HFF.out _ _).mono ?_
    rintro e w1 ⟨rfl,rfl⟩
    rw [hv]
    go_wp2
    go_ret
    have:=takeWhile_at (fun c=>f c.toNat) s.data.toList k HF.out (by simpa using hk) (fun c hc=>by
     obtain ⟨_,rfl⟩:=List.getElem?_eq_some_iff.1 hc
     exact hv)
    exact ⟨by rw [this];rfl,rfl⟩
   ·go_wp2_with fail
    refine (HFF.out _ _).mono ?_
    rintro e w1 ⟨rfl,rfl⟩
    rw [hv]
    go_wp2
    go_round
    case rel=>exact ⟨k+1,by omega,by go_num,by rw [HA.out,HF.out];simpa using hv⟩
    case measure=>simp [intOf];omega
  ·have hkk:k=s.size:=by omega
   have:=takeWhile_at (fun c=>f c.toNat) s.data.toList k hf (by simpa using hk) (fun c hc=>by
    have:=(List.getElem?_eq_some_iff.1 hc).1
    simp at this
    omega)
   have HT:=hid this
   clear this hkk hf
   go_wp2
   go_ret
   exact ⟨by rw [HT.out];rfl,rfl⟩
/- Contracts of words (layers 11 and 12). -/
theorem enters_lexWord1:∀ (args:Array Value) (w:World),(callFunc 123 args).run Tryz.prog w=.ok (.enter 123 args) w:=fun _ _=>by kernel_rfl
theorem size_toList (s:ByteArray):s.data.toList.length=s.size:=by rw [Array.length_toList];rfl
theorem wordB_eq (s:ByteArray) (h:0<s.size):wordB s=(letterI s[0].toNat && (decide (s.size≤20) && s.data.toList.all wordC)):=by
 unfold wordB
 have hl:=size_toList s
 rcases hd:s.data.toList with _ | ⟨c,r⟩
 ·rw [hd] at hl;simp at hl;omega
 ·have h0:s.data.toList[0]?=some c:=by rw [hd];rfl
  obtain ⟨_,hc⟩:=List.getElem?_eq_some_iff.1 h0
  have hc':s[0]=c:=hc
  rw [hd] at hl
  simp only [List.length_cons] at hl
  rw [wordL,hc',Bool.and_assoc]
  congr 2
  rw [Bool.eq_iff_iff]
  simp
  omega
theorem wordB_empty (s:ByteArray) (h:s.size=0):wordB s=false:=by
 have hl:=size_toList s
 rw [h] at hl
 unfold wordB
 rw [List.eq_nil_of_length_eq_zero hl]
 rfl
theorem takeWhile_all (f:UInt8→Bool) (l:List UInt8):decide ((l.takeWhile f).length=l.length)=l.all f:=by
 induction l with
 | nil=>rfl
 | cons c r ih =>
  by_cases h:f c=true
  ·rw [List.takeWhile_cons_of_pos h,List.all_cons,h,Bool.true_and,← ih]
   simp
  ·rw [List.takeWhile_cons_of_neg h,List.all_cons]
   simp [h]
theorem lexWord_any (s:ByteArray) (w:World) (hs:s.size≤9223372036854775807):Calls Tryz.prog 68 #[.string s] w fun e w'=>e=.returned (.bool (wordB s))∧w=w':=by
 by_cases h0:s.size=0
 ·have hw:=wordB_empty s h0
  have hl:=size_toList s
  rw [h0] at hl
  have he:s.toList=[]:=by rw [ByteArray.toList_eq];exact List.eq_nil_of_length_eq_zero hl
  rw [hw]
  clear hw h0 hl
  go_enter Tryz.func68,Tryz.ntmps68
  go_wp2
  go_ret
  exact ⟨rfl,rfl⟩
 ·have hp:0<s.size:=by omega
  have hw:=wordB_eq s hp
  have hl:=size_toList s
  have hne:¬ s.toList=[]:=by rw [ByteArray.toList_eq];intro h;rw [h] at hl;simp at hl;omega
  have hne2:s.toList.isEmpty=false:=by rw [List.isEmpty_eq_false_iff];exact hne
  have ht:=takeWhile_all wordC s.data.toList
  rw [hl] at ht
  have HW:=hid hw
  have HT:=hid ht
  clear hw h0 hl ht
  cases hv:letterI s[0].toNat
  ·go_enter Tryz.func68,Tryz.ntmps68
   go_wp2_with (first | (go_at_call 121;refine (lexLetter_any _ _).mono ?_;rintro e w' ⟨rfl,rfl⟩))
   go_ret
   exact ⟨by rw [HW.out,hv];rfl,rfl⟩
  ·by_cases h20:s.size≤20
   ·go_enter Tryz.func68,Tryz.ntmps68
    go_wp2_with (first | (go_at_call 121;refine (lexLetter_any _ _).mono ?_;rintro e w' ⟨rfl,rfl⟩) | (go_at_call 122;refine (lexSpan_any s 123 wordI _ hs enters_lexWord1 lexWord1_any).mono ?_;rintro e w' ⟨rfl,rfl⟩))
    go_ret
    refine ⟨?_,rfl⟩
    rw [HW.out,hv,← HT.out]
    refine ret_bool ?_
    rw [Bool.eq_iff_iff]
    simp [h20]
    exact Int.ofNat_inj
   ·go_enter Tryz.func68,Tryz.ntmps68
    go_wp2_with (first | (go_at_call 121;refine (lexLetter_any _ _).mono ?_;rintro e w' ⟨rfl,rfl⟩))
    go_ret
    exact ⟨by rw [HW.out,hv];simp [h20],rfl⟩
/- Lists of ints: contracts of slices.Index,Contains and Equal,and of linguaref10.Ints. -/
def intC (x:Int):List Value:=[.int .i64 x]
theorem intLayV:Lay 1 intC:=⟨fun _=>rfl,fun x u h=>by simp [intC] at h;subst h;rfl⟩
abbrev RdI:=RdL 1 intC
theorem RdI_at {w:World} {B:Nat} {A:Option Addr} {xs:List Int} {k:Nat} (h:RdI w B A xs) (hk:k<xs.length):∃ b off,A=some ⟨b,off,none⟩∧b<B∧w.cell? ⟨b,off+k,none⟩=some (.int .i64 xs[k]):=by
 obtain ⟨b,off,e,hb,hc⟩:=h.at_ hk
 have h0:=hc 0 _ rfl
 simp only [Nat.mul_one,Nat.add_zero] at h0
 exact ⟨b,off,e,hb,h0⟩
def idxI (x:Int) (xs:List Int):Int:=match xs.findIdx? (fun y=>x==y) with
 | some i=>(i:Int)
 | none=>-1
theorem idxI_hit (x:Int) (xs:List Int) (k:Nat) (hk:k<xs.length) (hn:∀ y∈xs.take k,(x==y)=false) (h:(x==xs[k])=true):idxI x xs=k:=by
 unfold idxI
 rw [List.findIdx?_eq_some_iff_getElem.2 ⟨hk,h,fun j hj=>?_⟩]
 have:=hn xs[j] (List.mem_take_iff_getElem.2 ⟨j,by omega,rfl⟩)
 simpa using this
theorem idxI_none (x:Int) (xs:List Int) (hn:∀ y∈xs,(x==y)=false):idxI x xs=-1:=by
 unfold idxI
 rw [List.findIdx?_eq_none_iff.2 hn]
theorem idxI_has (x:Int) (xs:List Int):decide (0≤idxI x xs)=decide (x∈xs):=by
 rcases h:xs.findIdx? (fun y=>x==y) with _ | i
 ·have hn:=List.findIdx?_eq_none_iff.1 h
  rw [idxI_none x xs hn]
  have:x ∉ xs:=fun hm=>by have:=hn x hm;simp at this
  simp [this]
 ·obtain ⟨hk,h1,_⟩:=List.findIdx?_eq_some_iff_getElem.1 h
  have e:idxI x xs=i:=by unfold idxI;rw [h]
  have hm:x∈xs:=by
   have:x=xs[i]:=by simpa using h1
   rw [this]
   exact List.getElem_mem hk
  rw [e]
  simp [hm]
theorem take_growV {T:Type} (P:T→Prop) (q:List T) (k:Nat) (hk:k<q.length) (h:∀ p∈q.take k,P p) (h1:P q[k]):∀ p∈q.take (k+1),P p:=by
 intro p hp
 rw [List.take_succ_eq_append_getElem hk,List.mem_append,List.mem_singleton] at hp
 rcases hp with hp | rfl
 ·exact h p hp
 ·exact h1
theorem intIdx_any (xs:List Int) (x:Int) (A:Option Addr) (n c:Nat) (w:World) (hn:n=xs.length) (hr:RdI w w.heap.size A xs) (hm:xs.length≤9223372036854775807) :
  Calls Tryz.prog 167 #[.slice A n c,.int .i64 x] w fun e w'=>e=.returned (.int .i64 (idxI x xs))∧w=w':=by
 subst hn
 go_enter Tryz.func167,Tryz.ntmps167
 go_wp2
 go_loopw [5,8] (fun _ i wr=>∃ k:Nat,k≤xs.length∧i=.int .i64 k∧(∀ y∈xs.take k,(x==y)=false)∧w=wr) (fun _ i _=>xs.length - (intOf i).toNat)
 case atStart=>exact ⟨0,Nat.zero_le _,rfl,fun p hp=>by simp at hp,rfl⟩
 case round =>
  obtain ⟨k,hk,rfl,hf,rfl⟩:=hrel
  have HF:=hid hf
  clear hf
  by_cases hlt:k<xs.length
  ·obtain ⟨b,off,rfl,hb,c0⟩:=RdI_at hr hlt
   have HHit:=hid (idxI_hit x xs k hlt HF.out)
   have HSt:=hid (take_growV (fun y=>(x==y)=false) xs k hlt HF.out)
   generalize xs[k]=y at *
   cases hv:(x==y)
   ·go_wp2
    go_roundw
    case rel=>exact ⟨k+1,by omega,by go_num,HSt.out hv,by first | rfl | trivial⟩
    case measure=>simp [intOf];omega
   ·go_wp2
    go_ret
    exact ⟨by rw [HHit.out hv];rfl,rfl⟩
  ·have HNo:=hid (idxI_none x xs (fun y hy=>HF.out y (by rw [List.take_of_length_le (by omega)];exact hy)))
   go_wp2
   go_ret
   exact ⟨by rw [HNo.out];rfl,rfl⟩
theorem intCont_any (xs:List Int) (x:Int) (A:Option Addr) (n c:Nat) (w:World) (hn:n=xs.length) (hr:RdI w w.heap.size A xs) (hm:xs.length≤9223372036854775807) :
  Calls Tryz.prog 143 #[.slice A n c,.int .i64 x] w fun e w'=>e=.returned (.bool (decide (x∈xs)))∧w=w':=by
 have HI:=hid (intIdx_any xs x A n c w hn hr hm)
 have HH:=hid (idxI_has x xs)
 clear hn hr hm
 go_enter Tryz.func143,Tryz.ntmps143
 go_wp2_with (go_at_call 167;refine HI.out.mono ?_;rintro e w' ⟨rfl,rfl⟩)
 go_ret
 exact ⟨ret_bool HH.out,rfl⟩
theorem eq_takeV {T:Type} (xs ys:List T) (k:Nat) (hk:k<xs.length) (hk2:k<ys.length) (h:xs.take k=ys.take k) (he:xs[k]=ys[k]):xs.take (k+1)=ys.take (k+1):=by
 rw [List.take_succ_eq_append_getElem hk,List.take_succ_eq_append_getElem hk2,h,he]
theorem ne_atV {T:Type} (xs ys:List T) (k:Nat) (hk:k<xs.length) (hk2:k<ys.length) (he:¬ xs[k]=ys[k]):¬ xs=ys:=fun h=>he (by subst h;rfl)
theorem intEq_any (xs ys:List Int) (A B:Option Addr) (n m c d:Nat) (w:World) (hn:n=xs.length) (hm:m=ys.length) (hr:RdI w w.heap.size A xs) (hs:RdI w w.heap.size B ys) (hx:xs.length≤9223372036854775807) (hy:ys.length≤9223372036854775807) :
  Calls Tryz.prog 86 #[.slice A n c,.slice B m d] w fun e w'=>e=.returned (.bool (decide (xs=ys)))∧Below w.heap.size w w':=by
 subst hn hm
 have HR:=hid hr
 have HS:=hid hs
 clear hr hs
 by_cases hl:xs.length=ys.length
 ·have hl2:((xs.length:Int) != ys.length)=false:=by simp [hl]
  go_enter Tryz.func86,Tryz.ntmps86
  have HL:=hid hl
  clear hl
  go_wp2
  go_loopw [5,13] (fun _ i wr=>∃ k:Nat,k≤xs.length∧i=.int .i64 k∧xs.take k=ys.take k∧Below w.heap.size w wr) (fun _ i _=>xs.length - (intOf i).toNat)
  case atStart=>exact ⟨0,Nat.zero_le _,rfl,by simp,Below.refl _ _⟩
  case round =>
   obtain ⟨k,hk,rfl,hf,hbw⟩:=hrel
   have HF:=hid hf
   have HB:=hid hbw
   clear hf
   by_cases hlt:k<xs.length
   ·have hlt2:k<ys.length:=by have:=HL.out;omega
    obtain ⟨b,off,hA,hb,c0⟩:=RdI_at (HR.out.now hbw) hlt
    obtain ⟨b2,off2,hA2,hb2,c1⟩:=RdI_at (HS.out.now hbw) hlt2
    subst hA hA2
    have HSt:=hid (eq_takeV xs ys k hlt hlt2 HF.out)
    have HNe:=hid (ne_atV xs ys k hlt hlt2)
    have hi0:(0:Int)≤(k:Int):=by omega
    have hi1:(k:Int)<(xs.length:Int):=by omega
    have hi2:(k:Int)<(ys.length:Int):=by omega
    clear hbw
    generalize xs[k]=x at *
    generalize ys[k]=y at *
    by_cases hv:x=y
    ·have hv2:(x != y)=false:=by simp [hv]
     have HV:=hid hv
     clear hv
     go_wp2_with fail
     go_quiet (fail)
     go_wp2
     go_roundw
     case rel=>exact ⟨k+1,by omega,by go_num,HSt.out HV.out,below_drewN HB.out _⟩
     case measure=>simp [intOf];omega
    ·have hv2:(x != y)=true:=by simp [hv]
     have HV:=hid (HNe.out hv)
     clear hv
     go_wp2_with fail
     go_quiet (fail)
     go_wp2
     go_ret
     exact ⟨ret_bool (decide_eq_false HV.out).symm,below_drewN HB.out _⟩
   ·have HE:Hid (xs=ys):=hid (by
     have h1:=HF.out
     have:=HL.out
     rwa [List.take_of_length_le (by omega),List.take_of_length_le (by omega)] at h1)
    go_wp2
    go_ret
    exact ⟨ret_bool (decide_eq_true HE.out).symm,HB.out⟩
 ·have hl2:((xs.length:Int) != ys.length)=true:=by simp;omega
  have hne:decide (xs=ys)=false:=decide_eq_false (fun h=>hl (by rw [h]))
  rw [hne]
  clear hne hl
  go_enter Tryz.func86,Tryz.ntmps86
  go_wp2
  go_ret
  exact ⟨rfl,Below.refl _ _⟩
theorem rInts_any (xs ys:List Int) (A B:Option Addr) (n m c d:Nat) (w:World) (hn:n=xs.length) (hm:m=ys.length) (hr:RdI w w.heap.size A xs) (hs:RdI w w.heap.size B ys) (hx:xs.length≤9223372036854775807) (hy:ys.length≤9223372036854775807) :
  Calls Tryz.prog 52 #[.slice A n c,.slice B m d] w fun e w'=>e=.returned (.bool (decide (xs=ys)))∧Below w.heap.size w w':=by
 subst hn hm
 have HR:=hid hr
 have HS:=hid hs
 clear hr hs
 by_cases hl:xs.length=ys.length
 ·have hl2:((xs.length:Int) != ys.length)=false:=by simp [hl]
  go_enter Tryz.func52,Tryz.ntmps52
  have HL:=hid hl
  clear hl
  go_wp2
  go_loopw [5] (fun  i wr=>∃ k:Nat,k≤xs.length∧i=.int .i64 k∧xs.take k=ys.take k∧Below w.heap.size w wr) (fun  i _=>xs.length - (intOf i).toNat)
  case atStart=>exact ⟨0,Nat.zero_le _,rfl,by simp,Below.refl _ _⟩
  case round =>
   obtain ⟨k,hk,rfl,hf,hbw⟩:=hrel
   have HF:=hid hf
   have HB:=hid hbw
   clear hf
   by_cases hlt:k<xs.length
   ·have hlt2:k<ys.length:=by have:=HL.out;omega
    obtain ⟨b,off,hA,hb,c0⟩:=RdI_at (HR.out.now hbw) hlt
    obtain ⟨b2,off2,hA2,hb2,c1⟩:=RdI_at (HS.out.now hbw) hlt2
    subst hA hA2
    have HSt:=hid (eq_takeV xs ys k hlt hlt2 HF.out)
    have HNe:=hid (ne_atV xs ys k hlt hlt2)
    have hi0:(0:Int)≤(k:Int):=by omega
    have hi1:(k:Int)<(xs.length:Int):=by omega
    have hi2:(k:Int)<(ys.length:Int):=by omega
    clear hbw
    generalize xs[k]=x at *
    generalize ys[k]=y at *
    by_cases hv:x=y
    ·have hv2:(x != y)=false:=by simp [hv]
     have HV:=hid hv
     clear hv
     go_wp2_with fail
     go_quiet (fail)
     go_wp2
     go_roundw
     case rel=>exact ⟨k+1,by omega,by go_num,HSt.out HV.out,below_drewN HB.out _⟩
     case measure=>simp [intOf];omega
    ·have hv2:(x != y)=true:=by simp [hv]
     have HV:=hid (HNe.out hv)
     clear hv
     go_wp2_with fail
     go_quiet (fail)
     go_wp2
     go_ret
     exact ⟨ret_bool (decide_eq_false HV.out).symm,below_drewN HB.out _⟩
   ·have HE:Hid (xs=ys):=hid (by
     have h1:=HF.out
     have:=HL.out
     rwa [List.take_of_length_le (by omega),List.take_of_length_le (by omega)] at h1)
    go_wp2
    go_ret
    exact ⟨ret_bool (decide_eq_true HE.out).symm,HB.out⟩
 ·have hl2:((xs.length:Int) != ys.length)=true:=by simp;omega
  have hne:decide (xs=ys)=false:=decide_eq_false (fun h=>hl (by rw [h]))
  rw [hne]
  clear hne hl
  go_enter Tryz.func52,Tryz.ntmps52
  go_wp2
  go_ret
  exact ⟨rfl,Below.refl _ _⟩
/- Contracts of below,maybe,Net,Uses,fields and files of package event (layer 14). -/
abbrev EvM.cs (e:EvM) (cA:Option Addr) (cc:Nat) (fA:Option Addr) (fc:Nat):Array Value :=
 #[.int .i64 e.author,.int .i64 e.seq,.slice cA e.causes.length cc,.int .i64 e.kind,.int .i64 e.group,.int .i64 e.target,.int .i64 e.quote,.int .i64 e.who,.int .i64 e.n,.string e.text,.slice fA e.files.length fc,.int .i64 e.step]
abbrev EvM.v (e:EvM) (cA:Option Addr) (cc:Nat) (fA:Option Addr) (fc:Nat):Value:=.agg (e.cs cA cc fA fc)
structure EvOk (w:World) (B:Nat) (cA fA:Option Addr) (e:EvM):Prop where
 ca:RdI w B cA e.causes
 fi:RdI w B fA e.files
 cl:e.causes.length≤9223372036854775807
 fl:e.files.length≤9223372036854775807
 tx:e.text.size≤9223372036854775807
theorem EvOk.now {w w':World} {cA fA:Option Addr} {e:EvM} (h:EvOk w w.heap.size cA fA e) (hb:Below w.heap.size w w'):EvOk w' w'.heap.size cA fA e:=⟨h.ca.now hb,h.fi.now hb,h.cl,h.fl,h.tx⟩
theorem evBelow_any (n m:Int) (w:World):Calls Tryz.prog 81 #[.int .i64 n,.int .i64 m] w fun e w'=>e=.returned (.bool (belowB n m))∧w=w':=by
 unfold belowB
 go_enter Tryz.func81,Tryz.ntmps81
 go_wp2
 all_goals go_ret
 all_goals exact ⟨by first | (simp_all;done) | (simp;omega) | (simp_all;omega),rfl⟩
theorem evMaybe_any (n m:Int) (w:World):Calls Tryz.prog 142 #[.int .i64 n,.int .i64 m] w fun e w'=>e=.returned (.bool (maybeB n m))∧w=w':=by
 cases hv:(n==-1)
 ·have h1:maybeB n m=belowB n m:=by unfold maybeB;rw [hv];rfl
  rw [h1]
  clear h1
  go_enter Tryz.func142,Tryz.ntmps142
  go_wp2_with (go_at_call 81;refine (evBelow_any _ _ _).mono ?_;rintro e w' ⟨rfl,rfl⟩)
  go_ret
  exact ⟨rfl,rfl⟩
 ·have h1:maybeB n m=true:=by unfold maybeB;rw [hv];rfl
  rw [h1]
  clear h1
  go_enter Tryz.func142,Tryz.ntmps142
  go_wp2
  go_ret
  exact ⟨rfl,rfl⟩
theorem evNet_any (n:Int) (w:World):Calls Tryz.prog 46 #[.int .i64 n] w fun e w'=>e=.returned (.int .i64 (netI n))∧w=w':=by
 cases hv:belowB n 2000
 ·have h1:netI n=-1:=by unfold netI;rw [hv];rfl
  rw [h1]
  clear h1
  go_enter Tryz.func46,Tryz.ntmps46
  go_wp2_with (go_at_call 81;refine (evBelow_any _ _ _).mono ?_;rw [hv];rintro e w' ⟨rfl,rfl⟩)
  go_ret
  exact ⟨rfl,rfl⟩
 ·have h1:netI n=n % 12:=by unfold netI;rw [hv];rfl
  have h0:0≤n:=by unfold belowB at hv;simp at hv;omega
  rw [h1]
  clear h1
  go_enter Tryz.func46,Tryz.ntmps46
  go_wp2_with (go_at_call 81;refine (evBelow_any _ _ _).mono ?_;rw [hv];rintro e w' ⟨rfl,rfl⟩)
  go_ret
  exact ⟨rfl,rfl⟩
def strC (s:ByteArray):List Value:=[.string s]
abbrev RdT:=RdL 1 strC
theorem strLay1:Lay 1 strC:=⟨fun _=>rfl,fun x u h=>by simp [strC] at h;subst h;rfl⟩
theorem RdL.lit {T:Type} {sz:Nat} {enc:T→List Value} (L:Lay sz enc) (w:World) (xs:List T) (cs:Array Value) (t:TypeId) (h:cs.toList=xs.flatMap enc):RdL sz enc (w.alloc (.cells cs t)) (w.alloc (.cells cs t)).heap.size (some ⟨w.heap.size,0,none⟩) xs:=by
 intro k x hx
 refine ⟨_,_,rfl,by simp,fun j v hj=>?_⟩
 have hg:=flat_get L xs k j x v hx hj
 rw [← h] at hg
 unfold World.cell?
 simp only [heap_alloc_new]
 simpa using hg
def UsesOut (k:Int) (w:World) (e:Ending) (w':World):Prop:=∃ A c,e=.returned (.slice A (usesL k).length c)∧RdT w' w'.heap.size A (usesL k)∧(∀ b o,A=some ⟨b,o,none⟩→w.heap.size≤b)∧Below w.heap.size w w'
theorem evUses_any (k:Int) (w:World):Calls Tryz.prog 48 #[.int .i64 k] w (UsesOut k w):=by
 by_cases hk:k=0
 ·have hL:usesL k=[sTarget,sQuote,sWho,sText,sFiles]:=by subst hk;rfl
  have HOut:Hid (∀ e w',(∃ A c,e=.returned (.slice A 5 c)∧RdT w' w'.heap.size A [sTarget,sQuote,sWho,sText,sFiles]∧(∀ b o,A=some ⟨b,o,none⟩→w.heap.size≤b)∧Below w.heap.size w w')→UsesOut k w e w'):=hid (fun e w' h=>by unfold UsesOut;rw [hL];exact h)
  clear hL
  obtain rfl:=hk.symm
  go_enter Tryz.func48,Tryz.ntmps48
  go_wp2
  go_ret
  exact HOut.out _ _ ⟨_,_,rfl,RdL.lit strLay1 _ _ _ _ rfl,fun b o h=>by injection h with h;injection h with h;omega,by repeat (first | with_reducible exact Below.refl _ _ | with_reducible assumption | with_reducible refine Below.drew ?_ | with_reducible refine Below.alloc ?_ (by first | omega | (simp;done) | (simp;omega)) _)⟩
 have n0:(k==0)=false:=by simpa using hk
 clear hk
 by_cases hk:k=1
 ·have hL:usesL k=[sTarget,sText,sFiles]:=by subst hk;rfl
  have HOut:Hid (∀ e w',(∃ A c,e=.returned (.slice A 3 c)∧RdT w' w'.heap.size A [sTarget,sText,sFiles]∧(∀ b o,A=some ⟨b,o,none⟩→w.heap.size≤b)∧Below w.heap.size w w')→UsesOut k w e w'):=hid (fun e w' h=>by unfold UsesOut;rw [hL];exact h)
  clear hL
  obtain rfl:=hk.symm
  go_enter Tryz.func48,Tryz.ntmps48
  go_wp2
  go_ret
  exact HOut.out _ _ ⟨_,_,rfl,RdL.lit strLay1 _ _ _ _ rfl,fun b o h=>by injection h with h;injection h with h;omega,by repeat (first | with_reducible exact Below.refl _ _ | with_reducible assumption | with_reducible refine Below.drew ?_ | with_reducible refine Below.alloc ?_ (by first | omega | (simp;done) | (simp;omega)) _)⟩
 have n1:(k==1)=false:=by simpa using hk
 clear hk
 by_cases hk:k=2
 ·have hL:usesL k=[sTarget]:=by subst hk;rfl
  have HOut:Hid (∀ e w',(∃ A c,e=.returned (.slice A 1 c)∧RdT w' w'.heap.size A [sTarget]∧(∀ b o,A=some ⟨b,o,none⟩→w.heap.size≤b)∧Below w.heap.size w w')→UsesOut k w e w'):=hid (fun e w' h=>by unfold UsesOut;rw [hL];exact h)
  clear hL
  obtain rfl:=hk.symm
  go_enter Tryz.func48,Tryz.ntmps48
  go_wp2
  go_ret
  exact HOut.out _ _ ⟨_,_,rfl,RdL.lit strLay1 _ _ _ _ rfl,fun b o h=>by injection h with h;injection h with h;omega,by repeat (first | with_reducible exact Below.refl _ _ | with_reducible assumption | with_reducible refine Below.drew ?_ | with_reducible refine Below.alloc ?_ (by first | omega | (simp;done) | (simp;omega)) _)⟩
 have n2:(k==2)=false:=by simpa using hk
 clear hk
 by_cases hk:k=3
 ·have hL:usesL k=[sTarget,sN]:=by subst hk;rfl
  have HOut:Hid (∀ e w',(∃ A c,e=.returned (.slice A 2 c)∧RdT w' w'.heap.size A [sTarget,sN]∧(∀ b o,A=some ⟨b,o,none⟩→w.heap.size≤b)∧Below w.heap.size w w')→UsesOut k w e w'):=hid (fun e w' h=>by unfold UsesOut;rw [hL];exact h)
  clear hL
  obtain rfl:=hk.symm
  go_enter Tryz.func48,Tryz.ntmps48
  go_wp2
  go_ret
  exact HOut.out _ _ ⟨_,_,rfl,RdL.lit strLay1 _ _ _ _ rfl,fun b o h=>by injection h with h;injection h with h;omega,by repeat (first | with_reducible exact Below.refl _ _ | with_reducible assumption | with_reducible refine Below.drew ?_ | with_reducible refine Below.alloc ?_ (by first | omega | (simp;done) | (simp;omega)) _)⟩
 have n3:(k==3)=false:=by simpa using hk
 clear hk
 by_cases hk:k=4
 ·have hL:usesL k=[sTarget,sN]:=by subst hk;rfl
  have HOut:Hid (∀ e w',(∃ A c,e=.returned (.slice A 2 c)∧RdT w' w'.heap.size A [sTarget,sN]∧(∀ b o,A=some ⟨b,o,none⟩→w.heap.size≤b)∧Below w.heap.size w w')→UsesOut k w e w'):=hid (fun e w' h=>by unfold UsesOut;rw [hL];exact h)
  clear hL
  obtain rfl:=hk.symm
  go_enter Tryz.func48,Tryz.ntmps48
  go_wp2
  go_ret
  exact HOut.out _ _ ⟨_,_,rfl,RdL.lit strLay1 _ _ _ _ rfl,fun b o h=>by injection h with h;injection h with h;omega,by repeat (first | with_reducible exact Below.refl _ _ | with_reducible assumption | with_reducible refine Below.drew ?_ | with_reducible refine Below.alloc ?_ (by first | omega | (simp;done) | (simp;omega)) _)⟩
 have n4:(k==4)=false:=by simpa using hk
 clear hk
 by_cases hk:k=5
 ·have hL:usesL k=[sWho]:=by subst hk;rfl
  have HOut:Hid (∀ e w',(∃ A c,e=.returned (.slice A 1 c)∧RdT w' w'.heap.size A [sWho]∧(∀ b o,A=some ⟨b,o,none⟩→w.heap.size≤b)∧Below w.heap.size w w')→UsesOut k w e w'):=hid (fun e w' h=>by unfold UsesOut;rw [hL];exact h)
  clear hL
  obtain rfl:=hk.symm
  go_enter Tryz.func48,Tryz.ntmps48
  go_wp2
  go_ret
  exact HOut.out _ _ ⟨_,_,rfl,RdL.lit strLay1 _ _ _ _ rfl,fun b o h=>by injection h with h;injection h with h;omega,by repeat (first | with_reducible exact Below.refl _ _ | with_reducible assumption | with_reducible refine Below.drew ?_ | with_reducible refine Below.alloc ?_ (by first | omega | (simp;done) | (simp;omega)) _)⟩
 have n5:(k==5)=false:=by simpa using hk
 clear hk
 by_cases hk:k=7
 ·have hL:usesL k=[sWho]:=by subst hk;rfl
  have HOut:Hid (∀ e w',(∃ A c,e=.returned (.slice A 1 c)∧RdT w' w'.heap.size A [sWho]∧(∀ b o,A=some ⟨b,o,none⟩→w.heap.size≤b)∧Below w.heap.size w w')→UsesOut k w e w'):=hid (fun e w' h=>by unfold UsesOut;rw [hL];exact h)
  clear hL
  obtain rfl:=hk.symm
  go_enter Tryz.func48,Tryz.ntmps48
  go_wp2
  go_ret
  exact HOut.out _ _ ⟨_,_,rfl,RdL.lit strLay1 _ _ _ _ rfl,fun b o h=>by injection h with h;injection h with h;omega,by repeat (first | with_reducible exact Below.refl _ _ | with_reducible assumption | with_reducible refine Below.drew ?_ | with_reducible refine Below.alloc ?_ (by first | omega | (simp;done) | (simp;omega)) _)⟩
 have n7:(k==7)=false:=by simpa using hk
 clear hk
 by_cases hk:k=9
 ·have hL:usesL k=[sWho,sN]:=by subst hk;rfl
  have HOut:Hid (∀ e w',(∃ A c,e=.returned (.slice A 2 c)∧RdT w' w'.heap.size A [sWho,sN]∧(∀ b o,A=some ⟨b,o,none⟩→w.heap.size≤b)∧Below w.heap.size w w')→UsesOut k w e w'):=hid (fun e w' h=>by unfold UsesOut;rw [hL];exact h)
  clear hL
  obtain rfl:=hk.symm
  go_enter Tryz.func48,Tryz.ntmps48
  go_wp2
  go_ret
  exact HOut.out _ _ ⟨_,_,rfl,RdL.lit strLay1 _ _ _ _ rfl,fun b o h=>by injection h with h;injection h with h;omega,by repeat (first | with_reducible exact Below.refl _ _ | with_reducible assumption | with_reducible refine Below.drew ?_ | with_reducible refine Below.alloc ?_ (by first | omega | (simp;done) | (simp;omega)) _)⟩
 have n9:(k==9)=false:=by simpa using hk
 have hL:usesL k=[]:=by
  unfold usesL
  simp_all
 have HOut:Hid (∀ e w',(∃ A c,e=.returned (.slice A 0 c)∧RdT w' w'.heap.size A []∧(∀ b o,A=some ⟨b,o,none⟩→w.heap.size≤b)∧Below w.heap.size w w')→UsesOut k w e w'):=hid (fun e w' h=>by unfold UsesOut;rw [hL];exact h)
 clear hL hk
 go_enter Tryz.func48,Tryz.ntmps48
 go_wp2
 go_ret
 exact HOut.out _ _ ⟨none,0,rfl,RdL.nil_,(fun b o h=>by cases h),Below.refl _ _⟩
theorem kind_cases (k:Int):k=0∨k=1∨k=2∨k=3∨k=4∨k=5∨k=7∨k=9∨(k≠0∧k≠1∧k≠2∧k≠3∧k≠4∧k≠5∧k≠7∧k≠9):=by omega
set_option maxRecDepth 100000 in
theorem evFields_any (e:EvM) (cA:Option Addr) (cc:Nat) (fA:Option Addr) (fc:Nat) (w:World):Calls Tryz.prog 83 #[e.v cA cc fA fc] w fun en w'=>en=.returned (.bool (fieldsB e))∧Below w.heap.size w w':=by
 have HB:=hid ((Below.refl w.heap.size w).alloc (Nat.le_refl _) (.cells (e.cs cA cc fA fc) 40))
 rcases kind_cases e.kind with h | h | h | h | h | h | h | h | h
 ·have HF:Hid (fieldsB e=(maybeB e.target 100000 && (maybeB e.quote 100000 && maybeB e.who 2000))):=hid (by unfold fieldsB;simp [h])
  have k0:(e.kind==0)=true:=by simp [h]
  clear h
  go_enter Tryz.func83,Tryz.ntmps83
  cases h1:maybeB e.target 100000
  ·skip
   go_wp2_with (first
    | (go_at_call 142;refine (evMaybe_any _ _ _).mono ?_;rintro en w' ⟨rfl,rfl⟩;try simp only [h1])
    | (go_at_call 81;refine (evBelow_any _ _ _).mono ?_;rintro en w' ⟨rfl,rfl⟩;try simp only [h1]))
   go_ret
   exact ⟨ret_bool (by rw [HF.out];simp [h1]),HB.out⟩
  ·cases h2:maybeB e.quote 100000
   ·skip
    go_wp2_with (first
     | (go_at_call 142;refine (evMaybe_any _ _ _).mono ?_;rintro en w' ⟨rfl,rfl⟩;try simp only [h1,h2])
     | (go_at_call 81;refine (evBelow_any _ _ _).mono ?_;rintro en w' ⟨rfl,rfl⟩;try simp only [h1,h2]))
    go_ret
    exact ⟨ret_bool (by rw [HF.out];simp [h1,h2]),HB.out⟩
   ·cases h3:maybeB e.who 2000
    ·skip
     go_wp2_with (first
      | (go_at_call 142;refine (evMaybe_any _ _ _).mono ?_;rintro en w' ⟨rfl,rfl⟩;try simp only [h1,h2,h3])
      | (go_at_call 81;refine (evBelow_any _ _ _).mono ?_;rintro en w' ⟨rfl,rfl⟩;try simp only [h1,h2,h3]))
     go_ret
     exact ⟨ret_bool (by rw [HF.out];simp [h1,h2,h3]),HB.out⟩
    ·skip
     go_wp2_with (first
      | (go_at_call 142;refine (evMaybe_any _ _ _).mono ?_;rintro en w' ⟨rfl,rfl⟩;try simp only [h1,h2,h3])
      | (go_at_call 81;refine (evBelow_any _ _ _).mono ?_;rintro en w' ⟨rfl,rfl⟩;try simp only [h1,h2,h3]))
     go_ret
     exact ⟨ret_bool (by rw [HF.out];simp [h1,h2,h3]),HB.out⟩
 ·have HF:Hid (fieldsB e=belowB e.target 100000):=hid (by unfold fieldsB;simp [h])
  have k0:(e.kind==0)=false:=by simp [h]
  have k1:(e.kind==1)=true:=by simp [h]
  clear h
  go_enter Tryz.func83,Tryz.ntmps83
  cases h1:belowB e.target 100000
  ·skip
   go_wp2_with (first
    | (go_at_call 142;refine (evMaybe_any _ _ _).mono ?_;rintro en w' ⟨rfl,rfl⟩;try simp only [h1])
    | (go_at_call 81;refine (evBelow_any _ _ _).mono ?_;rintro en w' ⟨rfl,rfl⟩;try simp only [h1]))
   go_ret
   exact ⟨ret_bool (by rw [HF.out];simp [h1]),HB.out⟩
  ·skip
   go_wp2_with (first
    | (go_at_call 142;refine (evMaybe_any _ _ _).mono ?_;rintro en w' ⟨rfl,rfl⟩;try simp only [h1])
    | (go_at_call 81;refine (evBelow_any _ _ _).mono ?_;rintro en w' ⟨rfl,rfl⟩;try simp only [h1]))
   go_ret
   exact ⟨ret_bool (by rw [HF.out];simp [h1]),HB.out⟩
 ·have HF:Hid (fieldsB e=belowB e.target 100000):=hid (by unfold fieldsB;simp [h])
  have k0:(e.kind==0)=false:=by simp [h]
  have k1:(e.kind==1)=false:=by simp [h]
  have k2:(e.kind==2)=true:=by simp [h]
  clear h
  go_enter Tryz.func83,Tryz.ntmps83
  cases h1:belowB e.target 100000
  ·skip
   go_wp2_with (first
    | (go_at_call 142;refine (evMaybe_any _ _ _).mono ?_;rintro en w' ⟨rfl,rfl⟩;try simp only [h1])
    | (go_at_call 81;refine (evBelow_any _ _ _).mono ?_;rintro en w' ⟨rfl,rfl⟩;try simp only [h1]))
   go_ret
   exact ⟨ret_bool (by rw [HF.out];simp [h1]),HB.out⟩
  ·skip
   go_wp2_with (first
    | (go_at_call 142;refine (evMaybe_any _ _ _).mono ?_;rintro en w' ⟨rfl,rfl⟩;try simp only [h1])
    | (go_at_call 81;refine (evBelow_any _ _ _).mono ?_;rintro en w' ⟨rfl,rfl⟩;try simp only [h1]))
   go_ret
   exact ⟨ret_bool (by rw [HF.out];simp [h1]),HB.out⟩
 ·have HF:Hid (fieldsB e=(belowB e.target 100000 && (decide (1≤e.n) && decide (e.n≤100)))):=hid (by unfold fieldsB;simp [h])
  have k0:(e.kind==0)=false:=by simp [h]
  have k1:(e.kind==1)=false:=by simp [h]
  have k2:(e.kind==2)=false:=by simp [h]
  have k3:(e.kind==3)=true:=by simp [h]
  clear h
  go_enter Tryz.func83,Tryz.ntmps83
  cases h1:belowB e.target 100000
  ·skip
   go_wp2_with (first
    | (go_at_call 142;refine (evMaybe_any _ _ _).mono ?_;rintro en w' ⟨rfl,rfl⟩;try simp only [h1])
    | (go_at_call 81;refine (evBelow_any _ _ _).mono ?_;rintro en w' ⟨rfl,rfl⟩;try simp only [h1]))
   go_ret
   exact ⟨ret_bool (by rw [HF.out];simp [h1]),HB.out⟩
  ·by_cases h2:1≤e.n
   ·by_cases h3:e.n≤100
    ·skip
     go_wp2_with (first
      | (go_at_call 142;refine (evMaybe_any _ _ _).mono ?_;rintro en w' ⟨rfl,rfl⟩;try simp only [h1,h2,h3])
      | (go_at_call 81;refine (evBelow_any _ _ _).mono ?_;rintro en w' ⟨rfl,rfl⟩;try simp only [h1,h2,h3]))
     go_ret
     exact ⟨ret_bool (by rw [HF.out];simp [h1,h2,h3]),HB.out⟩
    ·have d3:decide (e.n≤100)=false:=by simpa using h3
     go_wp2_with (first
      | (go_at_call 142;refine (evMaybe_any _ _ _).mono ?_;rintro en w' ⟨rfl,rfl⟩;try simp only [h1,h2,d3])
      | (go_at_call 81;refine (evBelow_any _ _ _).mono ?_;rintro en w' ⟨rfl,rfl⟩;try simp only [h1,h2,d3]))
     go_ret
     exact ⟨ret_bool (by rw [HF.out];simp [h1,h2,d3]),HB.out⟩
   ·have d2:decide (1≤e.n)=false:=by simpa using h2
    go_wp2_with (first
     | (go_at_call 142;refine (evMaybe_any _ _ _).mono ?_;rintro en w' ⟨rfl,rfl⟩;try simp only [h1,d2])
     | (go_at_call 81;refine (evBelow_any _ _ _).mono ?_;rintro en w' ⟨rfl,rfl⟩;try simp only [h1,d2]))
    go_ret
    exact ⟨ret_bool (by rw [HF.out];simp [h1,d2]),HB.out⟩
 ·have HF:Hid (fieldsB e=(belowB e.target 100000 && (decide (1≤e.n) && decide (e.n≤100)))):=hid (by unfold fieldsB;simp [h])
  have k0:(e.kind==0)=false:=by simp [h]
  have k1:(e.kind==1)=false:=by simp [h]
  have k2:(e.kind==2)=false:=by simp [h]
  have k3:(e.kind==3)=false:=by simp [h]
  have k4:(e.kind==4)=true:=by simp [h]
  clear h
  go_enter Tryz.func83,Tryz.ntmps83
  cases h1:belowB e.target 100000
  ·skip
   go_wp2_with (first
    | (go_at_call 142;refine (evMaybe_any _ _ _).mono ?_;rintro en w' ⟨rfl,rfl⟩;try simp only [h1])
    | (go_at_call 81;refine (evBelow_any _ _ _).mono ?_;rintro en w' ⟨rfl,rfl⟩;try simp only [h1]))
   go_ret
   exact ⟨ret_bool (by rw [HF.out];simp [h1]),HB.out⟩
  ·by_cases h2:1≤e.n
   ·by_cases h3:e.n≤100
    ·skip
     go_wp2_with (first
      | (go_at_call 142;refine (evMaybe_any _ _ _).mono ?_;rintro en w' ⟨rfl,rfl⟩;try simp only [h1,h2,h3])
      | (go_at_call 81;refine (evBelow_any _ _ _).mono ?_;rintro en w' ⟨rfl,rfl⟩;try simp only [h1,h2,h3]))
     go_ret
     exact ⟨ret_bool (by rw [HF.out];simp [h1,h2,h3]),HB.out⟩
    ·have d3:decide (e.n≤100)=false:=by simpa using h3
     go_wp2_with (first
      | (go_at_call 142;refine (evMaybe_any _ _ _).mono ?_;rintro en w' ⟨rfl,rfl⟩;try simp only [h1,h2,d3])
      | (go_at_call 81;refine (evBelow_any _ _ _).mono ?_;rintro en w' ⟨rfl,rfl⟩;try simp only [h1,h2,d3]))
     go_ret
     exact ⟨ret_bool (by rw [HF.out];simp [h1,h2,d3]),HB.out⟩
   ·have d2:decide (1≤e.n)=false:=by simpa using h2
    go_wp2_with (first
     | (go_at_call 142;refine (evMaybe_any _ _ _).mono ?_;rintro en w' ⟨rfl,rfl⟩;try simp only [h1,d2])
     | (go_at_call 81;refine (evBelow_any _ _ _).mono ?_;rintro en w' ⟨rfl,rfl⟩;try simp only [h1,d2]))
    go_ret
    exact ⟨ret_bool (by rw [HF.out];simp [h1,d2]),HB.out⟩
 ·have HF:Hid (fieldsB e=belowB e.who 2000):=hid (by unfold fieldsB;simp [h])
  have k0:(e.kind==0)=false:=by simp [h]
  have k1:(e.kind==1)=false:=by simp [h]
  have k2:(e.kind==2)=false:=by simp [h]
  have k3:(e.kind==3)=false:=by simp [h]
  have k4:(e.kind==4)=false:=by simp [h]
  have k5:(e.kind==5)=true:=by simp [h]
  clear h
  go_enter Tryz.func83,Tryz.ntmps83
  cases h1:belowB e.who 2000
  ·skip
   go_wp2_with (first
    | (go_at_call 142;refine (evMaybe_any _ _ _).mono ?_;rintro en w' ⟨rfl,rfl⟩;try simp only [h1])
    | (go_at_call 81;refine (evBelow_any _ _ _).mono ?_;rintro en w' ⟨rfl,rfl⟩;try simp only [h1]))
   go_ret
   exact ⟨ret_bool (by rw [HF.out];simp [h1]),HB.out⟩
  ·skip
   go_wp2_with (first
    | (go_at_call 142;refine (evMaybe_any _ _ _).mono ?_;rintro en w' ⟨rfl,rfl⟩;try simp only [h1])
    | (go_at_call 81;refine (evBelow_any _ _ _).mono ?_;rintro en w' ⟨rfl,rfl⟩;try simp only [h1]))
   go_ret
   exact ⟨ret_bool (by rw [HF.out];simp [h1]),HB.out⟩
 ·have HF:Hid (fieldsB e=belowB e.who 2000):=hid (by unfold fieldsB;simp [h])
  have k0:(e.kind==0)=false:=by simp [h]
  have k1:(e.kind==1)=false:=by simp [h]
  have k2:(e.kind==2)=false:=by simp [h]
  have k3:(e.kind==3)=false:=by simp [h]
  have k4:(e.kind==4)=false:=by simp [h]
  have k5:(e.kind==5)=false:=by simp [h]
  have k7:(e.kind==7)=true:=by simp [h]
  clear h
  go_enter Tryz.func83,Tryz.ntmps83
  cases h1:belowB e.who 2000
  ·skip
   go_wp2_with (first
    | (go_at_call 142;refine (evMaybe_any _ _ _).mono ?_;rintro en w' ⟨rfl,rfl⟩;try simp only [h1])
    | (go_at_call 81;refine (evBelow_any _ _ _).mono ?_;rintro en w' ⟨rfl,rfl⟩;try simp only [h1]))
   go_ret
   exact ⟨ret_bool (by rw [HF.out];simp [h1]),HB.out⟩
  ·skip
   go_wp2_with (first
    | (go_at_call 142;refine (evMaybe_any _ _ _).mono ?_;rintro en w' ⟨rfl,rfl⟩;try simp only [h1])
    | (go_at_call 81;refine (evBelow_any _ _ _).mono ?_;rintro en w' ⟨rfl,rfl⟩;try simp only [h1]))
   go_ret
   exact ⟨ret_bool (by rw [HF.out];simp [h1]),HB.out⟩
 ·have HF:Hid (fieldsB e=(belowB e.who 2000 && belowB e.n 16)):=hid (by unfold fieldsB;simp [h])
  have k0:(e.kind==0)=false:=by simp [h]
  have k1:(e.kind==1)=false:=by simp [h]
  have k2:(e.kind==2)=false:=by simp [h]
  have k3:(e.kind==3)=false:=by simp [h]
  have k4:(e.kind==4)=false:=by simp [h]
  have k5:(e.kind==5)=false:=by simp [h]
  have k7:(e.kind==7)=false:=by simp [h]
  have k9:(e.kind==9)=true:=by simp [h]
  clear h
  go_enter Tryz.func83,Tryz.ntmps83
  cases h1:belowB e.who 2000
  ·skip
   go_wp2_with (first
    | (go_at_call 142;refine (evMaybe_any _ _ _).mono ?_;rintro en w' ⟨rfl,rfl⟩;try simp only [h1])
    | (go_at_call 81;refine (evBelow_any _ _ _).mono ?_;rintro en w' ⟨rfl,rfl⟩;try simp only [h1]))
   go_ret
   exact ⟨ret_bool (by rw [HF.out];simp [h1]),HB.out⟩
  ·cases h2:belowB e.n 16
   ·skip
    go_wp2_with (first
     | (go_at_call 142;refine (evMaybe_any _ _ _).mono ?_;rintro en w' ⟨rfl,rfl⟩;try simp only [h1,h2])
     | (go_at_call 81;refine (evBelow_any _ _ _).mono ?_;rintro en w' ⟨rfl,rfl⟩;try simp only [h1,h2]))
    go_ret
    exact ⟨ret_bool (by rw [HF.out];simp [h1,h2]),HB.out⟩
   ·skip
    go_wp2_with (first
     | (go_at_call 142;refine (evMaybe_any _ _ _).mono ?_;rintro en w' ⟨rfl,rfl⟩;try simp only [h1,h2])
     | (go_at_call 81;refine (evBelow_any _ _ _).mono ?_;rintro en w' ⟨rfl,rfl⟩;try simp only [h1,h2]))
    go_ret
    exact ⟨ret_bool (by rw [HF.out];simp [h1,h2]),HB.out⟩
 ·obtain ⟨a0,a1,a2,a3,a4,a5,a7,a9⟩:=h
  have HF:Hid (fieldsB e=((e.kind==6) || (e.kind==8))):=hid (by unfold fieldsB;simp [a0,a1,a2,a3,a4,a5,a7,a9])
  have k0:(e.kind==0)=false:=by simp [a0]
  have k1:(e.kind==1)=false:=by simp [a1]
  have k2:(e.kind==2)=false:=by simp [a2]
  have k3:(e.kind==3)=false:=by simp [a3]
  have k4:(e.kind==4)=false:=by simp [a4]
  have k5:(e.kind==5)=false:=by simp [a5]
  have k7:(e.kind==7)=false:=by simp [a7]
  have k9:(e.kind==9)=false:=by simp [a9]
  clear a0 a1 a2 a3 a4 a5 a7 a9
  go_enter Tryz.func83,Tryz.ntmps83
  cases k6:(e.kind==6)
  ·cases k8:(e.kind==8)
   ·skip
    go_wp2_with (first
     | (go_at_call 142;refine (evMaybe_any _ _ _).mono ?_;rintro en w' ⟨rfl,rfl⟩;try simp only [k6,k8])
     | (go_at_call 81;refine (evBelow_any _ _ _).mono ?_;rintro en w' ⟨rfl,rfl⟩;try simp only [k6,k8]))
    go_ret
    exact ⟨ret_bool (by rw [HF.out];simp [k6,k8]),HB.out⟩
   ·skip
    go_wp2_with (first
     | (go_at_call 142;refine (evMaybe_any _ _ _).mono ?_;rintro en w' ⟨rfl,rfl⟩;try simp only [k6,k8])
     | (go_at_call 81;refine (evBelow_any _ _ _).mono ?_;rintro en w' ⟨rfl,rfl⟩;try simp only [k6,k8]))
    go_ret
    exact ⟨ret_bool (by rw [HF.out];simp [k6,k8]),HB.out⟩
  ·skip
   go_wp2_with (first
    | (go_at_call 142;refine (evMaybe_any _ _ _).mono ?_;rintro en w' ⟨rfl,rfl⟩;try simp only [k6])
    | (go_at_call 81;refine (evBelow_any _ _ _).mono ?_;rintro en w' ⟨rfl,rfl⟩;try simp only [k6]))
   go_ret
   exact ⟨ret_bool (by rw [HF.out];simp [k6]),HB.out⟩
/-! files -/
theorem filesGo_step (l:List Int) (k:Nat) (hk:k<l.length):filesGo (l.take k) (l.drop k)=(belowB l[k] 1073741825 && (!decide (l[k]∈l.take k) && filesGo (l.take (k+1)) (l.drop (k+1)))):=by
 rw [List.drop_eq_getElem_cons hk,filesGo,List.take_succ_eq_append_getElem hk]
theorem RdL.takeI {T:Type} {sz:Nat} {enc:T→List Value} {w:World} {B:Nat} {A:Option Addr} {xs:List T} (h:RdL sz enc w B A xs) (n:Nat):RdL sz enc w B A (xs.take n):=fun k x hx=>h k x (by
 rw [List.getElem?_take] at hx
 split at hx
 ·exact hx
 ·cases hx)
theorem evFiles_any (l:List Int) (A:Option Addr) (n c:Nat) (w:World) (hn:n=l.length) (hr:RdI w w.heap.size A l) (hm:l.length≤9223372036854775807) (hc:l.length≤c) :
  Calls Tryz.prog 84 #[.slice A n c] w fun e w'=>e=.returned (.bool (filesB l))∧w=w':=by
 subst hn
 go_enter Tryz.func84,Tryz.ntmps84
 go_wp2
 go_loopw [3,4,7] (fun _ _ i wr=>∃ k:Nat,k≤l.length∧i=.int .i64 k∧filesGo (l.take k) (l.drop k)=filesGo [] l∧w=wr) (fun _ _ i _=>l.length - (intOf i).toNat)
 case atStart=>exact ⟨0,Nat.zero_le _,rfl,rfl,rfl⟩
 case round =>
  obtain ⟨k,hk,rfl,hf,rfl⟩:=hrel
  have HF:=hid hf
  clear hf
  by_cases hlt:k<l.length
  ·obtain ⟨b,off,rfl,hb,c0⟩:=RdI_at hr hlt
   have HSt:=hid (filesGo_step l k hlt)
   have HC:=hid (intCont_any (l.take k) l[k] (some ⟨b,off,none⟩) k c w (by rw [List.length_take];omega) (hr.takeI k) (by rw [List.length_take];omega))
   generalize l[k]=x at *
   cases h1:belowB x 1073741825
   ·have HFa:Hid (filesB l=false):=hid (by unfold filesB;rw [← HF.out,HSt.out,h1];rfl)
    go_wp2_with (go_at_call 81;refine (evBelow_any _ _ _).mono ?_;rw [h1];rintro e w' ⟨rfl,rfl⟩)
    go_ret
    exact ⟨by rw [HFa.out];rfl,rfl⟩
   ·cases h2:decide (x∈l.take k)
    ·rw [h2] at HC
     have HFa:Hid (filesGo (l.take (k+1)) (l.drop (k+1))=filesGo [] l):=hid (by rw [← HF.out,HSt.out,h1,h2];rfl)
     go_wp2_with (first | (go_at_call 81;refine (evBelow_any _ _ _).mono ?_;rw [h1];rintro e w' ⟨rfl,rfl⟩) | (go_at_call 143;refine HC.out.mono ?_;rintro e w' ⟨rfl,rfl⟩))
     go_roundw
     case rel=>exact ⟨k+1,by omega,by go_num,HFa.out,by first | rfl | trivial⟩
     case measure=>simp [intOf];omega
    ·rw [h2] at HC
     have HFa:Hid (filesB l=false):=hid (by unfold filesB;rw [← HF.out,HSt.out,h1,h2];rfl)
     go_wp2_with (first | (go_at_call 81;refine (evBelow_any _ _ _).mono ?_;rw [h1];rintro e w' ⟨rfl,rfl⟩) | (go_at_call 143;refine HC.out.mono ?_;rintro e w' ⟨rfl,rfl⟩))
     go_ret
     exact ⟨by rw [HFa.out];rfl,rfl⟩
  ·have HFa:Hid (filesB l=decide (l.length≤4)):=hid (by
    have h:=HF.out
    rw [List.drop_eq_nil_of_le (by omega)] at h
    unfold filesB
    rw [← h]
    rfl)
   go_wp2
   go_ret
   exact ⟨ret_bool (by rw [HFa.out];simp;omega),rfl⟩
/- Contracts of event.Same and of linguaref14.Same (written by gensame.py). -/
theorem toList_inj {s t:ByteArray} (h:s.toList=t.toList):s=t:=by
 rw [ByteArray.toList_eq,ByteArray.toList_eq] at h
 exact ByteArray.ext (Array.toList_inj.1 h)
theorem str_eqB (s t:ByteArray):decide (s=t)=(s.toList==t.toList):=by
 by_cases h:s=t
 ·subst h
  simp
 ·have:¬ s.toList=t.toList:=fun e=>h (toList_inj e)
  simp [h,this]
set_option maxRecDepth 100000 in
theorem evSame_any (a b:EvM) (cA:Option Addr) (cc:Nat) (fA:Option Addr) (fc:Nat) (dA:Option Addr) (dc:Nat) (gA:Option Addr) (gc:Nat) (w:World) (ha:EvOk w w.heap.size cA fA a) (hb:EvOk w w.heap.size dA gA b) :
  Calls Tryz.prog 59 #[a.v cA cc fA fc,b.v dA dc gA gc] w fun e w'=>e=.returned (.bool (sameE a b))∧Below w.heap.size w w':=by
 have hb0:Below w.heap.size w ((w.alloc (.cells (a.cs cA cc fA fc) 40)).alloc (.cells (b.cs dA dc gA gc) 40)):=by repeat (first | with_reducible exact Below.refl _ _ | with_reducible assumption | with_reducible refine Below.drew ?_ | with_reducible refine Below.alloc ?_ (by first | omega | (simp;done) | (simp;omega)) _)
 have HB:=hid hb0
 have HC:=hid (fun w' (h:Below w.heap.size w w')=>intEq_any a.causes b.causes cA dA _ _ cc dc w' rfl rfl (ha.now h).ca (hb.now h).ca ha.cl hb.cl)
 have HFi:=hid (fun w' (h:Below w.heap.size w w')=>intEq_any a.files b.files fA gA _ _ fc gc w' rfl rfl (ha.now h).fi (hb.now h).fi ha.fl hb.fl)
 have hst:=str_eqB a.text b.text
 clear ha hb hb0
 have HS:Hid (sameE a b=((a.author==b.author) && ((a.seq==b.seq) && ((a.kind==b.kind) && ((a.group==b.group) && ((a.target==b.target) && ((a.quote==b.quote) && ((a.who==b.who) && ((a.n==b.n) && ((a.step==b.step) && ((a.text.toList==b.text.toList) && (decide (a.causes=b.causes) && decide (a.files=b.files))))))))))))):=hid (by rw [← hst];rfl)
 clear hst
 go_enter Tryz.func59,Tryz.ntmps59
 cases h0:(a.author==b.author)
 ·go_wp2
  go_ret
  exact ⟨ret_bool (by rw [HS.out];simp only [h0,Bool.false_and,Bool.true_and]),HB.out⟩
 ·skip
  cases h1:(a.seq==b.seq)
  ·go_wp2
   go_ret
   exact ⟨ret_bool (by rw [HS.out];simp only [h0,h1,Bool.false_and,Bool.true_and]),HB.out⟩
  ·skip
   cases h2:(a.kind==b.kind)
   ·go_wp2
    go_ret
    exact ⟨ret_bool (by rw [HS.out];simp only [h0,h1,h2,Bool.false_and,Bool.true_and]),HB.out⟩
   ·skip
    cases h3:(a.group==b.group)
    ·go_wp2
     go_ret
     exact ⟨ret_bool (by rw [HS.out];simp only [h0,h1,h2,h3,Bool.false_and,Bool.true_and]),HB.out⟩
    ·skip
     cases h4:(a.target==b.target)
     ·go_wp2
      go_ret
      exact ⟨ret_bool (by rw [HS.out];simp only [h0,h1,h2,h3,h4,Bool.false_and,Bool.true_and]),HB.out⟩
     ·skip
      cases h5:(a.quote==b.quote)
      ·go_wp2
       go_ret
       exact ⟨ret_bool (by rw [HS.out];simp only [h0,h1,h2,h3,h4,h5,Bool.false_and,Bool.true_and]),HB.out⟩
      ·skip
       cases h6:(a.who==b.who)
       ·go_wp2
        go_ret
        exact ⟨ret_bool (by rw [HS.out];simp only [h0,h1,h2,h3,h4,h5,h6,Bool.false_and,Bool.true_and]),HB.out⟩
       ·skip
        cases h7:(a.n==b.n)
        ·go_wp2
         go_ret
         exact ⟨ret_bool (by rw [HS.out];simp only [h0,h1,h2,h3,h4,h5,h6,h7,Bool.false_and,Bool.true_and]),HB.out⟩
        ·skip
         cases h8:(a.step==b.step)
         ·go_wp2
          go_ret
          exact ⟨ret_bool (by rw [HS.out];simp only [h0,h1,h2,h3,h4,h5,h6,h7,h8,Bool.false_and,Bool.true_and]),HB.out⟩
         ·skip
          cases h9:(a.text.toList==b.text.toList)
          ·go_wp2
           go_ret
           exact ⟨ret_bool (by rw [HS.out];simp only [h0,h1,h2,h3,h4,h5,h6,h7,h8,h9,Bool.false_and,Bool.true_and]),HB.out⟩
          ·cases h10:decide (a.causes=b.causes)
           ·go_wp2_with fail
            refine (HC.out _ HB.out).mono ?_
            rintro e w1 ⟨rfl,hb1⟩
            rw [h10]
            have HB1:=hid (HB.out.trans (hb1.mono HB.out.size))
            clear hb1
            go_wp2
            go_ret
            exact ⟨ret_bool (by rw [HS.out];simp only [h0,h1,h2,h3,h4,h5,h6,h7,h8,h9,h10,Bool.false_and,Bool.true_and]),HB1.out⟩
           ·go_wp2_with fail
            refine (HC.out _ HB.out).mono ?_
            rintro e w1 ⟨rfl,hb1⟩
            rw [h10]
            have HB1:=hid (HB.out.trans (hb1.mono HB.out.size))
            have hz1:w.heap.size+2≤w1.heap.size:=by have:=hb1.size;simpa using this
            have q0:w1.cell? ⟨w.heap.size,10,none⟩=some (.slice fA a.files.length fc):=(hb1.cell (p:=⟨w.heap.size,10,none⟩) (by simp;omega)).trans (by simp)
            have q1:w1.cell? ⟨w.heap.size+1,10,none⟩=some (.slice gA b.files.length gc):=(hb1.cell (p:=⟨w.heap.size+1,10,none⟩) (by simp)).trans (by simp)
            clear hb1
            go_wp2_with fail
            refine (HFi.out _ HB1.out).mono ?_
            rintro e w2 ⟨rfl,hb2⟩
            have HB2:=hid (HB1.out.trans (hb2.mono HB1.out.size))
            clear hb2 q0 q1
            go_wp2
            go_ret
            exact ⟨ret_bool (by rw [HS.out];simp only [h0,h1,h2,h3,h4,h5,h6,h7,h8,h9,h10,Bool.false_and,Bool.true_and]),HB2.out⟩
set_option maxRecDepth 100000 in
theorem rSameE_any (a b:EvM) (cA:Option Addr) (cc:Nat) (fA:Option Addr) (fc:Nat) (dA:Option Addr) (dc:Nat) (gA:Option Addr) (gc:Nat) (w:World) (ha:EvOk w w.heap.size cA fA a) (hb:EvOk w w.heap.size dA gA b) :
  Calls Tryz.prog 18 #[a.v cA cc fA fc,b.v dA dc gA gc] w fun e w'=>e=.returned (.bool (sameE a b))∧Below w.heap.size w w':=by
 have hb0:Below w.heap.size w ((w.alloc (.cells (a.cs cA cc fA fc) 40)).alloc (.cells (b.cs dA dc gA gc) 40)):=by repeat (first | with_reducible exact Below.refl _ _ | with_reducible assumption | with_reducible refine Below.drew ?_ | with_reducible refine Below.alloc ?_ (by first | omega | (simp;done) | (simp;omega)) _)
 have HB:=hid hb0
 have HC:=hid (fun w' (h:Below w.heap.size w w')=>rInts_any a.causes b.causes cA dA _ _ cc dc w' rfl rfl (ha.now h).ca (hb.now h).ca ha.cl hb.cl)
 have HFi:=hid (fun w' (h:Below w.heap.size w w')=>rInts_any a.files b.files fA gA _ _ fc gc w' rfl rfl (ha.now h).fi (hb.now h).fi ha.fl hb.fl)
 have hst:=str_eqB a.text b.text
 clear ha hb hb0
 have HS:Hid (sameE a b=((a.author==b.author) && ((a.seq==b.seq) && ((a.kind==b.kind) && ((a.group==b.group) && ((a.target==b.target) && ((a.quote==b.quote) && ((a.who==b.who) && ((a.n==b.n) && ((a.step==b.step) && ((a.text.toList==b.text.toList) && (decide (a.causes=b.causes) && decide (a.files=b.files))))))))))))):=hid (by rw [← hst];rfl)
 clear hst
 go_enter Tryz.func18,Tryz.ntmps18
 cases h0:(a.author==b.author)
 ·go_wp2
  go_ret
  exact ⟨ret_bool (by rw [HS.out];simp only [h0,Bool.false_and,Bool.true_and]),HB.out⟩
 ·skip
  cases h1:(a.seq==b.seq)
  ·go_wp2
   go_ret
   exact ⟨ret_bool (by rw [HS.out];simp only [h0,h1,Bool.false_and,Bool.true_and]),HB.out⟩
  ·skip
   cases h2:(a.kind==b.kind)
   ·go_wp2
    go_ret
    exact ⟨ret_bool (by rw [HS.out];simp only [h0,h1,h2,Bool.false_and,Bool.true_and]),HB.out⟩
   ·skip
    cases h3:(a.group==b.group)
    ·go_wp2
     go_ret
     exact ⟨ret_bool (by rw [HS.out];simp only [h0,h1,h2,h3,Bool.false_and,Bool.true_and]),HB.out⟩
    ·skip
     cases h4:(a.target==b.target)
     ·go_wp2
      go_ret
      exact ⟨ret_bool (by rw [HS.out];simp only [h0,h1,h2,h3,h4,Bool.false_and,Bool.true_and]),HB.out⟩
     ·skip
      cases h5:(a.quote==b.quote)
      ·go_wp2
       go_ret
       exact ⟨ret_bool (by rw [HS.out];simp only [h0,h1,h2,h3,h4,h5,Bool.false_and,Bool.true_and]),HB.out⟩
      ·skip
       cases h6:(a.who==b.who)
       ·go_wp2
        go_ret
        exact ⟨ret_bool (by rw [HS.out];simp only [h0,h1,h2,h3,h4,h5,h6,Bool.false_and,Bool.true_and]),HB.out⟩
       ·skip
        cases h7:(a.n==b.n)
        ·go_wp2
         go_ret
         exact ⟨ret_bool (by rw [HS.out];simp only [h0,h1,h2,h3,h4,h5,h6,h7,Bool.false_and,Bool.true_and]),HB.out⟩
        ·skip
         cases h8:(a.step==b.step)
         ·go_wp2
          go_ret
          exact ⟨ret_bool (by rw [HS.out];simp only [h0,h1,h2,h3,h4,h5,h6,h7,h8,Bool.false_and,Bool.true_and]),HB.out⟩
         ·skip
          cases h9:(a.text.toList==b.text.toList)
          ·go_wp2
           go_ret
           exact ⟨ret_bool (by rw [HS.out];simp only [h0,h1,h2,h3,h4,h5,h6,h7,h8,h9,Bool.false_and,Bool.true_and]),HB.out⟩
          ·cases h10:decide (a.causes=b.causes)
           ·go_wp2_with fail
            refine (HC.out _ HB.out).mono ?_
            rintro e w1 ⟨rfl,hb1⟩
            rw [h10]
            have HB1:=hid (HB.out.trans (hb1.mono HB.out.size))
            clear hb1
            go_wp2
            go_ret
            exact ⟨ret_bool (by rw [HS.out];simp only [h0,h1,h2,h3,h4,h5,h6,h7,h8,h9,h10,Bool.false_and,Bool.true_and]),HB1.out⟩
           ·go_wp2_with fail
            refine (HC.out _ HB.out).mono ?_
            rintro e w1 ⟨rfl,hb1⟩
            rw [h10]
            have HB1:=hid (HB.out.trans (hb1.mono HB.out.size))
            have hz1:w.heap.size+2≤w1.heap.size:=by have:=hb1.size;simpa using this
            have q0:w1.cell? ⟨w.heap.size,10,none⟩=some (.slice fA a.files.length fc):=(hb1.cell (p:=⟨w.heap.size,10,none⟩) (by simp;omega)).trans (by simp)
            have q1:w1.cell? ⟨w.heap.size+1,10,none⟩=some (.slice gA b.files.length gc):=(hb1.cell (p:=⟨w.heap.size+1,10,none⟩) (by simp)).trans (by simp)
            clear hb1
            go_wp2_with fail
            refine (HFi.out _ HB1.out).mono ?_
            rintro e w2 ⟨rfl,hb2⟩
            have HB2:=hid (HB1.out.trans (hb2.mono HB1.out.size))
            clear hb2 q0 q1
            go_wp2
            go_ret
            exact ⟨ret_bool (by rw [HS.out];simp only [h0,h1,h2,h3,h4,h5,h6,h7,h8,h9,h10,Bool.false_and,Bool.true_and]),HB2.out⟩
/- Contracts of layer 22: comparing,cloning,and dropping by the reference. -/
set_option maxRecDepth 100000
theorem slP:SlTy Tryz.prog 37 56 4 32:=by
 obtain ⟨i,hi,hz,hs,hb⟩:=info_parts (show (Tryz.prog.info? 56).map (fun i=>(i.zero,i.size,i.bytes))=some (some (.agg #[.int .i64 0,.int .i64 0,.int .i64 0,.int .i64 0]),4,32) by kernel_rfl)
 exact ⟨Tryz.underlying37,⟨i,_,hi,hz,hs,hb,rfl⟩,by decide,by decide⟩
theorem layP:Lay 4 Pair.cells:=⟨fun _=>rfl,fun x u hu=>by
 simp only [Pair.cells,List.mem_cons,List.not_mem_nil,or_false] at hu
 rcases hu with rfl | rfl | rfl | rfl <;> rfl⟩
abbrev OwnP (w:World) (base:Nat):=OwnL w base 56 4 Pair.cells
theorem RdP_one {w:World} {b:Nat} {p:Pair} (h0:w.cell? ⟨b,0,none⟩=some (.int .i64 p.net)) (h1:w.cell? ⟨b,1,none⟩=some (.int .i64 p.loc)) (h2:w.cell? ⟨b,2,none⟩=some (.int .i64 p.ev)) (h3:w.cell? ⟨b,3,none⟩=some (.int .i64 p.part)) :
  RdP w (b+1) (some ⟨b,0,none⟩) [p]:=by
 intro k x hx
 have hk:k=0:=by have:=(List.getElem?_eq_some_iff.1 hx).1;simp at this;omega
 subst hk
 obtain rfl:p=x:=by simpa using hx
 refine ⟨b,0,rfl,by omega,fun j v hj=>?_⟩
 match j,hj with
 | 0,hj=>simp [Pair.cells] at hj;subst hj;simpa using h0
 | 1,hj=>simp [Pair.cells] at hj;subst hj;simpa using h1
 | 2,hj=>simp [Pair.cells] at hj;subst hj;simpa using h2
 | 3,hj=>simp [Pair.cells] at hj;subst hj;simpa using h3
theorem clone_any (xs:List Pair) (A:Option Addr) (c:Nat) (w:World) (hr:RdP w w.heap.size A xs) (hm:xs.length≤1000000) :
  Calls Tryz.prog 55 #[.slice A xs.length c] w fun e w'=>∃ A' c',e=.returned (.slice A' xs.length c')∧OwnP w' w.heap.size A' c' xs∧Below w.heap.size w w':=by
 have hm2:xs.length≤9223372036854775807:=by omega
 rcases A with _ | a
 ·have hx:xs=[]:=by
   rcases xs with _ | ⟨x,r⟩
   ·rfl
   ·obtain ⟨b,off,h0,_⟩:=hr 0 x rfl
    cases h0
  subst hx
  have h0:=fun w=>Lib.run_eql_slice_nil (P:=Tryz.prog) w 37 56 none 0 c 0 0 Tryz.underlying37
  go_enter Tryz.func55,Tryz.ntmps55
  go_wp2
  go_ret
  exact ⟨none,0,rfl,OwnL.nil_,Below.refl _ _⟩
 ·have h0:=fun w=>Lib.run_eql_slice_nil (P:=Tryz.prog) w 37 56 (some a) xs.length c 0 0 Tryz.underlying37
  have b1:(([]:List Pair).length+xs.length) * 32≤140737488355328:=by simp;omega
  have b2:w.heap.size≤(w.alloc (.cells #[] 56)).heap.size:=by simp
  have b3:Below w.heap.size w (w.alloc (.cells #[] 56)):=(Below.refl _ _).alloc (Nat.le_refl _) _
  have B1:=hid b1
  have B2:=hid b2
  clear b1 b2
  go_enter Tryz.func55,Tryz.ntmps55
  go_wp2_with (first | (at_builtin;refine wp_append_l rfl (.tmp 5) (.tmp 6) rfl slP layP w.heap.size (xs:=[]) (ys:=xs) (B:=w.heap.size) rfl rfl (OwnL.empty w 56 w.heap.size (Nat.le_refl _) _ rfl) rfl rfl (hr.below b3) B1.out B2.out ?_;intro A2 c2 w2 hown hg hbl hat))
  go_ret
  exact ⟨A2,c2,rfl,hown,b3.trans hbl⟩
/- Contracts of layer 22: DeleteFunc,and Drop of the program. -/
theorem take_set {T:Type} (ys:List T) (i:Nat) (p:T) (hi:i<ys.length):(ys.set i p).take (i+1)=ys.take i++[p]:=by
 rw [List.take_succ_eq_append_getElem (by simpa using hi),List.getElem_set_self,List.take_set,List.set_eq_of_length_le (by simp;omega)]
/- Rows of numbers (the small structs of a state,layer 46),and equality of lists of them (written by gensta.py). -/
structure D2 where
 a:Int
 b:Int
deriving DecidableEq
def D2.cs (x:D2):List Value:=[.int .i64 x.a,.int .i64 x.b]
abbrev D2.v (x:D2):Value:=.agg #[.int .i64 x.a,.int .i64 x.b]
theorem rdD2 {w:World} {B:Nat} {A:Option Addr} {k:Nat} {xs:List D2} (h:RdL 2 D2.cs w B A xs) (hk:k<xs.length):∃ b off,A=some ⟨b,off,none⟩∧b<B∧w.cell? ⟨b,off+k * 2,none⟩=some (.int .i64 xs[k].a)∧w.cell? ⟨b,off+k * 2+1,none⟩=some (.int .i64 xs[k].b):=by
 obtain ⟨b,off,e,hb,hc⟩:=h.at_ hk
 exact ⟨b,off,e,hb,hc 0 _ rfl,hc 1 _ rfl⟩
structure D3 where
 a:Int
 b:Int
 c:Int
deriving DecidableEq
def D3.cs (x:D3):List Value:=[.int .i64 x.a,.int .i64 x.b,.int .i64 x.c]
abbrev D3.v (x:D3):Value:=.agg #[.int .i64 x.a,.int .i64 x.b,.int .i64 x.c]
structure D4 where
 a:Int
 b:Int
 c:Int
 d:Int
deriving DecidableEq
def D4.cs (x:D4):List Value:=[.int .i64 x.a,.int .i64 x.b,.int .i64 x.c,.int .i64 x.d]
abbrev D4.v (x:D4):Value:=.agg #[.int .i64 x.a,.int .i64 x.b,.int .i64 x.c,.int .i64 x.d]
structure E3 where
 a:Int
 b:Int
 t:Bool
deriving DecidableEq
def E3.cs (x:E3):List Value:=[.int .i64 x.a,.int .i64 x.b,.bool x.t]
abbrev E3.v (x:E3):Value:=.agg #[.int .i64 x.a,.int .i64 x.b,.bool x.t]
structure E5 where
 a:Int
 b:Int
 c:Int
 d:Int
 t:Bool
deriving DecidableEq
def E5.cs (x:E5):List Value:=[.int .i64 x.a,.int .i64 x.b,.int .i64 x.c,.int .i64 x.d,.bool x.t]
abbrev E5.v (x:E5):Value:=.agg #[.int .i64 x.a,.int .i64 x.b,.int .i64 x.c,.int .i64 x.d,.bool x.t]
theorem same_hit2 {T:Type} [DecidableEq T] (xs ys:List T) (k:Nat) (hk:k<xs.length) (hk2:k<ys.length) (hne:xs[k]≠ys[k]):decide (xs=ys)=false:=by
 rw [decide_eq_false_iff_not]
 rintro rfl
 exact hne rfl
end Go.Proofs.YtlnnjdibkbabiaaGreatDoor
