/- Contracts and plain laws, joined: WyC, WyD, WyE. -/
import Derived.Test.YtlnnjdibkbabiaaGreatDoorQah
import Derived.Deep.DeepCutAuto
/- Profiles,and what makes them right (layers 12 and 13),by the reference. -/
set_option linter.unusedSimpArgs false
set_option linter.unusedVariables false
namespace Go.Proofs.YtlnnjdibkbabiaaGreatDoor
set_option maxHeartbeats 2000000
open _root_.Go.Lib (hid)
open Go.RowKit
structure Prof where
 name:ByteArray
 edit:Int
 within_:Int
 delete:Int
 react:Bool
 thread:Int
 quote:Bool
 mention:Bool
 size:Int
 parts:Int
 files:Int
 bytes:Int
 types:List ByteArray
 join:Int
 history:Int
 remove:Int
 level:Int
 batch:Bool
 rate:Int
 down:Int
 window:Int
 keep:Int
abbrev Prof.cs (p:Prof) (A:Option Addr) (c:Nat):Array Value:=#[.string p.name,.int .i64 p.edit,.int .i64 p.within_,.int .i64 p.delete,.bool p.react,.int .i64 p.thread,.bool p.quote,.bool p.mention,.int .i64 p.size,.int .i64 p.parts,.int .i64 p.files,.int .i64 p.bytes,
 .slice A p.types.length c,.int .i64 p.join,.int .i64 p.history,.int .i64 p.remove,.int .i64 p.level,.bool p.batch,.int .i64 p.rate,.int .i64 p.down,.int .i64 p.window,.int .i64 p.keep]
abbrev Prof.v (p:Prof) (A:Option Addr) (c:Nat):Value:=.agg (p.cs A c)
def strCells (s:ByteArray):List Value:=[.string s]
abbrev RdS:=RdL 1 strCells
theorem RdS_at {w:World} {B:Nat} {A:Option Addr} {xs:List ByteArray} {k:Nat} (h:RdS w B A xs) (hk:k<xs.length):∃ b off s,A=some ⟨b,off,none⟩∧b<B∧xs[k]?=some s∧w.cell? ⟨b,off+k,none⟩=some (.string s):=by
 obtain ⟨b,off,e,hb,hc⟩:=h.at_ hk
 have h0:=hc 0 _ rfl
 simp only [Nat.mul_one,Nat.add_zero] at h0
 exact ⟨b,off,_,e,hb,List.getElem?_eq_getElem hk,h0⟩
theorem boxAll (w:World) (cs:Array Value) (t:TypeId) {w':World} (hb:Below (w.heap.size+1) (w.alloc (.cells cs t)) w') (j:Nat):w'.cell? ⟨w.heap.size,j,none⟩=cs[j]?:=by
 refine (hb.cell (p:=⟨w.heap.size,j,none⟩) (Nat.lt_succ_self _)).trans ?_
 unfold World.cell?
 rw [heap_alloc_new]
 rfl
def inR (n a b:Int):Bool:=decide (a≤n) && decide (n≤b)
theorem pWithin_any (n a b:Int) (w:World):Calls Tryz.prog 37 #[.int .i64 n,.int .i64 a,.int .i64 b] w fun e w'=>e=.returned (.bool (inR n a b))∧w=w':=by
 unfold inR
 go_enter Tryz.func37,Tryz.ntmps37
 go_wp2
 all_goals go_ret
 all_goals exact ⟨by first | (simp_all;done) | (simp;omega) | (simp_all;omega),rfl⟩
def kindsB (p:Prof):Bool:=(p.edit==0 || p.edit==2) && (inR p.delete 0 2 && (inR p.thread 0 2 && (inR p.join 0 2 && (inR p.history 0 1 && (inR p.remove 0 1 && inR p.level 0 4)))))
def stepB (n:Int):Bool:=inR n 0 1073741824
def numbersB (p:Prof):Bool:=stepB p.within_ && (stepB p.size && (stepB p.parts && (stepB p.files && (stepB p.bytes && (stepB p.rate && (stepB p.down && (stepB p.window && stepB p.keep)))))))
theorem len0 {T:Type} (xs:List T):((xs.length:Int)==0)=decide (xs=[]):=by cases xs <;> simp;omega
theorem all_miss {T:Type} (f:T→Bool) (xs:List T) (k:Nat) {s:T} (h:xs[k]?=some s) (hf:f s=false):xs.all f=false:=by
 rw [List.all_eq_false]
 exact ⟨s,List.mem_of_getElem? h,by simp [hf]⟩
theorem all_hit {T:Type} (f:T→Bool) (xs:List T) (k:Nat) {s:T} (h:xs[k]?=some s) (hf:f s=true) (hn:(xs.take k).all f=true):(xs.take (k+1)).all f=true:=by
 obtain ⟨hk,rfl⟩:=List.getElem?_eq_some_iff.1 h
 rw [List.take_succ_eq_append_getElem hk,List.all_append,hn]
 simp [hf]
def typesB (p:Prof):Bool:=if p.files=0 then p.bytes==0 && decide (p.types.length=0) else decide (1≤p.types.length) && (decide (p.types.length≤20) && p.types.all wordB)
def headB (p:Prof):Bool:=kindsB p && (numbersB p && (wordB p.name && !(p.edit==0 && p.within_ != 0)))
def profRight (p:Prof):Bool:=headB p && typesB p
structure ProfOk (w:World) (B:Nat) (A:Option Addr) (p:Prof):Prop where
 rd:RdS w B A p.types
 nm:p.name.size≤9223372036854775807
 len:p.types.length≤9223372036854775807
 ts:∀ s∈p.types,s.size≤9223372036854775807
theorem ProfOk.now {w w':World} {A:Option Addr} {p:Prof} (h:ProfOk w w.heap.size A p) (hb:Below w.heap.size w w'):ProfOk w' w'.heap.size A p:=⟨h.rd.now hb,h.nm,h.len,h.ts⟩
/- Contracts of the library's searches in lists of strings. -/
theorem str_neq {s p:ByteArray} (h:¬ s=p):(s.toList==p.toList)=false:=by
 rw [beq_eq_false_iff_ne]
 intro he
 rw [ByteArray.toList_eq,ByteArray.toList_eq] at he
 exact h (ByteArray.ext (Array.toList_inj.1 he))
def eqS (s:ByteArray):ByteArray→Bool:=fun x=>decide (s=x)
def hasS (xs:List ByteArray) (s:ByteArray):Bool:=xs.any (eqS s)
def idxS (f:ByteArray→Bool) (xs:List ByteArray):Int:=match xs.findIdx? f with | some i=>(i:Int) | none=>-1
theorem idxS_any (f:ByteArray→Bool) (xs:List ByteArray):decide (0≤idxS f xs)=xs.any f:=by
 unfold idxS
 cases h:xs.findIdx? f with
 | none =>
  have h2:xs.any f=false:=by
   rw [List.any_eq_false]
   intro x hx
   simp [List.findIdx?_eq_none_iff.1 h x hx]
  rw [h2]
  rfl
 | some i =>
  obtain ⟨h1,h2,_⟩:=List.findIdx?_eq_some_iff_getElem.1 h
  have h3:xs.any f=true:=List.any_eq_true.2 ⟨_,List.getElem_mem h1,h2⟩
  rw [h3]
  simp
theorem any_hitW {T:Type} (f:T→Bool) (xs:List T) (k:Nat) {p:T} (h:xs[k]?=some p) (hf:f p=true) (hn:(xs.take k).any f=false):xs.findIdx? f=some k:=by
 obtain ⟨hk,rfl⟩:=List.getElem?_eq_some_iff.1 h
 rw [List.findIdx?_eq_some_iff_getElem]
 refine ⟨hk,hf,fun j hj=>?_⟩
 exact List.any_eq_false.1 hn xs[j] (by rw [List.mem_take_iff_getElem];exact ⟨j,by omega,rfl⟩)
theorem any_miss {T:Type} (f:T→Bool) (xs:List T) (k:Nat) {p:T} (h:xs[k]?=some p) (hf:f p=false) (hn:(xs.take k).any f=false):(xs.take (k+1)).any f=false:=by
 obtain ⟨hk,rfl⟩:=List.getElem?_eq_some_iff.1 h
 rw [List.take_succ_eq_append_getElem hk,List.any_append,hn]
 simp [hf]
theorem any_none {T:Type} (f:T→Bool) (xs:List T) (hn:xs.any f=false):xs.findIdx? f=none:=by
 rw [List.findIdx?_eq_none_iff]
 intro x hx
 simpa using List.any_eq_false.1 hn x hx
theorem strIndex_any (xs:List ByteArray) (s:ByteArray) (A:Option Addr) (c:Nat) (w:World) (hr:RdS w w.heap.size A xs) (hm:xs.length≤9223372036854775807) :
  Calls Tryz.prog 71 #[.slice A xs.length c,.string s] w fun e w'=>e=.returned (.int .i64 (idxS (eqS s) xs))∧w=w':=by
 go_enter Tryz.func71,Tryz.ntmps71
 go_wp2
 go_loopw [8] (fun i wr=>∃ k:Nat,k≤xs.length∧i=.int .i64 k∧(xs.take k).any (eqS s)=false∧w=wr) (fun i _=>xs.length - (intOf i).toNat)
 case atStart=>exact ⟨0,Nat.zero_le _,rfl,rfl,rfl⟩
 case round =>
  obtain ⟨k,hk,rfl,hf,rfl⟩:=hrel
  have HF:=hid hf
  clear hf
  by_cases hlt:k<xs.length
  ·obtain ⟨b,off,p,rfl,hbb,hp,hc⟩:=RdS_at hr hlt
   have HP:=hid hp
   clear hp
   by_cases hv:s=p
   ·subst hv
    go_wp2
    go_ret
    exact ⟨by simp [idxS,any_hitW (eqS s) xs k HP.out (by simp [eqS]) HF.out],by first | rfl | trivial⟩
   ·have hv2:=str_neq hv
    go_wp2
    go_roundw
    case rel=>exact ⟨k+1,by omega,by go_num,any_miss _ xs k HP.out (by simp [eqS,hv]) HF.out,by first | rfl | trivial⟩
    case measure=>simp [intOf];omega
  ·go_wp2
   go_ret
   have h2:=HF.out
   rw [List.take_of_length_le (by omega)] at h2
   exact ⟨by simp [idxS,any_none _ xs h2],by first | rfl | trivial⟩
theorem strCont_any (xs:List ByteArray) (s:ByteArray) (A:Option Addr) (c:Nat) (w:World) (hr:RdS w w.heap.size A xs) (hm:xs.length≤9223372036854775807) :
  Calls Tryz.prog 39 #[.slice A xs.length c,.string s] w fun e w'=>e=.returned (.bool (hasS xs s))∧w=w':=by
 go_enter Tryz.func39,Tryz.ntmps39
 go_wp2_with fail
 refine (strIndex_any xs s A c _ hr hm).mono ?_
 rintro e w1 ⟨rfl,rfl⟩
 go_wp2
 go_ret
 exact ⟨ret_bool (idxS_any _ _),rfl⟩
theorem strIndexF_any (xs:List ByteArray) (A:Option Addr) (c:Nat) (K:FuncId) (caps:Array Value) (f:ByteArray→Bool) (w:World) (hr:RdS w w.heap.size A xs) (hm:xs.length≤9223372036854775807)
  (hK:∀ (args:Array Value) (w:World),(callFunc K args).run Tryz.prog w=.ok (.enter K args) w)
  (hF:∀ s∈xs,Calls Tryz.prog K (#[.string s]++caps) w fun e w''=>e=.returned (.bool (f s))∧w=w'') :
  Calls Tryz.prog 125 #[.slice A xs.length c,.func (.func K) #[] caps] w fun e w'=>e=.returned (.int .i64 (idxS f xs))∧w=w':=by
 have HFF:=hid hF
 clear hF
 go_enter Tryz.func125,Tryz.ntmps125
 go_wp2
 go_loopw [8] (fun i wr=>∃ k:Nat,k≤xs.length∧i=.int .i64 k∧(xs.take k).any f=false∧w=wr) (fun i _=>xs.length - (intOf i).toNat)
 case atStart=>exact ⟨0,Nat.zero_le _,rfl,rfl,rfl⟩
 case round =>
  obtain ⟨k,hk,rfl,hf,rfl⟩:=hrel
  have HF:=hid hf
  clear hf
  by_cases hlt:k<xs.length
  ·obtain ⟨b,off,p,rfl,hbb,hp,hc⟩:=RdS_at hr hlt
   have HP:=hid hp
   clear hp
   cases hv:f p
   ·go_wp2_with fail
    refine (HFF.out p (List.mem_of_getElem? HP.out)).mono ?_
    rintro e w1 ⟨rfl,rfl⟩
    go_wp2
    go_roundw
    case rel=>exact ⟨k+1,by omega,by go_num,any_miss _ xs k HP.out hv HF.out,by first | rfl | trivial⟩
    case measure=>simp [intOf];omega
   ·go_wp2_with fail
    refine (HFF.out p (List.mem_of_getElem? HP.out)).mono ?_
    rintro e w1 ⟨rfl,rfl⟩
    go_wp2
    go_ret
    exact ⟨by simp [idxS,any_hitW f xs k HP.out hv HF.out],rfl⟩
  ·go_wp2
   go_ret
   have h2:=HF.out
   rw [List.take_of_length_le (by omega)] at h2
   exact ⟨by simp [idxS,any_none f xs h2],by first | rfl | trivial⟩
theorem strContF_any (xs:List ByteArray) (A:Option Addr) (c:Nat) (K:FuncId) (caps:Array Value) (f:ByteArray→Bool) (w:World) (hr:RdS w w.heap.size A xs) (hm:xs.length≤9223372036854775807)
  (hK:∀ (args:Array Value) (w:World),(callFunc K args).run Tryz.prog w=.ok (.enter K args) w)
  (hF:∀ s∈xs,Calls Tryz.prog K (#[.string s]++caps) w fun e w''=>e=.returned (.bool (f s))∧w=w'') :
  Calls Tryz.prog 69 #[.slice A xs.length c,.func (.func K) #[] caps] w fun e w'=>e=.returned (.bool (xs.any f))∧w=w':=by
 go_enter Tryz.func69,Tryz.ntmps69
 go_wp2_with fail
 refine (strIndexF_any xs A c K caps f _ hr hm hK hF).mono ?_
 rintro e w1 ⟨rfl,rfl⟩
 go_wp2
 go_ret
 exact ⟨ret_bool (idxS_any _ _),rfl⟩
theorem pRight1_any (s:ByteArray) (w:World) (hs:s.size≤9223372036854775807):Calls Tryz.prog 70 #[.string s] w fun e w'=>e=.returned (.bool (!wordB s))∧w=w':=by
 go_enter Tryz.func70,Tryz.ntmps70
 go_wp2_with fail
 refine (lexWord_any s _ hs).mono ?_
 rintro e w1 ⟨rfl,rfl⟩
 go_wp2
 go_ret
 exact ⟨rfl,by first | rfl | trivial⟩
/- Contract of syntax.Right. -/
def numL (p:Prof):List Int:=[p.within_,p.size,p.parts,p.files,p.bytes,p.rate,p.down,p.window,p.keep]
abbrev numC (p:Prof):Array Value:=#[.int .i64 p.within_,.int .i64 p.size,.int .i64 p.parts,.int .i64 p.files,.int .i64 p.bytes,.int .i64 p.rate,.int .i64 p.down,.int .i64 p.window,.int .i64 p.keep]
theorem numC_eq (p:Prof):numC p=((numL p).map (fun n=>Value.int .i64 n)).toArray:=rfl
theorem numbers_eq (p:Prof):numbersB p=(numL p).all stepB:=by simp [numbersB,numL]
theorem numbers_miss (p:Prof) (k:Nat) {n:Int} (h:(numL p)[k]?=some n) (hf:stepB n=false):numbersB p=false:=by rw [numbers_eq];exact all_miss stepB _ k h hf
def kindL (p:Prof):List (Int × Int):=[(p.delete,3),(p.thread,3),(p.join,3),(p.history,2),(p.remove,2),(p.level,5)]
def kindF (e:Int × Int):Bool:=decide (0≤e.1) && decide (e.1<e.2)
theorem inR_kind (n a:Int):inR n 0 a=kindF (n,a+1):=by
 unfold inR kindF
 rw [Bool.eq_iff_iff]
 simp
 omega
abbrev kindC (p:Prof):Array Value:=#[.int .i64 p.delete,.int .i64 3,.int .i64 p.thread,.int .i64 3,.int .i64 p.join,.int .i64 3,.int .i64 p.history,.int .i64 2,.int .i64 p.remove,.int .i64 2,.int .i64 p.level,.int .i64 5]
theorem kindC_at (p:Prof) (k:Nat) {a n:Int} (h:(kindL p)[k]?=some (a,n)):(kindC p)[k * 2]?=some (.int .i64 a)∧(kindC p)[k * 2+1]?=some (.int .i64 n):=by
 obtain ⟨hk,h⟩:=List.getElem?_eq_some_iff.1 h
 have hk6:k<6:=hk
 rcases k with _ | _ | _ | _ | _ | _ | k
 ·cases h;exact ⟨rfl,rfl⟩
 ·cases h;exact ⟨rfl,rfl⟩
 ·cases h;exact ⟨rfl,rfl⟩
 ·cases h;exact ⟨rfl,rfl⟩
 ·cases h;exact ⟨rfl,rfl⟩
 ·cases h;exact ⟨rfl,rfl⟩
 ·omega
theorem kinds_eq (p:Prof):kindsB p=((p.edit==0 || p.edit==2) && (kindL p).all kindF):=by simp [kindsB,kindL,inR_kind]
theorem kinds_miss (p:Prof) (k:Nat) {e:Int × Int} (h:(kindL p)[k]?=some e) (hf:kindF e=false):kindsB p=false:=by rw [kinds_eq,all_miss kindF _ k h hf,Bool.and_false]
def notWord (s:ByteArray):Bool:=!wordB s
theorem within_le (p:Prof) (h:numbersB p=true):0≤p.within_:=by simp [numbersB,stepB,inR] at h;omega
theorem head_of (p:Prof) (hk:(kindL p).all kindF=true) (hn:numbersB p=true) (hw:wordB p.name=true) (h:(p.edit=0∧p.within_=0)∨p.edit=2):headB p=true:=by
 simp only [headB,kinds_eq,hk,hn,hw]
 rcases h with ⟨h1,h2⟩ | h1 <;> simp [*]
theorem types_of (p:Prof) (hf:¬ p.files=0) (h1:¬ p.types.length<1) (h2:¬ 20<p.types.length):typesB p=!p.types.any notWord:=by
 have h3:(decide (1≤p.types.length))=true:=by simp;omega
 have h4:(decide (p.types.length≤20))=true:=by simp;omega
 rw [typesB,if_neg hf,h3,h4,Bool.true_and,Bool.true_and,List.not_any_eq_all_not]
 simp [notWord]
theorem enters_pRight1:∀ (args:Array Value) (w:World),(callFunc 70 args).run Tryz.prog w=.ok (.enter 70 args) w:=fun _ _=>by kernel_rfl
set_option maxRecDepth 100000 in
theorem pRight_any (p:Prof) (A:Option Addr) (c:Nat) (w:World) (hr:ProfOk w w.heap.size A p):Calls Tryz.prog 36 #[p.v A c] w fun e w'=>e=.returned (.bool (profRight p))∧Below w.heap.size w w':=by
 obtain ⟨hrd,hnm,hlen,hts⟩:=hr
 have HTS:=hid hts
 clear hts
 have hb0:Below w.heap.size w (w.alloc (.cells (p.cs A c) 24)):=(Below.refl _ _).alloc (Nat.le_refl _) _
 have HB:=hid hb0
 have hrd0:=hrd.now hb0
 clear hb0
 go_enter Tryz.func36,Tryz.ntmps36
 go_wp2_with fail
 go_loopw [27] (fun i wr=>∃ k:Nat,k≤9∧i=.int .i64 k∧((numL p).take k).all stepB=true∧wr=(w.alloc (.cells (p.cs A c) 24)).alloc (.cells (numC p) 3)) (fun i _=>9 - (intOf i).toNat)
 case atStart=>exact ⟨0,Nat.zero_le _,rfl,rfl,rfl⟩
 case round =>
  obtain ⟨k,hk,rfl,hal,rfl⟩:=hrel
  have HA:=hid hal
  clear hal
  by_cases hlt:k<9
  ·have hlt2:k<(numL p).length:=hlt
   obtain ⟨n,hn⟩:∃ n,(numL p)[k]?=some n:=⟨_,List.getElem?_eq_getElem hlt2⟩
   have HN:=hid hn
   have hc:((w.alloc (.cells (p.cs A c) 24)).alloc (.cells (numC p) 3)).cell? ⟨w.heap.size+1,k,none⟩=some (.int .i64 n):=by
    have h:=boxAll (w.alloc (.cells (p.cs A c) 24)) (numC p) 3 (Below.refl _ _) k
    rw [show (w.alloc (.cells (p.cs A c) 24)).heap.size=w.heap.size+1 from by simp] at h
    rw [h,numC_eq,List.getElem?_toArray,List.getElem?_map,HN.out]
    rfl
   clear hn hlt2
   by_cases h1:n<0
   ·go_wp2
    go_ret
    exact ⟨by simp [profRight,headB,numbers_miss p k HN.out (by simp [stepB,inR];omega)],HB.out.alloc (by simp) _⟩
   by_cases h2:1073741824<n
   ·go_wp2
    go_ret
    exact ⟨by simp [profRight,headB,numbers_miss p k HN.out (by simp [stepB,inR];omega)],HB.out.alloc (by simp) _⟩
   have hst:stepB n=true:=by simp [stepB,inR];omega
   go_wp2
   go_roundw
   case rel=>exact ⟨k+1,by omega,by go_num,all_hit stepB _ k HN.out hst HA.out,trivial⟩
   case measure=>simp [intOf];omega
  ·have hn:numbersB p=true:=by rw [numbers_eq];have h:=HA.out;rwa [List.take_of_length_le (by simp [numL];omega)] at h
   have HN:=hid hn
   clear hn
   go_wp2_with fail
   have hb2:=((HB.out.alloc (by simp) (.cells (numC p) 3)).alloc (by simp;omega) (.cells (kindC p) 118))
   have hs2:(((w.alloc (.cells (p.cs A c) 24)).alloc (.cells (numC p) 3)).alloc (.cells (kindC p) 118)).heap.size=w.heap.size+3:=by simp
   have hp2:∀ j,(((w.alloc (.cells (p.cs A c) 24)).alloc (.cells (numC p) 3)).alloc (.cells (kindC p) 118)).cell? ⟨w.heap.size,j,none⟩=(p.cs A c)[j]? :=
    boxAll w _ _ (((Below.refl _ _).alloc (by simp) _).alloc (by simp) _)
   have hk2:∀ j,(((w.alloc (.cells (p.cs A c) 24)).alloc (.cells (numC p) 3)).alloc (.cells (kindC p) 118)).cell? ⟨w.heap.size+2,j,none⟩=(kindC p)[j]?:=fun j=>by
    have h:=boxAll ((w.alloc (.cells (p.cs A c) 24)).alloc (.cells (numC p) 3)) (kindC p) 118 (Below.refl _ _) j
    rw [show ((w.alloc (.cells (p.cs A c) 24)).alloc (.cells (numC p) 3)).heap.size=w.heap.size+2 from by simp] at h
    exact h
   have hrd2:=hrd.now hb2
   generalize (((w.alloc (.cells (p.cs A c) 24)).alloc (.cells (numC p) 3)).alloc (.cells (kindC p) 118))=w2 at hb2 hs2 hp2 hk2 hrd2 ⊢
   have HB2:=hid hb2
   have HK2:=hid hk2
   have HP2:=hid hp2
   clear hb2 hk2 hp2
   go_loopw [58] (fun i wr=>∃ k:Nat,k≤6∧i=.int .i64 k∧((kindL p).take k).all kindF=true∧Below w2.heap.size w2 wr) (fun i _=>6 - (intOf i).toNat)
   case atStart=>exact ⟨0,Nat.zero_le _,rfl,rfl,Below.refl _ _⟩
   case round =>
    obtain ⟨k,hk,rfl,hal,hb⟩:=hrel
    have HA:=hid hal
    clear hal
    by_cases hlt:k<6
    ·obtain ⟨⟨a,n⟩,hn⟩:∃ e,(kindL p)[k]?=some e:=⟨_,List.getElem?_eq_getElem hlt⟩
     have HN:=hid hn
     have hv:=kindC_at p k hn
     have hc0:wr.cell? ⟨w.heap.size+2,k * 2,none⟩=some (.int .i64 a):=(hb.cell (p:=⟨w.heap.size+2,k * 2,none⟩) (by simp only;omega)).trans ((HK2.out _).trans hv.1)
     have hc1:wr.cell? ⟨w.heap.size+2,k * 2+1,none⟩=some (.int .i64 n):=(hb.cell (p:=⟨w.heap.size+2,k * 2+1,none⟩) (by simp only;omega)).trans ((HK2.out _).trans hv.2)
     clear hn hv
     by_cases h1:a<0
     ·go_wp2
      go_ret
      exact ⟨by simp [profRight,headB,kinds_miss p k HN.out (by simp [kindF];omega)],HB2.out.trans ((hb.alloc hb.size _).mono HB2.out.size)⟩
     by_cases h2:n≤a
     ·go_wp2
      go_ret
      exact ⟨by simp [profRight,headB,kinds_miss p k HN.out (by simp [kindF];omega)],HB2.out.trans ((hb.alloc hb.size _).mono HB2.out.size)⟩
     have hst:kindF (a,n)=true:=by simp [kindF];omega
     go_wp2
     go_roundw
     case rel=>exact ⟨k+1,by omega,by go_num,all_hit kindF _ k HN.out hst HA.out,hb.alloc hb.size _⟩
     case measure=>simp [intOf];omega
    ·have hkb:(kindL p).all kindF=true:=by have h:=HA.out;rwa [List.take_of_length_le (by simp [kindL];omega)] at h
     have hbw:=HB2.out.trans (hb.mono HB2.out.size)
     have hcc:∀ j v,(p.cs A c)[j]?=some v→wr.cell? ⟨w.heap.size,j,none⟩=some v:=fun j v hj=>(hb.cell (p:=⟨w.heap.size,j,none⟩) (by simp only;omega)).trans ((HP2.out j).trans hj)
     have f0:=hcc 0 _ rfl
     have f1:=hcc 1 _ rfl
     have f2:=hcc 2 _ rfl
     have f10:=hcc 10 _ rfl
     have f11:=hcc 11 _ rfl
     have f12:=hcc 12 _ rfl
     have hrd3:=hrd2.now hb
     have HBW:=hid hbw
     have HKB:=hid hkb
     clear hcc hb hbw hkb
     generalize hwb:wordB p.name=wb
     have HWB:=hid hwb
     cases wb
     ·go_wp2_with (go_at_call 68;refine (lexWord_any _ _ hnm).mono ?_;rintro e w' ⟨rfl,rfl⟩)
      go_ret
      exact ⟨by simp [profRight,headB,HWB.out],HBW.out⟩
     have HF:=hid (show ∀ s∈p.types,Calls Tryz.prog 70 (#[.string s]++#[]) wr (fun e w''=>e=.returned (.bool (notWord s))∧wr=w'') from fun s hs=>pRight1_any s _ (HTS.out s hs))
     by_cases he:¬ p.edit=0∧¬ p.edit=2
     ·obtain ⟨he,he2⟩:=he
      have e1:(p.edit==0)=false:=by simpa using he
      have e2:(p.edit==2)=false:=by simpa using he2
      have e3:(p.edit != 0)=true:=by simpa using he
      have e4:(p.edit != 2)=true:=by simpa using he2
      go_wp2_with (go_at_call 68;refine (lexWord_any _ _ hnm).mono ?_;rintro e w' ⟨rfl,rfl⟩)
      go_ret
      exact ⟨by simp [profRight,headB,kinds_eq,he,he2],HBW.out⟩
     by_cases he0:p.edit=0∧0<p.within_
     ·obtain ⟨he0,hwi⟩:=he0
      go_wp2_with (go_at_call 68;refine (lexWord_any _ _ hnm).mono ?_;rintro e w' ⟨rfl,rfl⟩)
      go_ret
      exact ⟨by simp [profRight,headB,he0];omega,HBW.out⟩
     have hwi:0≤p.within_:=within_le p HN.out
     have hor:(p.edit=0∧p.within_=0)∨p.edit=2:=by omega
     have hh:=head_of p HKB.out HN.out HWB.out hor
     have HH:=hid hh
     clear hh he he0 hwi
     by_cases hf:p.files=0
     ·by_cases hby:p.bytes=0
      all_goals rcases hor with ⟨h1,h2⟩ | h1
      all_goals go_wp2_with (go_at_call 68;refine (lexWord_any _ _ hnm).mono ?_;rintro e w' ⟨rfl,rfl⟩)
      all_goals go_ret
      all_goals exact ⟨by simp [profRight,HH.out,typesB,hf,hby,len0],HBW.out⟩
     ·by_cases hl1:p.types.length<1
      ·rcases hor with ⟨h1,h2⟩ | h1
       all_goals go_wp2_with (go_at_call 68;refine (lexWord_any _ _ hnm).mono ?_;rintro e w' ⟨rfl,rfl⟩)
       all_goals go_ret
       all_goals exact ⟨by simp [profRight,typesB,hf];omega,HBW.out⟩
      by_cases hl2:20<p.types.length
      ·rcases hor with ⟨h1,h2⟩ | h1
       all_goals go_wp2_with (go_at_call 68;refine (lexWord_any _ _ hnm).mono ?_;rintro e w' ⟨rfl,rfl⟩)
       all_goals go_ret
       all_goals exact ⟨by simp [profRight,typesB,hf];omega,HBW.out⟩
      have hty:=types_of p hf hl1 hl2
      have HTY:=hid hty
      clear hty
      rcases hor with ⟨h1,h2⟩ | h1
      all_goals go_wp2_with (first | (go_at_call 68;refine (lexWord_any _ _ hnm).mono ?_;rintro e w' ⟨rfl,rfl⟩) | (go_at_call 69;refine (strContF_any p.types A c 70 #[] notWord _ hrd3 hlen enters_pRight1 HF.out).mono ?_;rintro e w' ⟨rfl,rfl⟩))
      all_goals go_ret
      all_goals exact ⟨by simp [profRight,HH.out,HTY.out],HBW.out⟩
end Go.Proofs.YtlnnjdibkbabiaaGreatDoor
