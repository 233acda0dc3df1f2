/- Contracts and plain laws, joined: EvB, StA. -/
import Derived.Test.YthlpehhlhebhbaaGreatDoorRows
import Derived.Test.YthlpehhlhebhbaaGreatDoorQah
/- Lists of ints: contracts of slices.Index,Contains and Equal,and of linguaref10.Ints. -/
set_option linter.unusedSimpArgs false
set_option linter.unusedVariables false
namespace Go.Proofs.YthlpehhlhebhbaaGreatDoor
set_option maxHeartbeats 1000000
open Lib (hid)
open Go.RowKit
def intC (x:Int):List Value:=[.int .i64 x]
theorem intLayV:Lay 1 intC:=⟨fun _=>rfl,fun x u h=>by simp [intC] at h;subst h;rfl⟩
abbrev RdI:=RdL 1 intC
theorem RdI_at {w:World} {B:Nat} {A:Option Addr} {xs:List Int} {k:Nat} (h:RdI w B A xs) (hk:k<xs.length):∃ b off,A=some ⟨b,off,none⟩∧b<B∧w.cell? ⟨b,off+k,none⟩=some (.int .i64 xs[k]):=by
 obtain ⟨b,off,e,hb,hc⟩:=h.at_ hk
 have h0:=hc 0 _ rfl
 simp only [Nat.mul_one,Nat.add_zero] at h0
 exact ⟨b,off,e,hb,h0⟩
def idxI (x:Int) (xs:List Int):Int:=match xs.findIdx? (fun y=>x==y) with
 | some i=>(i:Int)
 | none=>-1
theorem idxI_hit (x:Int) (xs:List Int) (k:Nat) (hk:k<xs.length) (hn:∀ y∈xs.take k,(x==y)=false) (h:(x==xs[k])=true):idxI x xs=k:=by
 unfold idxI
 rw [List.findIdx?_eq_some_iff_getElem.2 ⟨hk,h,fun j hj=>?_⟩]
 have:=hn xs[j] (List.mem_take_iff_getElem.2 ⟨j,by omega,rfl⟩)
 simpa using this
theorem idxI_none (x:Int) (xs:List Int) (hn:∀ y∈xs,(x==y)=false):idxI x xs=-1:=by
 unfold idxI
 rw [List.findIdx?_eq_none_iff.2 hn]
theorem idxI_has (x:Int) (xs:List Int):decide (0≤idxI x xs)=decide (x∈xs):=by
 rcases h:xs.findIdx? (fun y=>x==y) with _ | i
 ·have hn:=List.findIdx?_eq_none_iff.1 h
  rw [idxI_none x xs hn]
  have:x ∉ xs:=fun hm=>by have:=hn x hm;simp at this
  simp [this]
 ·obtain ⟨hk,h1,_⟩:=List.findIdx?_eq_some_iff_getElem.1 h
  have e:idxI x xs=i:=by unfold idxI;rw [h]
  have hm:x∈xs:=by
   have:x=xs[i]:=by simpa using h1
   rw [this]
   exact List.getElem_mem hk
  rw [e]
  simp [hm]
theorem take_growV {T:Type} (P:T→Prop) (q:List T) (k:Nat) (hk:k<q.length) (h:∀ p∈q.take k,P p) (h1:P q[k]):∀ p∈q.take (k+1),P p:=by
 intro p hp
 rw [List.take_succ_eq_append_getElem hk,List.mem_append,List.mem_singleton] at hp
 rcases hp with hp | rfl
 ·exact h p hp
 ·exact h1
theorem intIdx_any (xs:List Int) (x:Int) (A:Option Addr) (n c:Nat) (w:World) (hn:n=xs.length) (hr:RdI w w.heap.size A xs) (hm:xs.length≤9223372036854775807) :
  Calls Tryz.prog 293 #[.slice A n c,.int .i64 x] w fun e w'=>e=.returned (.int .i64 (idxI x xs))∧w=w':=by
 subst hn
 go_enter Tryz.func293,Tryz.ntmps293
 go_wp2
 go_loopw [5,8] (fun _ i wr=>∃ k:Nat,k≤xs.length∧i=.int .i64 k∧(∀ y∈xs.take k,(x==y)=false)∧w=wr) (fun _ i _=>xs.length - (intOf i).toNat)
 case atStart=>exact ⟨0,Nat.zero_le _,rfl,fun p hp=>by simp at hp,rfl⟩
 case round =>
  obtain ⟨k,hk,rfl,hf,rfl⟩:=hrel
  have HF:=hid hf
  clear hf
  by_cases hlt:k<xs.length
  ·obtain ⟨b,off,rfl,hb,c0⟩:=RdI_at hr hlt
   have HHit:=hid (idxI_hit x xs k hlt HF.out)
   have HSt:=hid (take_growV (fun y=>(x==y)=false) xs k hlt HF.out)
   generalize xs[k]=y at *
   cases hv:(x==y)
   ·go_wp2
    go_roundw
    case rel=>exact ⟨k+1,by omega,by go_num,HSt.out hv,by first | rfl | trivial⟩
    case measure=>simp [intOf];omega
   ·go_wp2
    go_ret
    exact ⟨by rw [HHit.out hv];rfl,rfl⟩
  ·have HNo:=hid (idxI_none x xs (fun y hy=>HF.out y (by rw [List.take_of_length_le (by omega)];exact hy)))
   go_wp2
   go_ret
   exact ⟨by rw [HNo.out];rfl,rfl⟩
theorem intCont_any (xs:List Int) (x:Int) (A:Option Addr) (n c:Nat) (w:World) (hn:n=xs.length) (hr:RdI w w.heap.size A xs) (hm:xs.length≤9223372036854775807) :
  Calls Tryz.prog 270 #[.slice A n c,.int .i64 x] w fun e w'=>e=.returned (.bool (decide (x∈xs)))∧w=w':=by
 have HI:=hid (intIdx_any xs x A n c w hn hr hm)
 have HH:=hid (idxI_has x xs)
 clear hn hr hm
 go_enter Tryz.func270,Tryz.ntmps270
 go_wp2_with (go_at_call 293;refine HI.out.mono ?_;rintro e w' ⟨rfl,rfl⟩)
 go_ret
 exact ⟨ret_bool HH.out,rfl⟩
theorem eq_takeV {T:Type} (xs ys:List T) (k:Nat) (hk:k<xs.length) (hk2:k<ys.length) (h:xs.take k=ys.take k) (he:xs[k]=ys[k]):xs.take (k+1)=ys.take (k+1):=by
 rw [List.take_succ_eq_append_getElem hk,List.take_succ_eq_append_getElem hk2,h,he]
theorem ne_atV {T:Type} (xs ys:List T) (k:Nat) (hk:k<xs.length) (hk2:k<ys.length) (he:¬ xs[k]=ys[k]):¬ xs=ys:=fun h=>he (by subst h;rfl)
theorem intEq_any (xs ys:List Int) (A B:Option Addr) (n m c d:Nat) (w:World) (hn:n=xs.length) (hm:m=ys.length) (hr:RdI w w.heap.size A xs) (hs:RdI w w.heap.size B ys) (hx:xs.length≤9223372036854775807) (hy:ys.length≤9223372036854775807) :
  Calls Tryz.prog 152 #[.slice A n c,.slice B m d] w fun e w'=>e=.returned (.bool (decide (xs=ys)))∧Below w.heap.size w w':=by
 subst hn hm
 have HR:=hid hr
 have HS:=hid hs
 clear hr hs
 by_cases hl:xs.length=ys.length
 ·have hl2:((xs.length:Int) != ys.length)=false:=by simp [hl]
  go_enter Tryz.func152,Tryz.ntmps152
  have HL:=hid hl
  clear hl
  go_wp2
  go_loopw [5,13] (fun _ i wr=>∃ k:Nat,k≤xs.length∧i=.int .i64 k∧xs.take k=ys.take k∧Below w.heap.size w wr) (fun _ i _=>xs.length - (intOf i).toNat)
  case atStart=>exact ⟨0,Nat.zero_le _,rfl,by simp,Below.refl _ _⟩
  case round =>
   obtain ⟨k,hk,rfl,hf,hbw⟩:=hrel
   have HF:=hid hf
   have HB:=hid hbw
   clear hf
   by_cases hlt:k<xs.length
   ·have hlt2:k<ys.length:=by have:=HL.out;omega
    obtain ⟨b,off,hA,hb,c0⟩:=RdI_at (HR.out.now hbw) hlt
    obtain ⟨b2,off2,hA2,hb2,c1⟩:=RdI_at (HS.out.now hbw) hlt2
    subst hA hA2
    have HSt:=hid (eq_takeV xs ys k hlt hlt2 HF.out)
    have HNe:=hid (ne_atV xs ys k hlt hlt2)
    have hi0:(0:Int)≤(k:Int):=by omega
    have hi1:(k:Int)<(xs.length:Int):=by omega
    have hi2:(k:Int)<(ys.length:Int):=by omega
    clear hbw
    generalize xs[k]=x at *
    generalize ys[k]=y at *
    by_cases hv:x=y
    ·have hv2:(x != y)=false:=by simp [hv]
     have HV:=hid hv
     clear hv
     go_wp2_with fail
     go_quiet (fail)
     go_wp2
     go_roundw
     case rel=>exact ⟨k+1,by omega,by go_num,HSt.out HV.out,below_drewN HB.out _⟩
     case measure=>simp [intOf];omega
    ·have hv2:(x != y)=true:=by simp [hv]
     have HV:=hid (HNe.out hv)
     clear hv
     go_wp2_with fail
     go_quiet (fail)
     go_wp2
     go_ret
     exact ⟨ret_bool (decide_eq_false HV.out).symm,below_drewN HB.out _⟩
   ·have HE:Hid (xs=ys):=hid (by
     have h1:=HF.out
     have:=HL.out
     rwa [List.take_of_length_le (by omega),List.take_of_length_le (by omega)] at h1)
    go_wp2
    go_ret
    exact ⟨ret_bool (decide_eq_true HE.out).symm,HB.out⟩
 ·have hl2:((xs.length:Int) != ys.length)=true:=by simp;omega
  have hne:decide (xs=ys)=false:=decide_eq_false (fun h=>hl (by rw [h]))
  rw [hne]
  clear hne hl
  go_enter Tryz.func152,Tryz.ntmps152
  go_wp2
  go_ret
  exact ⟨rfl,Below.refl _ _⟩
theorem rInts_any (xs ys:List Int) (A B:Option Addr) (n m c d:Nat) (w:World) (hn:n=xs.length) (hm:m=ys.length) (hr:RdI w w.heap.size A xs) (hs:RdI w w.heap.size B ys) (hx:xs.length≤9223372036854775807) (hy:ys.length≤9223372036854775807) :
  Calls Tryz.prog 233 #[.slice A n c,.slice B m d] w fun e w'=>e=.returned (.bool (decide (xs=ys)))∧Below w.heap.size w w':=by
 subst hn hm
 have HR:=hid hr
 have HS:=hid hs
 clear hr hs
 by_cases hl:xs.length=ys.length
 ·have hl2:((xs.length:Int) != ys.length)=false:=by simp [hl]
  go_enter Tryz.func233,Tryz.ntmps233
  have HL:=hid hl
  clear hl
  go_wp2
  go_loopw [5] (fun  i wr=>∃ k:Nat,k≤xs.length∧i=.int .i64 k∧xs.take k=ys.take k∧Below w.heap.size w wr) (fun  i _=>xs.length - (intOf i).toNat)
  case atStart=>exact ⟨0,Nat.zero_le _,rfl,by simp,Below.refl _ _⟩
  case round =>
   obtain ⟨k,hk,rfl,hf,hbw⟩:=hrel
   have HF:=hid hf
   have HB:=hid hbw
   clear hf
   by_cases hlt:k<xs.length
   ·have hlt2:k<ys.length:=by have:=HL.out;omega
    obtain ⟨b,off,hA,hb,c0⟩:=RdI_at (HR.out.now hbw) hlt
    obtain ⟨b2,off2,hA2,hb2,c1⟩:=RdI_at (HS.out.now hbw) hlt2
    subst hA hA2
    have HSt:=hid (eq_takeV xs ys k hlt hlt2 HF.out)
    have HNe:=hid (ne_atV xs ys k hlt hlt2)
    have hi0:(0:Int)≤(k:Int):=by omega
    have hi1:(k:Int)<(xs.length:Int):=by omega
    have hi2:(k:Int)<(ys.length:Int):=by omega
    clear hbw
    generalize xs[k]=x at *
    generalize ys[k]=y at *
    by_cases hv:x=y
    ·have hv2:(x != y)=false:=by simp [hv]
     have HV:=hid hv
     clear hv
     go_wp2_with fail
     go_quiet (fail)
     go_wp2
     go_roundw
     case rel=>exact ⟨k+1,by omega,by go_num,HSt.out HV.out,below_drewN HB.out _⟩
     case measure=>simp [intOf];omega
    ·have hv2:(x != y)=true:=by simp [hv]
     have HV:=hid (HNe.out hv)
     clear hv
     go_wp2_with fail
     go_quiet (fail)
     go_wp2
     go_ret
     exact ⟨ret_bool (decide_eq_false HV.out).symm,below_drewN HB.out _⟩
   ·have HE:Hid (xs=ys):=hid (by
     have h1:=HF.out
     have:=HL.out
     rwa [List.take_of_length_le (by omega),List.take_of_length_le (by omega)] at h1)
    go_wp2
    go_ret
    exact ⟨ret_bool (decide_eq_true HE.out).symm,HB.out⟩
 ·have hl2:((xs.length:Int) != ys.length)=true:=by simp;omega
  have hne:decide (xs=ys)=false:=decide_eq_false (fun h=>hl (by rw [h]))
  rw [hne]
  clear hne hl
  go_enter Tryz.func233,Tryz.ntmps233
  go_wp2
  go_ret
  exact ⟨rfl,Below.refl _ _⟩
/- Rows of numbers (the small structs of a state,layer 46),and equality of lists of them (written by gensta.py). -/
set_option maxRecDepth 100000
structure D2 where
 a:Int
 b:Int
deriving DecidableEq
def D2.cs (x:D2):List Value:=[.int .i64 x.a,.int .i64 x.b]
abbrev D2.v (x:D2):Value:=.agg #[.int .i64 x.a,.int .i64 x.b]
theorem layD2:Lay 2 D2.cs:=⟨fun _=>rfl,fun x u hu=>by simp only [D2.cs,List.mem_cons,List.not_mem_nil,or_false] at hu;rcases hu with rfl | rfl <;> rfl⟩
theorem rdD2 {w:World} {B:Nat} {A:Option Addr} {k:Nat} {xs:List D2} (h:RdL 2 D2.cs w B A xs) (hk:k<xs.length):∃ b off,A=some ⟨b,off,none⟩∧b<B∧w.cell? ⟨b,off+k * 2,none⟩=some (.int .i64 xs[k].a)∧w.cell? ⟨b,off+k * 2+1,none⟩=some (.int .i64 xs[k].b):=by
 obtain ⟨b,off,e,hb,hc⟩:=h.at_ hk
 exact ⟨b,off,e,hb,hc 0 _ rfl,hc 1 _ rfl⟩
structure D3 where
 a:Int
 b:Int
 c:Int
deriving DecidableEq
def D3.cs (x:D3):List Value:=[.int .i64 x.a,.int .i64 x.b,.int .i64 x.c]
abbrev D3.v (x:D3):Value:=.agg #[.int .i64 x.a,.int .i64 x.b,.int .i64 x.c]
theorem layD3:Lay 3 D3.cs:=⟨fun _=>rfl,fun x u hu=>by simp only [D3.cs,List.mem_cons,List.not_mem_nil,or_false] at hu;rcases hu with rfl | rfl | rfl <;> rfl⟩
theorem rdD3 {w:World} {B:Nat} {A:Option Addr} {k:Nat} {xs:List D3} (h:RdL 3 D3.cs w B A xs) (hk:k<xs.length):∃ b off,A=some ⟨b,off,none⟩∧b<B∧w.cell? ⟨b,off+k * 3,none⟩=some (.int .i64 xs[k].a)∧w.cell? ⟨b,off+k * 3+1,none⟩=some (.int .i64 xs[k].b)∧w.cell? ⟨b,off+k * 3+2,none⟩=some (.int .i64 xs[k].c):=by
 obtain ⟨b,off,e,hb,hc⟩:=h.at_ hk
 exact ⟨b,off,e,hb,hc 0 _ rfl,hc 1 _ rfl,hc 2 _ rfl⟩
structure D4 where
 a:Int
 b:Int
 c:Int
 d:Int
deriving DecidableEq
def D4.cs (x:D4):List Value:=[.int .i64 x.a,.int .i64 x.b,.int .i64 x.c,.int .i64 x.d]
abbrev D4.v (x:D4):Value:=.agg #[.int .i64 x.a,.int .i64 x.b,.int .i64 x.c,.int .i64 x.d]
theorem layD4:Lay 4 D4.cs:=⟨fun _=>rfl,fun x u hu=>by simp only [D4.cs,List.mem_cons,List.not_mem_nil,or_false] at hu;rcases hu with rfl | rfl | rfl | rfl <;> rfl⟩
theorem rdD4 {w:World} {B:Nat} {A:Option Addr} {k:Nat} {xs:List D4} (h:RdL 4 D4.cs w B A xs) (hk:k<xs.length):∃ b off,A=some ⟨b,off,none⟩∧b<B∧w.cell? ⟨b,off+k * 4,none⟩=some (.int .i64 xs[k].a)∧w.cell? ⟨b,off+k * 4+1,none⟩=some (.int .i64 xs[k].b)∧w.cell? ⟨b,off+k * 4+2,none⟩=some (.int .i64 xs[k].c)∧w.cell? ⟨b,off+k * 4+3,none⟩=some (.int .i64 xs[k].d):=by
 obtain ⟨b,off,e,hb,hc⟩:=h.at_ hk
 exact ⟨b,off,e,hb,hc 0 _ rfl,hc 1 _ rfl,hc 2 _ rfl,hc 3 _ rfl⟩
structure E3 where
 a:Int
 b:Int
 t:Bool
deriving DecidableEq
def E3.cs (x:E3):List Value:=[.int .i64 x.a,.int .i64 x.b,.bool x.t]
abbrev E3.v (x:E3):Value:=.agg #[.int .i64 x.a,.int .i64 x.b,.bool x.t]
theorem layE3:Lay 3 E3.cs:=⟨fun _=>rfl,fun x u hu=>by simp only [E3.cs,List.mem_cons,List.not_mem_nil,or_false] at hu;rcases hu with rfl | rfl | rfl <;> rfl⟩
theorem rdE3 {w:World} {B:Nat} {A:Option Addr} {k:Nat} {xs:List E3} (h:RdL 3 E3.cs w B A xs) (hk:k<xs.length):∃ b off,A=some ⟨b,off,none⟩∧b<B∧w.cell? ⟨b,off+k * 3,none⟩=some (.int .i64 xs[k].a)∧w.cell? ⟨b,off+k * 3+1,none⟩=some (.int .i64 xs[k].b)∧w.cell? ⟨b,off+k * 3+2,none⟩=some (.bool xs[k].t):=by
 obtain ⟨b,off,e,hb,hc⟩:=h.at_ hk
 exact ⟨b,off,e,hb,hc 0 _ rfl,hc 1 _ rfl,hc 2 _ rfl⟩
structure E5 where
 a:Int
 b:Int
 c:Int
 d:Int
 t:Bool
deriving DecidableEq
def E5.cs (x:E5):List Value:=[.int .i64 x.a,.int .i64 x.b,.int .i64 x.c,.int .i64 x.d,.bool x.t]
abbrev E5.v (x:E5):Value:=.agg #[.int .i64 x.a,.int .i64 x.b,.int .i64 x.c,.int .i64 x.d,.bool x.t]
theorem layE5:Lay 5 E5.cs:=⟨fun _=>rfl,fun x u hu=>by simp only [E5.cs,List.mem_cons,List.not_mem_nil,or_false] at hu;rcases hu with rfl | rfl | rfl | rfl | rfl <;> rfl⟩
theorem rdE5 {w:World} {B:Nat} {A:Option Addr} {k:Nat} {xs:List E5} (h:RdL 5 E5.cs w B A xs) (hk:k<xs.length):∃ b off,A=some ⟨b,off,none⟩∧b<B∧w.cell? ⟨b,off+k * 5,none⟩=some (.int .i64 xs[k].a)∧w.cell? ⟨b,off+k * 5+1,none⟩=some (.int .i64 xs[k].b)∧w.cell? ⟨b,off+k * 5+2,none⟩=some (.int .i64 xs[k].c)∧w.cell? ⟨b,off+k * 5+3,none⟩=some (.int .i64 xs[k].d)∧w.cell? ⟨b,off+k * 5+4,none⟩=some (.bool xs[k].t):=by
 obtain ⟨b,off,e,hb,hc⟩:=h.at_ hk
 exact ⟨b,off,e,hb,hc 0 _ rfl,hc 1 _ rfl,hc 2 _ rfl,hc 3 _ rfl,hc 4 _ rfl⟩
theorem same_hit2 {T:Type} [DecidableEq T] (xs ys:List T) (k:Nat) (hk:k<xs.length) (hk2:k<ys.length) (hne:xs[k]≠ys[k]):decide (xs=ys)=false:=by
 rw [decide_eq_false_iff_not]
 rintro rfl
 exact hne rfl
theorem neqWaiting (x y:D4) (h:x≠y) (w:World):(binOp .neq 61 x.v y.v).run Tryz.prog w=.ok (.bool true) w:=by
 obtain ⟨a1,b1,c1,d1⟩:=x
 obtain ⟨a2,b2,c2,d2⟩:=y
 by_cases h0:a1=a2 <;> by_cases h1:b1=b2 <;> by_cases h2:c1=c2 <;> by_cases h3:d1=d2 <;> first | (exfalso;exact h (by rw [h0,h1,h2,h3])) | simp [go_sem,h0,h1,h2,h3]
theorem qWaiting_any (xs ys:List D4) (A B:Option Addr) (c d:Nat) (w:World) (hr:RdL 4 D4.cs w w.heap.size A xs) (hs:RdL 4 D4.cs w w.heap.size B ys) (hx:xs.length≤9223372036854775807) (hy:ys.length≤9223372036854775807) :
  Calls Tryz.prog 63 #[.slice A xs.length c,.slice B ys.length d] w fun e w'=>e=.returned (.bool (decide (xs=ys)))∧Below w.heap.size w w':=by
 have HR:=hid hr
 have HS:=hid hs
 clear hr hs
 by_cases hl:xs.length=ys.length
 ·have hl2:((xs.length:Int) != ys.length)=false:=by simp [hl]
  go_enter Tryz.func63,Tryz.ntmps63
  have HL:=hid hl
  clear hl
  go_wp2_with fail
  go_loopw [5] (fun i wr=>∃ k:Nat,k≤xs.length∧i=.int .i64 k∧xs.take k=ys.take k∧Below w.heap.size w wr) (fun i _=>xs.length - (intOf i).toNat)
  case atStart=>exact ⟨0,Nat.zero_le _,rfl,by simp,Below.refl _ _⟩
  case round =>
   obtain ⟨k,hk,rfl,hf,hbw⟩:=hrel
   have HF:=hid hf
   have HB:=hid hbw
   clear hf
   by_cases hlt:k<xs.length
   ·have hlt2:k<ys.length:=by have:=HL.out;omega
    obtain ⟨b,off,hA,hb,c0,c1,c2,c3⟩:=rdD4 (HR.out.now hbw) hlt
    obtain ⟨b2,off2,hA2,hb2,e0,e1,e2,e3⟩:=rdD4 (HS.out.now hbw) hlt2
    subst hA hA2
    have HSt:=hid (eq_takeV xs ys k hlt hlt2 HF.out)
    have HNe:=hid (same_hit2 xs ys k hlt hlt2)
    clear hbw
    generalize xs[k]=x at *
    generalize ys[k]=y at *
    by_cases hv:x=y
    ·have HS2:=hid (HSt.out hv)
     subst hv
     clear HNe HSt
     go_wp2_with fail
     go_quiet (fail)
     have HBq:=hid (below_drewN HB.out nq)
     go_wp2_with fail
     go_roundw
     case rel=>exact ⟨k+1,by omega,by go_num,HS2.out,HBq.out⟩
     case measure=>simp [intOf];omega
    ·have hrun:=neqWaiting x y hv
     have HN:=hid (HNe.out hv)
     clear HNe HSt hv
     go_wp2_with fail
     go_quiet (fail)
     have HBq:=hid (below_drewN HB.out nq)
     go_wp2_with fail
     go_ret
     exact ⟨by rw [HN.out];rfl,HBq.out⟩
   ·have HZ:Hid (xs=ys):=hid (by
     have h2:=HF.out
     have h3:=HL.out
     rwa [List.take_of_length_le (by omega),List.take_of_length_le (by omega)] at h2)
    obtain rfl:k=xs.length:=by omega
    go_wp2_with fail
    go_ret
    exact ⟨by rw [decide_eq_true HZ.out];rfl,HB.out⟩
 ·have hl2:((xs.length:Int) != (ys.length:Int))=true:=by rw [bne_iff_ne];omega
  have HL:=hid hl
  clear hl
  go_enter Tryz.func63,Tryz.ntmps63
  go_wp2_with fail
  go_ret
  exact ⟨by rw [decide_eq_false (fun e=>HL.out (by rw [e]))];rfl,Below.refl _ _⟩
theorem pWaiting_any (xs ys:List D4) (A B:Option Addr) (c d:Nat) (w:World) (hr:RdL 4 D4.cs w w.heap.size A xs) (hs:RdL 4 D4.cs w w.heap.size B ys) (hx:xs.length≤9223372036854775807) (hy:ys.length≤9223372036854775807) :
  Calls Tryz.prog 127 #[.slice A xs.length c,.slice B ys.length d] w fun e w'=>e=.returned (.bool (decide (xs=ys)))∧Below w.heap.size w w':=by
 have HR:=hid hr
 have HS:=hid hs
 clear hr hs
 by_cases hl:xs.length=ys.length
 ·have hl2:((xs.length:Int) != ys.length)=false:=by simp [hl]
  go_enter Tryz.func127,Tryz.ntmps127
  have HL:=hid hl
  clear hl
  go_wp2_with fail
  go_loopw [5,13] (fun _ i wr=>∃ k:Nat,k≤xs.length∧i=.int .i64 k∧xs.take k=ys.take k∧Below w.heap.size w wr) (fun _ i _=>xs.length - (intOf i).toNat)
  case atStart=>exact ⟨0,Nat.zero_le _,rfl,by simp,Below.refl _ _⟩
  case round =>
   obtain ⟨k,hk,rfl,hf,hbw⟩:=hrel
   have HF:=hid hf
   have HB:=hid hbw
   clear hf
   by_cases hlt:k<xs.length
   ·have hlt2:k<ys.length:=by have:=HL.out;omega
    obtain ⟨b,off,hA,hb,c0,c1,c2,c3⟩:=rdD4 (HR.out.now hbw) hlt
    obtain ⟨b2,off2,hA2,hb2,e0,e1,e2,e3⟩:=rdD4 (HS.out.now hbw) hlt2
    subst hA hA2
    have HSt:=hid (eq_takeV xs ys k hlt hlt2 HF.out)
    have HNe:=hid (same_hit2 xs ys k hlt hlt2)
    clear hbw
    generalize xs[k]=x at *
    generalize ys[k]=y at *
    by_cases hv:x=y
    ·have HS2:=hid (HSt.out hv)
     subst hv
     clear HNe HSt
     go_wp2_with fail
     go_quiet (fail)
     have HBq:=hid (below_drewN HB.out nq)
     go_wp2_with fail
     go_roundw
     case rel=>exact ⟨k+1,by omega,by go_num,HS2.out,HBq.out⟩
     case measure=>simp [intOf];omega
    ·have hrun:=neqWaiting x y hv
     have HN:=hid (HNe.out hv)
     clear HNe HSt hv
     go_wp2_with fail
     go_quiet (fail)
     have HBq:=hid (below_drewN HB.out nq)
     go_wp2_with fail
     go_ret
     exact ⟨by rw [HN.out];rfl,HBq.out⟩
   ·have HZ:Hid (xs=ys):=hid (by
     have h2:=HF.out
     have h3:=HL.out
     rwa [List.take_of_length_le (by omega),List.take_of_length_le (by omega)] at h2)
    obtain rfl:k=xs.length:=by omega
    go_wp2_with fail
    go_ret
    exact ⟨by rw [decide_eq_true HZ.out];rfl,HB.out⟩
 ·have hl2:((xs.length:Int) != (ys.length:Int))=true:=by rw [bne_iff_ne];omega
  have HL:=hid hl
  clear hl
  go_enter Tryz.func127,Tryz.ntmps127
  go_wp2_with fail
  go_ret
  exact ⟨by rw [decide_eq_false (fun e=>HL.out (by rw [e]))];rfl,Below.refl _ _⟩
theorem neqSent (x y:D3) (h:x≠y) (w:World):(binOp .neq 46 x.v y.v).run Tryz.prog w=.ok (.bool true) w:=by
 obtain ⟨a1,b1,c1⟩:=x
 obtain ⟨a2,b2,c2⟩:=y
 by_cases h0:a1=a2 <;> by_cases h1:b1=b2 <;> by_cases h2:c1=c2 <;> first | (exfalso;exact h (by rw [h0,h1,h2])) | simp [go_sem,h0,h1,h2]
theorem qSent_any (xs ys:List D3) (A B:Option Addr) (c d:Nat) (w:World) (hr:RdL 3 D3.cs w w.heap.size A xs) (hs:RdL 3 D3.cs w w.heap.size B ys) (hx:xs.length≤9223372036854775807) (hy:ys.length≤9223372036854775807) :
  Calls Tryz.prog 64 #[.slice A xs.length c,.slice B ys.length d] w fun e w'=>e=.returned (.bool (decide (xs=ys)))∧Below w.heap.size w w':=by
 have HR:=hid hr
 have HS:=hid hs
 clear hr hs
 by_cases hl:xs.length=ys.length
 ·have hl2:((xs.length:Int) != ys.length)=false:=by simp [hl]
  go_enter Tryz.func64,Tryz.ntmps64
  have HL:=hid hl
  clear hl
  go_wp2_with fail
  go_loopw [5] (fun i wr=>∃ k:Nat,k≤xs.length∧i=.int .i64 k∧xs.take k=ys.take k∧Below w.heap.size w wr) (fun i _=>xs.length - (intOf i).toNat)
  case atStart=>exact ⟨0,Nat.zero_le _,rfl,by simp,Below.refl _ _⟩
  case round =>
   obtain ⟨k,hk,rfl,hf,hbw⟩:=hrel
   have HF:=hid hf
   have HB:=hid hbw
   clear hf
   by_cases hlt:k<xs.length
   ·have hlt2:k<ys.length:=by have:=HL.out;omega
    obtain ⟨b,off,hA,hb,c0,c1,c2⟩:=rdD3 (HR.out.now hbw) hlt
    obtain ⟨b2,off2,hA2,hb2,e0,e1,e2⟩:=rdD3 (HS.out.now hbw) hlt2
    subst hA hA2
    have HSt:=hid (eq_takeV xs ys k hlt hlt2 HF.out)
    have HNe:=hid (same_hit2 xs ys k hlt hlt2)
    clear hbw
    generalize xs[k]=x at *
    generalize ys[k]=y at *
    by_cases hv:x=y
    ·have HS2:=hid (HSt.out hv)
     subst hv
     clear HNe HSt
     go_wp2_with fail
     go_quiet (fail)
     have HBq:=hid (below_drewN HB.out nq)
     go_wp2_with fail
     go_roundw
     case rel=>exact ⟨k+1,by omega,by go_num,HS2.out,HBq.out⟩
     case measure=>simp [intOf];omega
    ·have hrun:=neqSent x y hv
     have HN:=hid (HNe.out hv)
     clear HNe HSt hv
     go_wp2_with fail
     go_quiet (fail)
     have HBq:=hid (below_drewN HB.out nq)
     go_wp2_with fail
     go_ret
     exact ⟨by rw [HN.out];rfl,HBq.out⟩
   ·have HZ:Hid (xs=ys):=hid (by
     have h2:=HF.out
     have h3:=HL.out
     rwa [List.take_of_length_le (by omega),List.take_of_length_le (by omega)] at h2)
    obtain rfl:k=xs.length:=by omega
    go_wp2_with fail
    go_ret
    exact ⟨by rw [decide_eq_true HZ.out];rfl,HB.out⟩
 ·have hl2:((xs.length:Int) != (ys.length:Int))=true:=by rw [bne_iff_ne];omega
  have HL:=hid hl
  clear hl
  go_enter Tryz.func64,Tryz.ntmps64
  go_wp2_with fail
  go_ret
  exact ⟨by rw [decide_eq_false (fun e=>HL.out (by rw [e]))];rfl,Below.refl _ _⟩
theorem pSent_any (xs ys:List D3) (A B:Option Addr) (c d:Nat) (w:World) (hr:RdL 3 D3.cs w w.heap.size A xs) (hs:RdL 3 D3.cs w w.heap.size B ys) (hx:xs.length≤9223372036854775807) (hy:ys.length≤9223372036854775807) :
  Calls Tryz.prog 128 #[.slice A xs.length c,.slice B ys.length d] w fun e w'=>e=.returned (.bool (decide (xs=ys)))∧Below w.heap.size w w':=by
 have HR:=hid hr
 have HS:=hid hs
 clear hr hs
 by_cases hl:xs.length=ys.length
 ·have hl2:((xs.length:Int) != ys.length)=false:=by simp [hl]
  go_enter Tryz.func128,Tryz.ntmps128
  have HL:=hid hl
  clear hl
  go_wp2_with fail
  go_loopw [5,13] (fun _ i wr=>∃ k:Nat,k≤xs.length∧i=.int .i64 k∧xs.take k=ys.take k∧Below w.heap.size w wr) (fun _ i _=>xs.length - (intOf i).toNat)
  case atStart=>exact ⟨0,Nat.zero_le _,rfl,by simp,Below.refl _ _⟩
  case round =>
   obtain ⟨k,hk,rfl,hf,hbw⟩:=hrel
   have HF:=hid hf
   have HB:=hid hbw
   clear hf
   by_cases hlt:k<xs.length
   ·have hlt2:k<ys.length:=by have:=HL.out;omega
    obtain ⟨b,off,hA,hb,c0,c1,c2⟩:=rdD3 (HR.out.now hbw) hlt
    obtain ⟨b2,off2,hA2,hb2,e0,e1,e2⟩:=rdD3 (HS.out.now hbw) hlt2
    subst hA hA2
    have HSt:=hid (eq_takeV xs ys k hlt hlt2 HF.out)
    have HNe:=hid (same_hit2 xs ys k hlt hlt2)
    clear hbw
    generalize xs[k]=x at *
    generalize ys[k]=y at *
    by_cases hv:x=y
    ·have HS2:=hid (HSt.out hv)
     subst hv
     clear HNe HSt
     go_wp2_with fail
     go_quiet (fail)
     have HBq:=hid (below_drewN HB.out nq)
     go_wp2_with fail
     go_roundw
     case rel=>exact ⟨k+1,by omega,by go_num,HS2.out,HBq.out⟩
     case measure=>simp [intOf];omega
    ·have hrun:=neqSent x y hv
     have HN:=hid (HNe.out hv)
     clear HNe HSt hv
     go_wp2_with fail
     go_quiet (fail)
     have HBq:=hid (below_drewN HB.out nq)
     go_wp2_with fail
     go_ret
     exact ⟨by rw [HN.out];rfl,HBq.out⟩
   ·have HZ:Hid (xs=ys):=hid (by
     have h2:=HF.out
     have h3:=HL.out
     rwa [List.take_of_length_le (by omega),List.take_of_length_le (by omega)] at h2)
    obtain rfl:k=xs.length:=by omega
    go_wp2_with fail
    go_ret
    exact ⟨by rw [decide_eq_true HZ.out];rfl,HB.out⟩
 ·have hl2:((xs.length:Int) != (ys.length:Int))=true:=by rw [bne_iff_ne];omega
  have HL:=hid hl
  clear hl
  go_enter Tryz.func128,Tryz.ntmps128
  go_wp2_with fail
  go_ret
  exact ⟨by rw [decide_eq_false (fun e=>HL.out (by rw [e]))];rfl,Below.refl _ _⟩
theorem neqDebt (x y:D2) (h:x≠y) (w:World):(binOp .neq 48 x.v y.v).run Tryz.prog w=.ok (.bool true) w:=by
 obtain ⟨a1,b1⟩:=x
 obtain ⟨a2,b2⟩:=y
 by_cases h0:a1=a2 <;> by_cases h1:b1=b2 <;> first | (exfalso;exact h (by rw [h0,h1])) | simp [go_sem,h0,h1]
theorem qDebt_any (xs ys:List D2) (A B:Option Addr) (c d:Nat) (w:World) (hr:RdL 2 D2.cs w w.heap.size A xs) (hs:RdL 2 D2.cs w w.heap.size B ys) (hx:xs.length≤9223372036854775807) (hy:ys.length≤9223372036854775807) :
  Calls Tryz.prog 65 #[.slice A xs.length c,.slice B ys.length d] w fun e w'=>e=.returned (.bool (decide (xs=ys)))∧Below w.heap.size w w':=by
 have HR:=hid hr
 have HS:=hid hs
 clear hr hs
 by_cases hl:xs.length=ys.length
 ·have hl2:((xs.length:Int) != ys.length)=false:=by simp [hl]
  go_enter Tryz.func65,Tryz.ntmps65
  have HL:=hid hl
  clear hl
  go_wp2_with fail
  go_loopw [5] (fun i wr=>∃ k:Nat,k≤xs.length∧i=.int .i64 k∧xs.take k=ys.take k∧Below w.heap.size w wr) (fun i _=>xs.length - (intOf i).toNat)
  case atStart=>exact ⟨0,Nat.zero_le _,rfl,by simp,Below.refl _ _⟩
  case round =>
   obtain ⟨k,hk,rfl,hf,hbw⟩:=hrel
   have HF:=hid hf
   have HB:=hid hbw
   clear hf
   by_cases hlt:k<xs.length
   ·have hlt2:k<ys.length:=by have:=HL.out;omega
    obtain ⟨b,off,hA,hb,c0,c1⟩:=rdD2 (HR.out.now hbw) hlt
    obtain ⟨b2,off2,hA2,hb2,e0,e1⟩:=rdD2 (HS.out.now hbw) hlt2
    subst hA hA2
    have HSt:=hid (eq_takeV xs ys k hlt hlt2 HF.out)
    have HNe:=hid (same_hit2 xs ys k hlt hlt2)
    clear hbw
    generalize xs[k]=x at *
    generalize ys[k]=y at *
    by_cases hv:x=y
    ·have HS2:=hid (HSt.out hv)
     subst hv
     clear HNe HSt
     go_wp2_with fail
     go_quiet (fail)
     have HBq:=hid (below_drewN HB.out nq)
     go_wp2_with fail
     go_roundw
     case rel=>exact ⟨k+1,by omega,by go_num,HS2.out,HBq.out⟩
     case measure=>simp [intOf];omega
    ·have hrun:=neqDebt x y hv
     have HN:=hid (HNe.out hv)
     clear HNe HSt hv
     go_wp2_with fail
     go_quiet (fail)
     have HBq:=hid (below_drewN HB.out nq)
     go_wp2_with fail
     go_ret
     exact ⟨by rw [HN.out];rfl,HBq.out⟩
   ·have HZ:Hid (xs=ys):=hid (by
     have h2:=HF.out
     have h3:=HL.out
     rwa [List.take_of_length_le (by omega),List.take_of_length_le (by omega)] at h2)
    obtain rfl:k=xs.length:=by omega
    go_wp2_with fail
    go_ret
    exact ⟨by rw [decide_eq_true HZ.out];rfl,HB.out⟩
 ·have hl2:((xs.length:Int) != (ys.length:Int))=true:=by rw [bne_iff_ne];omega
  have HL:=hid hl
  clear hl
  go_enter Tryz.func65,Tryz.ntmps65
  go_wp2_with fail
  go_ret
  exact ⟨by rw [decide_eq_false (fun e=>HL.out (by rw [e]))];rfl,Below.refl _ _⟩
theorem pDebt_any (xs ys:List D2) (A B:Option Addr) (c d:Nat) (w:World) (hr:RdL 2 D2.cs w w.heap.size A xs) (hs:RdL 2 D2.cs w w.heap.size B ys) (hx:xs.length≤9223372036854775807) (hy:ys.length≤9223372036854775807) :
  Calls Tryz.prog 129 #[.slice A xs.length c,.slice B ys.length d] w fun e w'=>e=.returned (.bool (decide (xs=ys)))∧Below w.heap.size w w':=by
 have HR:=hid hr
 have HS:=hid hs
 clear hr hs
 by_cases hl:xs.length=ys.length
 ·have hl2:((xs.length:Int) != ys.length)=false:=by simp [hl]
  go_enter Tryz.func129,Tryz.ntmps129
  have HL:=hid hl
  clear hl
  go_wp2_with fail
  go_loopw [5,13] (fun _ i wr=>∃ k:Nat,k≤xs.length∧i=.int .i64 k∧xs.take k=ys.take k∧Below w.heap.size w wr) (fun _ i _=>xs.length - (intOf i).toNat)
  case atStart=>exact ⟨0,Nat.zero_le _,rfl,by simp,Below.refl _ _⟩
  case round =>
   obtain ⟨k,hk,rfl,hf,hbw⟩:=hrel
   have HF:=hid hf
   have HB:=hid hbw
   clear hf
   by_cases hlt:k<xs.length
   ·have hlt2:k<ys.length:=by have:=HL.out;omega
    obtain ⟨b,off,hA,hb,c0,c1⟩:=rdD2 (HR.out.now hbw) hlt
    obtain ⟨b2,off2,hA2,hb2,e0,e1⟩:=rdD2 (HS.out.now hbw) hlt2
    subst hA hA2
    have HSt:=hid (eq_takeV xs ys k hlt hlt2 HF.out)
    have HNe:=hid (same_hit2 xs ys k hlt hlt2)
    clear hbw
    generalize xs[k]=x at *
    generalize ys[k]=y at *
    by_cases hv:x=y
    ·have HS2:=hid (HSt.out hv)
     subst hv
     clear HNe HSt
     go_wp2_with fail
     go_quiet (fail)
     have HBq:=hid (below_drewN HB.out nq)
     go_wp2_with fail
     go_roundw
     case rel=>exact ⟨k+1,by omega,by go_num,HS2.out,HBq.out⟩
     case measure=>simp [intOf];omega
    ·have hrun:=neqDebt x y hv
     have HN:=hid (HNe.out hv)
     clear HNe HSt hv
     go_wp2_with fail
     go_quiet (fail)
     have HBq:=hid (below_drewN HB.out nq)
     go_wp2_with fail
     go_ret
     exact ⟨by rw [HN.out];rfl,HBq.out⟩
   ·have HZ:Hid (xs=ys):=hid (by
     have h2:=HF.out
     have h3:=HL.out
     rwa [List.take_of_length_le (by omega),List.take_of_length_le (by omega)] at h2)
    obtain rfl:k=xs.length:=by omega
    go_wp2_with fail
    go_ret
    exact ⟨by rw [decide_eq_true HZ.out];rfl,HB.out⟩
 ·have hl2:((xs.length:Int) != (ys.length:Int))=true:=by rw [bne_iff_ne];omega
  have HL:=hid hl
  clear hl
  go_enter Tryz.func129,Tryz.ntmps129
  go_wp2_with fail
  go_ret
  exact ⟨by rw [decide_eq_false (fun e=>HL.out (by rw [e]))];rfl,Below.refl _ _⟩
theorem neqPair (x y:D4) (h:x≠y) (w:World):(binOp .neq 88 x.v y.v).run Tryz.prog w=.ok (.bool true) w:=by
 obtain ⟨a1,b1,c1,d1⟩:=x
 obtain ⟨a2,b2,c2,d2⟩:=y
 by_cases h0:a1=a2 <;> by_cases h1:b1=b2 <;> by_cases h2:c1=c2 <;> by_cases h3:d1=d2 <;> first | (exfalso;exact h (by rw [h0,h1,h2,h3])) | simp [go_sem,h0,h1,h2,h3]
theorem qPair_any (xs ys:List D4) (A B:Option Addr) (c d:Nat) (w:World) (hr:RdL 4 D4.cs w w.heap.size A xs) (hs:RdL 4 D4.cs w w.heap.size B ys) (hx:xs.length≤9223372036854775807) (hy:ys.length≤9223372036854775807) :
  Calls Tryz.prog 66 #[.slice A xs.length c,.slice B ys.length d] w fun e w'=>e=.returned (.bool (decide (xs=ys)))∧Below w.heap.size w w':=by
 have HR:=hid hr
 have HS:=hid hs
 clear hr hs
 by_cases hl:xs.length=ys.length
 ·have hl2:((xs.length:Int) != ys.length)=false:=by simp [hl]
  go_enter Tryz.func66,Tryz.ntmps66
  have HL:=hid hl
  clear hl
  go_wp2_with fail
  go_loopw [5] (fun i wr=>∃ k:Nat,k≤xs.length∧i=.int .i64 k∧xs.take k=ys.take k∧Below w.heap.size w wr) (fun i _=>xs.length - (intOf i).toNat)
  case atStart=>exact ⟨0,Nat.zero_le _,rfl,by simp,Below.refl _ _⟩
  case round =>
   obtain ⟨k,hk,rfl,hf,hbw⟩:=hrel
   have HF:=hid hf
   have HB:=hid hbw
   clear hf
   by_cases hlt:k<xs.length
   ·have hlt2:k<ys.length:=by have:=HL.out;omega
    obtain ⟨b,off,hA,hb,c0,c1,c2,c3⟩:=rdD4 (HR.out.now hbw) hlt
    obtain ⟨b2,off2,hA2,hb2,e0,e1,e2,e3⟩:=rdD4 (HS.out.now hbw) hlt2
    subst hA hA2
    have HSt:=hid (eq_takeV xs ys k hlt hlt2 HF.out)
    have HNe:=hid (same_hit2 xs ys k hlt hlt2)
    clear hbw
    generalize xs[k]=x at *
    generalize ys[k]=y at *
    by_cases hv:x=y
    ·have HS2:=hid (HSt.out hv)
     subst hv
     clear HNe HSt
     go_wp2_with fail
     go_quiet (fail)
     have HBq:=hid (below_drewN HB.out nq)
     go_wp2_with fail
     go_roundw
     case rel=>exact ⟨k+1,by omega,by go_num,HS2.out,HBq.out⟩
     case measure=>simp [intOf];omega
    ·have hrun:=neqPair x y hv
     have HN:=hid (HNe.out hv)
     clear HNe HSt hv
     go_wp2_with fail
     go_quiet (fail)
     have HBq:=hid (below_drewN HB.out nq)
     go_wp2_with fail
     go_ret
     exact ⟨by rw [HN.out];rfl,HBq.out⟩
   ·have HZ:Hid (xs=ys):=hid (by
     have h2:=HF.out
     have h3:=HL.out
     rwa [List.take_of_length_le (by omega),List.take_of_length_le (by omega)] at h2)
    obtain rfl:k=xs.length:=by omega
    go_wp2_with fail
    go_ret
    exact ⟨by rw [decide_eq_true HZ.out];rfl,HB.out⟩
 ·have hl2:((xs.length:Int) != (ys.length:Int))=true:=by rw [bne_iff_ne];omega
  have HL:=hid hl
  clear hl
  go_enter Tryz.func66,Tryz.ntmps66
  go_wp2_with fail
  go_ret
  exact ⟨by rw [decide_eq_false (fun e=>HL.out (by rw [e]))];rfl,Below.refl _ _⟩
theorem pPair_any (xs ys:List D4) (A B:Option Addr) (c d:Nat) (w:World) (hr:RdL 4 D4.cs w w.heap.size A xs) (hs:RdL 4 D4.cs w w.heap.size B ys) (hx:xs.length≤9223372036854775807) (hy:ys.length≤9223372036854775807) :
  Calls Tryz.prog 130 #[.slice A xs.length c,.slice B ys.length d] w fun e w'=>e=.returned (.bool (decide (xs=ys)))∧Below w.heap.size w w':=by
 have HR:=hid hr
 have HS:=hid hs
 clear hr hs
 by_cases hl:xs.length=ys.length
 ·have hl2:((xs.length:Int) != ys.length)=false:=by simp [hl]
  go_enter Tryz.func130,Tryz.ntmps130
  have HL:=hid hl
  clear hl
  go_wp2_with fail
  go_loopw [5,13] (fun _ i wr=>∃ k:Nat,k≤xs.length∧i=.int .i64 k∧xs.take k=ys.take k∧Below w.heap.size w wr) (fun _ i _=>xs.length - (intOf i).toNat)
  case atStart=>exact ⟨0,Nat.zero_le _,rfl,by simp,Below.refl _ _⟩
  case round =>
   obtain ⟨k,hk,rfl,hf,hbw⟩:=hrel
   have HF:=hid hf
   have HB:=hid hbw
   clear hf
   by_cases hlt:k<xs.length
   ·have hlt2:k<ys.length:=by have:=HL.out;omega
    obtain ⟨b,off,hA,hb,c0,c1,c2,c3⟩:=rdD4 (HR.out.now hbw) hlt
    obtain ⟨b2,off2,hA2,hb2,e0,e1,e2,e3⟩:=rdD4 (HS.out.now hbw) hlt2
    subst hA hA2
    have HSt:=hid (eq_takeV xs ys k hlt hlt2 HF.out)
    have HNe:=hid (same_hit2 xs ys k hlt hlt2)
    clear hbw
    generalize xs[k]=x at *
    generalize ys[k]=y at *
    by_cases hv:x=y
    ·have HS2:=hid (HSt.out hv)
     subst hv
     clear HNe HSt
     go_wp2_with fail
     go_quiet (fail)
     have HBq:=hid (below_drewN HB.out nq)
     go_wp2_with fail
     go_roundw
     case rel=>exact ⟨k+1,by omega,by go_num,HS2.out,HBq.out⟩
     case measure=>simp [intOf];omega
    ·have hrun:=neqPair x y hv
     have HN:=hid (HNe.out hv)
     clear HNe HSt hv
     go_wp2_with fail
     go_quiet (fail)
     have HBq:=hid (below_drewN HB.out nq)
     go_wp2_with fail
     go_ret
     exact ⟨by rw [HN.out];rfl,HBq.out⟩
   ·have HZ:Hid (xs=ys):=hid (by
     have h2:=HF.out
     have h3:=HL.out
     rwa [List.take_of_length_le (by omega),List.take_of_length_le (by omega)] at h2)
    obtain rfl:k=xs.length:=by omega
    go_wp2_with fail
    go_ret
    exact ⟨by rw [decide_eq_true HZ.out];rfl,HB.out⟩
 ·have hl2:((xs.length:Int) != (ys.length:Int))=true:=by rw [bne_iff_ne];omega
  have HL:=hid hl
  clear hl
  go_enter Tryz.func130,Tryz.ntmps130
  go_wp2_with fail
  go_ret
  exact ⟨by rw [decide_eq_false (fun e=>HL.out (by rw [e]))];rfl,Below.refl _ _⟩
theorem neqProof (x y:D3) (h:x≠y) (w:World):(binOp .neq 92 x.v y.v).run Tryz.prog w=.ok (.bool true) w:=by
 obtain ⟨a1,b1,c1⟩:=x
 obtain ⟨a2,b2,c2⟩:=y
 by_cases h0:a1=a2 <;> by_cases h1:b1=b2 <;> by_cases h2:c1=c2 <;> first | (exfalso;exact h (by rw [h0,h1,h2])) | simp [go_sem,h0,h1,h2]
theorem qProof_any (xs ys:List D3) (A B:Option Addr) (c d:Nat) (w:World) (hr:RdL 3 D3.cs w w.heap.size A xs) (hs:RdL 3 D3.cs w w.heap.size B ys) (hx:xs.length≤9223372036854775807) (hy:ys.length≤9223372036854775807) :
  Calls Tryz.prog 67 #[.slice A xs.length c,.slice B ys.length d] w fun e w'=>e=.returned (.bool (decide (xs=ys)))∧Below w.heap.size w w':=by
 have HR:=hid hr
 have HS:=hid hs
 clear hr hs
 by_cases hl:xs.length=ys.length
 ·have hl2:((xs.length:Int) != ys.length)=false:=by simp [hl]
  go_enter Tryz.func67,Tryz.ntmps67
  have HL:=hid hl
  clear hl
  go_wp2_with fail
  go_loopw [5] (fun i wr=>∃ k:Nat,k≤xs.length∧i=.int .i64 k∧xs.take k=ys.take k∧Below w.heap.size w wr) (fun i _=>xs.length - (intOf i).toNat)
  case atStart=>exact ⟨0,Nat.zero_le _,rfl,by simp,Below.refl _ _⟩
  case round =>
   obtain ⟨k,hk,rfl,hf,hbw⟩:=hrel
   have HF:=hid hf
   have HB:=hid hbw
   clear hf
   by_cases hlt:k<xs.length
   ·have hlt2:k<ys.length:=by have:=HL.out;omega
    obtain ⟨b,off,hA,hb,c0,c1,c2⟩:=rdD3 (HR.out.now hbw) hlt
    obtain ⟨b2,off2,hA2,hb2,e0,e1,e2⟩:=rdD3 (HS.out.now hbw) hlt2
    subst hA hA2
    have HSt:=hid (eq_takeV xs ys k hlt hlt2 HF.out)
    have HNe:=hid (same_hit2 xs ys k hlt hlt2)
    clear hbw
    generalize xs[k]=x at *
    generalize ys[k]=y at *
    by_cases hv:x=y
    ·have HS2:=hid (HSt.out hv)
     subst hv
     clear HNe HSt
     go_wp2_with fail
     go_quiet (fail)
     have HBq:=hid (below_drewN HB.out nq)
     go_wp2_with fail
     go_roundw
     case rel=>exact ⟨k+1,by omega,by go_num,HS2.out,HBq.out⟩
     case measure=>simp [intOf];omega
    ·have hrun:=neqProof x y hv
     have HN:=hid (HNe.out hv)
     clear HNe HSt hv
     go_wp2_with fail
     go_quiet (fail)
     have HBq:=hid (below_drewN HB.out nq)
     go_wp2_with fail
     go_ret
     exact ⟨by rw [HN.out];rfl,HBq.out⟩
   ·have HZ:Hid (xs=ys):=hid (by
     have h2:=HF.out
     have h3:=HL.out
     rwa [List.take_of_length_le (by omega),List.take_of_length_le (by omega)] at h2)
    obtain rfl:k=xs.length:=by omega
    go_wp2_with fail
    go_ret
    exact ⟨by rw [decide_eq_true HZ.out];rfl,HB.out⟩
 ·have hl2:((xs.length:Int) != (ys.length:Int))=true:=by rw [bne_iff_ne];omega
  have HL:=hid hl
  clear hl
  go_enter Tryz.func67,Tryz.ntmps67
  go_wp2_with fail
  go_ret
  exact ⟨by rw [decide_eq_false (fun e=>HL.out (by rw [e]))];rfl,Below.refl _ _⟩
theorem pProof_any (xs ys:List D3) (A B:Option Addr) (c d:Nat) (w:World) (hr:RdL 3 D3.cs w w.heap.size A xs) (hs:RdL 3 D3.cs w w.heap.size B ys) (hx:xs.length≤9223372036854775807) (hy:ys.length≤9223372036854775807) :
  Calls Tryz.prog 131 #[.slice A xs.length c,.slice B ys.length d] w fun e w'=>e=.returned (.bool (decide (xs=ys)))∧Below w.heap.size w w':=by
 have HR:=hid hr
 have HS:=hid hs
 clear hr hs
 by_cases hl:xs.length=ys.length
 ·have hl2:((xs.length:Int) != ys.length)=false:=by simp [hl]
  go_enter Tryz.func131,Tryz.ntmps131
  have HL:=hid hl
  clear hl
  go_wp2_with fail
  go_loopw [5,13] (fun _ i wr=>∃ k:Nat,k≤xs.length∧i=.int .i64 k∧xs.take k=ys.take k∧Below w.heap.size w wr) (fun _ i _=>xs.length - (intOf i).toNat)
  case atStart=>exact ⟨0,Nat.zero_le _,rfl,by simp,Below.refl _ _⟩
  case round =>
   obtain ⟨k,hk,rfl,hf,hbw⟩:=hrel
   have HF:=hid hf
   have HB:=hid hbw
   clear hf
   by_cases hlt:k<xs.length
   ·have hlt2:k<ys.length:=by have:=HL.out;omega
    obtain ⟨b,off,hA,hb,c0,c1,c2⟩:=rdD3 (HR.out.now hbw) hlt
    obtain ⟨b2,off2,hA2,hb2,e0,e1,e2⟩:=rdD3 (HS.out.now hbw) hlt2
    subst hA hA2
    have HSt:=hid (eq_takeV xs ys k hlt hlt2 HF.out)
    have HNe:=hid (same_hit2 xs ys k hlt hlt2)
    clear hbw
    generalize xs[k]=x at *
    generalize ys[k]=y at *
    by_cases hv:x=y
    ·have HS2:=hid (HSt.out hv)
     subst hv
     clear HNe HSt
     go_wp2_with fail
     go_quiet (fail)
     have HBq:=hid (below_drewN HB.out nq)
     go_wp2_with fail
     go_roundw
     case rel=>exact ⟨k+1,by omega,by go_num,HS2.out,HBq.out⟩
     case measure=>simp [intOf];omega
    ·have hrun:=neqProof x y hv
     have HN:=hid (HNe.out hv)
     clear HNe HSt hv
     go_wp2_with fail
     go_quiet (fail)
     have HBq:=hid (below_drewN HB.out nq)
     go_wp2_with fail
     go_ret
     exact ⟨by rw [HN.out];rfl,HBq.out⟩
   ·have HZ:Hid (xs=ys):=hid (by
     have h2:=HF.out
     have h3:=HL.out
     rwa [List.take_of_length_le (by omega),List.take_of_length_le (by omega)] at h2)
    obtain rfl:k=xs.length:=by omega
    go_wp2_with fail
    go_ret
    exact ⟨by rw [decide_eq_true HZ.out];rfl,HB.out⟩
 ·have hl2:((xs.length:Int) != (ys.length:Int))=true:=by rw [bne_iff_ne];omega
  have HL:=hid hl
  clear hl
  go_enter Tryz.func131,Tryz.ntmps131
  go_wp2_with fail
  go_ret
  exact ⟨by rw [decide_eq_false (fun e=>HL.out (by rw [e]))];rfl,Below.refl _ _⟩
theorem neqNote (x y:E5) (h:x≠y) (w:World):(binOp .neq 59 x.v y.v).run Tryz.prog w=.ok (.bool true) w:=by
 obtain ⟨a1,b1,c1,d1,t1⟩:=x
 obtain ⟨a2,b2,c2,d2,t2⟩:=y
 by_cases h0:a1=a2 <;> by_cases h1:b1=b2 <;> by_cases h2:c1=c2 <;> by_cases h3:d1=d2 <;> by_cases h4:t1=t2 <;> first | (exfalso;exact h (by rw [h0,h1,h2,h3,h4])) | simp [go_sem,h0,h1,h2,h3,h4]
theorem qNote_any (xs ys:List E5) (A B:Option Addr) (c d:Nat) (w:World) (hr:RdL 5 E5.cs w w.heap.size A xs) (hs:RdL 5 E5.cs w w.heap.size B ys) (hx:xs.length≤9223372036854775807) (hy:ys.length≤9223372036854775807) :
  Calls Tryz.prog 172 #[.slice A xs.length c,.slice B ys.length d] w fun e w'=>e=.returned (.bool (decide (xs=ys)))∧Below w.heap.size w w':=by
 have HR:=hid hr
 have HS:=hid hs
 clear hr hs
 by_cases hl:xs.length=ys.length
 ·have hl2:((xs.length:Int) != ys.length)=false:=by simp [hl]
  go_enter Tryz.func172,Tryz.ntmps172
  have HL:=hid hl
  clear hl
  go_wp2_with fail
  go_loopw [5] (fun i wr=>∃ k:Nat,k≤xs.length∧i=.int .i64 k∧xs.take k=ys.take k∧Below w.heap.size w wr) (fun i _=>xs.length - (intOf i).toNat)
  case atStart=>exact ⟨0,Nat.zero_le _,rfl,by simp,Below.refl _ _⟩
  case round =>
   obtain ⟨k,hk,rfl,hf,hbw⟩:=hrel
   have HF:=hid hf
   have HB:=hid hbw
   clear hf
   by_cases hlt:k<xs.length
   ·have hlt2:k<ys.length:=by have:=HL.out;omega
    obtain ⟨b,off,hA,hb,c0,c1,c2,c3,c4⟩:=rdE5 (HR.out.now hbw) hlt
    obtain ⟨b2,off2,hA2,hb2,e0,e1,e2,e3,e4⟩:=rdE5 (HS.out.now hbw) hlt2
    subst hA hA2
    have HSt:=hid (eq_takeV xs ys k hlt hlt2 HF.out)
    have HNe:=hid (same_hit2 xs ys k hlt hlt2)
    clear hbw
    generalize xs[k]=x at *
    generalize ys[k]=y at *
    by_cases hv:x=y
    ·have HS2:=hid (HSt.out hv)
     subst hv
     clear HNe HSt
     go_wp2_with fail
     go_quiet (fail)
     have HBq:=hid (below_drewN HB.out nq)
     go_wp2_with fail
     go_roundw
     case rel=>exact ⟨k+1,by omega,by go_num,HS2.out,HBq.out⟩
     case measure=>simp [intOf];omega
    ·have hrun:=neqNote x y hv
     have HN:=hid (HNe.out hv)
     clear HNe HSt hv
     go_wp2_with fail
     go_quiet (fail)
     have HBq:=hid (below_drewN HB.out nq)
     go_wp2_with fail
     go_ret
     exact ⟨by rw [HN.out];rfl,HBq.out⟩
   ·have HZ:Hid (xs=ys):=hid (by
     have h2:=HF.out
     have h3:=HL.out
     rwa [List.take_of_length_le (by omega),List.take_of_length_le (by omega)] at h2)
    obtain rfl:k=xs.length:=by omega
    go_wp2_with fail
    go_ret
    exact ⟨by rw [decide_eq_true HZ.out];rfl,HB.out⟩
 ·have hl2:((xs.length:Int) != (ys.length:Int))=true:=by rw [bne_iff_ne];omega
  have HL:=hid hl
  clear hl
  go_enter Tryz.func172,Tryz.ntmps172
  go_wp2_with fail
  go_ret
  exact ⟨by rw [decide_eq_false (fun e=>HL.out (by rw [e]))];rfl,Below.refl _ _⟩
theorem pNote_any (xs ys:List E5) (A B:Option Addr) (c d:Nat) (w:World) (hr:RdL 5 E5.cs w w.heap.size A xs) (hs:RdL 5 E5.cs w w.heap.size B ys) (hx:xs.length≤9223372036854775807) (hy:ys.length≤9223372036854775807) :
  Calls Tryz.prog 134 #[.slice A xs.length c,.slice B ys.length d] w fun e w'=>e=.returned (.bool (decide (xs=ys)))∧Below w.heap.size w w':=by
 have HR:=hid hr
 have HS:=hid hs
 clear hr hs
 by_cases hl:xs.length=ys.length
 ·have hl2:((xs.length:Int) != ys.length)=false:=by simp [hl]
  go_enter Tryz.func134,Tryz.ntmps134
  have HL:=hid hl
  clear hl
  go_wp2_with fail
  go_loopw [5,13] (fun _ i wr=>∃ k:Nat,k≤xs.length∧i=.int .i64 k∧xs.take k=ys.take k∧Below w.heap.size w wr) (fun _ i _=>xs.length - (intOf i).toNat)
  case atStart=>exact ⟨0,Nat.zero_le _,rfl,by simp,Below.refl _ _⟩
  case round =>
   obtain ⟨k,hk,rfl,hf,hbw⟩:=hrel
   have HF:=hid hf
   have HB:=hid hbw
   clear hf
   by_cases hlt:k<xs.length
   ·have hlt2:k<ys.length:=by have:=HL.out;omega
    obtain ⟨b,off,hA,hb,c0,c1,c2,c3,c4⟩:=rdE5 (HR.out.now hbw) hlt
    obtain ⟨b2,off2,hA2,hb2,e0,e1,e2,e3,e4⟩:=rdE5 (HS.out.now hbw) hlt2
    subst hA hA2
    have HSt:=hid (eq_takeV xs ys k hlt hlt2 HF.out)
    have HNe:=hid (same_hit2 xs ys k hlt hlt2)
    clear hbw
    generalize xs[k]=x at *
    generalize ys[k]=y at *
    by_cases hv:x=y
    ·have HS2:=hid (HSt.out hv)
     subst hv
     clear HNe HSt
     go_wp2_with fail
     go_quiet (fail)
     have HBq:=hid (below_drewN HB.out nq)
     go_wp2_with fail
     go_roundw
     case rel=>exact ⟨k+1,by omega,by go_num,HS2.out,HBq.out⟩
     case measure=>simp [intOf];omega
    ·have hrun:=neqNote x y hv
     have HN:=hid (HNe.out hv)
     clear HNe HSt hv
     go_wp2_with fail
     go_quiet (fail)
     have HBq:=hid (below_drewN HB.out nq)
     go_wp2_with fail
     go_ret
     exact ⟨by rw [HN.out];rfl,HBq.out⟩
   ·have HZ:Hid (xs=ys):=hid (by
     have h2:=HF.out
     have h3:=HL.out
     rwa [List.take_of_length_le (by omega),List.take_of_length_le (by omega)] at h2)
    obtain rfl:k=xs.length:=by omega
    go_wp2_with fail
    go_ret
    exact ⟨by rw [decide_eq_true HZ.out];rfl,HB.out⟩
 ·have hl2:((xs.length:Int) != (ys.length:Int))=true:=by rw [bne_iff_ne];omega
  have HL:=hid hl
  clear hl
  go_enter Tryz.func134,Tryz.ntmps134
  go_wp2_with fail
  go_ret
  exact ⟨by rw [decide_eq_false (fun e=>HL.out (by rw [e]))];rfl,Below.refl _ _⟩
theorem neqVerdict (x y:E3) (h:x≠y) (w:World):(binOp .neq 99 x.v y.v).run Tryz.prog w=.ok (.bool true) w:=by
 obtain ⟨a1,b1,t1⟩:=x
 obtain ⟨a2,b2,t2⟩:=y
 by_cases h0:a1=a2 <;> by_cases h1:b1=b2 <;> by_cases h2:t1=t2 <;> first | (exfalso;exact h (by rw [h0,h1,h2])) | simp [go_sem,h0,h1,h2]
theorem qVerdict_any (xs ys:List E3) (A B:Option Addr) (c d:Nat) (w:World) (hr:RdL 3 E3.cs w w.heap.size A xs) (hs:RdL 3 E3.cs w w.heap.size B ys) (hx:xs.length≤9223372036854775807) (hy:ys.length≤9223372036854775807) :
  Calls Tryz.prog 69 #[.slice A xs.length c,.slice B ys.length d] w fun e w'=>e=.returned (.bool (decide (xs=ys)))∧Below w.heap.size w w':=by
 have HR:=hid hr
 have HS:=hid hs
 clear hr hs
 by_cases hl:xs.length=ys.length
 ·have hl2:((xs.length:Int) != ys.length)=false:=by simp [hl]
  go_enter Tryz.func69,Tryz.ntmps69
  have HL:=hid hl
  clear hl
  go_wp2_with fail
  go_loopw [5] (fun i wr=>∃ k:Nat,k≤xs.length∧i=.int .i64 k∧xs.take k=ys.take k∧Below w.heap.size w wr) (fun i _=>xs.length - (intOf i).toNat)
  case atStart=>exact ⟨0,Nat.zero_le _,rfl,by simp,Below.refl _ _⟩
  case round =>
   obtain ⟨k,hk,rfl,hf,hbw⟩:=hrel
   have HF:=hid hf
   have HB:=hid hbw
   clear hf
   by_cases hlt:k<xs.length
   ·have hlt2:k<ys.length:=by have:=HL.out;omega
    obtain ⟨b,off,hA,hb,c0,c1,c2⟩:=rdE3 (HR.out.now hbw) hlt
    obtain ⟨b2,off2,hA2,hb2,e0,e1,e2⟩:=rdE3 (HS.out.now hbw) hlt2
    subst hA hA2
    have HSt:=hid (eq_takeV xs ys k hlt hlt2 HF.out)
    have HNe:=hid (same_hit2 xs ys k hlt hlt2)
    clear hbw
    generalize xs[k]=x at *
    generalize ys[k]=y at *
    by_cases hv:x=y
    ·have HS2:=hid (HSt.out hv)
     subst hv
     clear HNe HSt
     go_wp2_with fail
     go_quiet (fail)
     have HBq:=hid (below_drewN HB.out nq)
     go_wp2_with fail
     go_roundw
     case rel=>exact ⟨k+1,by omega,by go_num,HS2.out,HBq.out⟩
     case measure=>simp [intOf];omega
    ·have hrun:=neqVerdict x y hv
     have HN:=hid (HNe.out hv)
     clear HNe HSt hv
     go_wp2_with fail
     go_quiet (fail)
     have HBq:=hid (below_drewN HB.out nq)
     go_wp2_with fail
     go_ret
     exact ⟨by rw [HN.out];rfl,HBq.out⟩
   ·have HZ:Hid (xs=ys):=hid (by
     have h2:=HF.out
     have h3:=HL.out
     rwa [List.take_of_length_le (by omega),List.take_of_length_le (by omega)] at h2)
    obtain rfl:k=xs.length:=by omega
    go_wp2_with fail
    go_ret
    exact ⟨by rw [decide_eq_true HZ.out];rfl,HB.out⟩
 ·have hl2:((xs.length:Int) != (ys.length:Int))=true:=by rw [bne_iff_ne];omega
  have HL:=hid hl
  clear hl
  go_enter Tryz.func69,Tryz.ntmps69
  go_wp2_with fail
  go_ret
  exact ⟨by rw [decide_eq_false (fun e=>HL.out (by rw [e]))];rfl,Below.refl _ _⟩
theorem pVerdict_any (xs ys:List E3) (A B:Option Addr) (c d:Nat) (w:World) (hr:RdL 3 E3.cs w w.heap.size A xs) (hs:RdL 3 E3.cs w w.heap.size B ys) (hx:xs.length≤9223372036854775807) (hy:ys.length≤9223372036854775807) :
  Calls Tryz.prog 135 #[.slice A xs.length c,.slice B ys.length d] w fun e w'=>e=.returned (.bool (decide (xs=ys)))∧Below w.heap.size w w':=by
 have HR:=hid hr
 have HS:=hid hs
 clear hr hs
 by_cases hl:xs.length=ys.length
 ·have hl2:((xs.length:Int) != ys.length)=false:=by simp [hl]
  go_enter Tryz.func135,Tryz.ntmps135
  have HL:=hid hl
  clear hl
  go_wp2_with fail
  go_loopw [5,13] (fun _ i wr=>∃ k:Nat,k≤xs.length∧i=.int .i64 k∧xs.take k=ys.take k∧Below w.heap.size w wr) (fun _ i _=>xs.length - (intOf i).toNat)
  case atStart=>exact ⟨0,Nat.zero_le _,rfl,by simp,Below.refl _ _⟩
  case round =>
   obtain ⟨k,hk,rfl,hf,hbw⟩:=hrel
   have HF:=hid hf
   have HB:=hid hbw
   clear hf
   by_cases hlt:k<xs.length
   ·have hlt2:k<ys.length:=by have:=HL.out;omega
    obtain ⟨b,off,hA,hb,c0,c1,c2⟩:=rdE3 (HR.out.now hbw) hlt
    obtain ⟨b2,off2,hA2,hb2,e0,e1,e2⟩:=rdE3 (HS.out.now hbw) hlt2
    subst hA hA2
    have HSt:=hid (eq_takeV xs ys k hlt hlt2 HF.out)
    have HNe:=hid (same_hit2 xs ys k hlt hlt2)
    clear hbw
    generalize xs[k]=x at *
    generalize ys[k]=y at *
    by_cases hv:x=y
    ·have HS2:=hid (HSt.out hv)
     subst hv
     clear HNe HSt
     go_wp2_with fail
     go_quiet (fail)
     have HBq:=hid (below_drewN HB.out nq)
     go_wp2_with fail
     go_roundw
     case rel=>exact ⟨k+1,by omega,by go_num,HS2.out,HBq.out⟩
     case measure=>simp [intOf];omega
    ·have hrun:=neqVerdict x y hv
     have HN:=hid (HNe.out hv)
     clear HNe HSt hv
     go_wp2_with fail
     go_quiet (fail)
     have HBq:=hid (below_drewN HB.out nq)
     go_wp2_with fail
     go_ret
     exact ⟨by rw [HN.out];rfl,HBq.out⟩
   ·have HZ:Hid (xs=ys):=hid (by
     have h2:=HF.out
     have h3:=HL.out
     rwa [List.take_of_length_le (by omega),List.take_of_length_le (by omega)] at h2)
    obtain rfl:k=xs.length:=by omega
    go_wp2_with fail
    go_ret
    exact ⟨by rw [decide_eq_true HZ.out];rfl,HB.out⟩
 ·have hl2:((xs.length:Int) != (ys.length:Int))=true:=by rw [bne_iff_ne];omega
  have HL:=hid hl
  clear hl
  go_enter Tryz.func135,Tryz.ntmps135
  go_wp2_with fail
  go_ret
  exact ⟨by rw [decide_eq_false (fun e=>HL.out (by rw [e]))];rfl,Below.refl _ _⟩
theorem neqHold (x y:D4) (h:x≠y) (w:World):(binOp .neq 103 x.v y.v).run Tryz.prog w=.ok (.bool true) w:=by
 obtain ⟨a1,b1,c1,d1⟩:=x
 obtain ⟨a2,b2,c2,d2⟩:=y
 by_cases h0:a1=a2 <;> by_cases h1:b1=b2 <;> by_cases h2:c1=c2 <;> by_cases h3:d1=d2 <;> first | (exfalso;exact h (by rw [h0,h1,h2,h3])) | simp [go_sem,h0,h1,h2,h3]
theorem qHold_any (xs ys:List D4) (A B:Option Addr) (c d:Nat) (w:World) (hr:RdL 4 D4.cs w w.heap.size A xs) (hs:RdL 4 D4.cs w w.heap.size B ys) (hx:xs.length≤9223372036854775807) (hy:ys.length≤9223372036854775807) :
  Calls Tryz.prog 70 #[.slice A xs.length c,.slice B ys.length d] w fun e w'=>e=.returned (.bool (decide (xs=ys)))∧Below w.heap.size w w':=by
 have HR:=hid hr
 have HS:=hid hs
 clear hr hs
 by_cases hl:xs.length=ys.length
 ·have hl2:((xs.length:Int) != ys.length)=false:=by simp [hl]
  go_enter Tryz.func70,Tryz.ntmps70
  have HL:=hid hl
  clear hl
  go_wp2_with fail
  go_loopw [5] (fun i wr=>∃ k:Nat,k≤xs.length∧i=.int .i64 k∧xs.take k=ys.take k∧Below w.heap.size w wr) (fun i _=>xs.length - (intOf i).toNat)
  case atStart=>exact ⟨0,Nat.zero_le _,rfl,by simp,Below.refl _ _⟩
  case round =>
   obtain ⟨k,hk,rfl,hf,hbw⟩:=hrel
   have HF:=hid hf
   have HB:=hid hbw
   clear hf
   by_cases hlt:k<xs.length
   ·have hlt2:k<ys.length:=by have:=HL.out;omega
    obtain ⟨b,off,hA,hb,c0,c1,c2,c3⟩:=rdD4 (HR.out.now hbw) hlt
    obtain ⟨b2,off2,hA2,hb2,e0,e1,e2,e3⟩:=rdD4 (HS.out.now hbw) hlt2
    subst hA hA2
    have HSt:=hid (eq_takeV xs ys k hlt hlt2 HF.out)
    have HNe:=hid (same_hit2 xs ys k hlt hlt2)
    clear hbw
    generalize xs[k]=x at *
    generalize ys[k]=y at *
    by_cases hv:x=y
    ·have HS2:=hid (HSt.out hv)
     subst hv
     clear HNe HSt
     go_wp2_with fail
     go_quiet (fail)
     have HBq:=hid (below_drewN HB.out nq)
     go_wp2_with fail
     go_roundw
     case rel=>exact ⟨k+1,by omega,by go_num,HS2.out,HBq.out⟩
     case measure=>simp [intOf];omega
    ·have hrun:=neqHold x y hv
     have HN:=hid (HNe.out hv)
     clear HNe HSt hv
     go_wp2_with fail
     go_quiet (fail)
     have HBq:=hid (below_drewN HB.out nq)
     go_wp2_with fail
     go_ret
     exact ⟨by rw [HN.out];rfl,HBq.out⟩
   ·have HZ:Hid (xs=ys):=hid (by
     have h2:=HF.out
     have h3:=HL.out
     rwa [List.take_of_length_le (by omega),List.take_of_length_le (by omega)] at h2)
    obtain rfl:k=xs.length:=by omega
    go_wp2_with fail
    go_ret
    exact ⟨by rw [decide_eq_true HZ.out];rfl,HB.out⟩
 ·have hl2:((xs.length:Int) != (ys.length:Int))=true:=by rw [bne_iff_ne];omega
  have HL:=hid hl
  clear hl
  go_enter Tryz.func70,Tryz.ntmps70
  go_wp2_with fail
  go_ret
  exact ⟨by rw [decide_eq_false (fun e=>HL.out (by rw [e]))];rfl,Below.refl _ _⟩
theorem pHold_any (xs ys:List D4) (A B:Option Addr) (c d:Nat) (w:World) (hr:RdL 4 D4.cs w w.heap.size A xs) (hs:RdL 4 D4.cs w w.heap.size B ys) (hx:xs.length≤9223372036854775807) (hy:ys.length≤9223372036854775807) :
  Calls Tryz.prog 136 #[.slice A xs.length c,.slice B ys.length d] w fun e w'=>e=.returned (.bool (decide (xs=ys)))∧Below w.heap.size w w':=by
 have HR:=hid hr
 have HS:=hid hs
 clear hr hs
 by_cases hl:xs.length=ys.length
 ·have hl2:((xs.length:Int) != ys.length)=false:=by simp [hl]
  go_enter Tryz.func136,Tryz.ntmps136
  have HL:=hid hl
  clear hl
  go_wp2_with fail
  go_loopw [5,13] (fun _ i wr=>∃ k:Nat,k≤xs.length∧i=.int .i64 k∧xs.take k=ys.take k∧Below w.heap.size w wr) (fun _ i _=>xs.length - (intOf i).toNat)
  case atStart=>exact ⟨0,Nat.zero_le _,rfl,by simp,Below.refl _ _⟩
  case round =>
   obtain ⟨k,hk,rfl,hf,hbw⟩:=hrel
   have HF:=hid hf
   have HB:=hid hbw
   clear hf
   by_cases hlt:k<xs.length
   ·have hlt2:k<ys.length:=by have:=HL.out;omega
    obtain ⟨b,off,hA,hb,c0,c1,c2,c3⟩:=rdD4 (HR.out.now hbw) hlt
    obtain ⟨b2,off2,hA2,hb2,e0,e1,e2,e3⟩:=rdD4 (HS.out.now hbw) hlt2
    subst hA hA2
    have HSt:=hid (eq_takeV xs ys k hlt hlt2 HF.out)
    have HNe:=hid (same_hit2 xs ys k hlt hlt2)
    clear hbw
    generalize xs[k]=x at *
    generalize ys[k]=y at *
    by_cases hv:x=y
    ·have HS2:=hid (HSt.out hv)
     subst hv
     clear HNe HSt
     go_wp2_with fail
     go_quiet (fail)
     have HBq:=hid (below_drewN HB.out nq)
     go_wp2_with fail
     go_roundw
     case rel=>exact ⟨k+1,by omega,by go_num,HS2.out,HBq.out⟩
     case measure=>simp [intOf];omega
    ·have hrun:=neqHold x y hv
     have HN:=hid (HNe.out hv)
     clear HNe HSt hv
     go_wp2_with fail
     go_quiet (fail)
     have HBq:=hid (below_drewN HB.out nq)
     go_wp2_with fail
     go_ret
     exact ⟨by rw [HN.out];rfl,HBq.out⟩
   ·have HZ:Hid (xs=ys):=hid (by
     have h2:=HF.out
     have h3:=HL.out
     rwa [List.take_of_length_le (by omega),List.take_of_length_le (by omega)] at h2)
    obtain rfl:k=xs.length:=by omega
    go_wp2_with fail
    go_ret
    exact ⟨by rw [decide_eq_true HZ.out];rfl,HB.out⟩
 ·have hl2:((xs.length:Int) != (ys.length:Int))=true:=by rw [bne_iff_ne];omega
  have HL:=hid hl
  clear hl
  go_enter Tryz.func136,Tryz.ntmps136
  go_wp2_with fail
  go_ret
  exact ⟨by rw [decide_eq_false (fun e=>HL.out (by rw [e]))];rfl,Below.refl _ _⟩
theorem neqOrder (x y:D4) (h:x≠y) (w:World):(binOp .neq 50 x.v y.v).run Tryz.prog w=.ok (.bool true) w:=by
 obtain ⟨a1,b1,c1,d1⟩:=x
 obtain ⟨a2,b2,c2,d2⟩:=y
 by_cases h0:a1=a2 <;> by_cases h1:b1=b2 <;> by_cases h2:c1=c2 <;> by_cases h3:d1=d2 <;> first | (exfalso;exact h (by rw [h0,h1,h2,h3])) | simp [go_sem,h0,h1,h2,h3]
theorem qOrder_any (xs ys:List D4) (A B:Option Addr) (c d:Nat) (w:World) (hr:RdL 4 D4.cs w w.heap.size A xs) (hs:RdL 4 D4.cs w w.heap.size B ys) (hx:xs.length≤9223372036854775807) (hy:ys.length≤9223372036854775807) :
  Calls Tryz.prog 71 #[.slice A xs.length c,.slice B ys.length d] w fun e w'=>e=.returned (.bool (decide (xs=ys)))∧Below w.heap.size w w':=by
 have HR:=hid hr
 have HS:=hid hs
 clear hr hs
 by_cases hl:xs.length=ys.length
 ·have hl2:((xs.length:Int) != ys.length)=false:=by simp [hl]
  go_enter Tryz.func71,Tryz.ntmps71
  have HL:=hid hl
  clear hl
  go_wp2_with fail
  go_loopw [5] (fun i wr=>∃ k:Nat,k≤xs.length∧i=.int .i64 k∧xs.take k=ys.take k∧Below w.heap.size w wr) (fun i _=>xs.length - (intOf i).toNat)
  case atStart=>exact ⟨0,Nat.zero_le _,rfl,by simp,Below.refl _ _⟩
  case round =>
   obtain ⟨k,hk,rfl,hf,hbw⟩:=hrel
   have HF:=hid hf
   have HB:=hid hbw
   clear hf
   by_cases hlt:k<xs.length
   ·have hlt2:k<ys.length:=by have:=HL.out;omega
    obtain ⟨b,off,hA,hb,c0,c1,c2,c3⟩:=rdD4 (HR.out.now hbw) hlt
    obtain ⟨b2,off2,hA2,hb2,e0,e1,e2,e3⟩:=rdD4 (HS.out.now hbw) hlt2
    subst hA hA2
    have HSt:=hid (eq_takeV xs ys k hlt hlt2 HF.out)
    have HNe:=hid (same_hit2 xs ys k hlt hlt2)
    clear hbw
    generalize xs[k]=x at *
    generalize ys[k]=y at *
    by_cases hv:x=y
    ·have HS2:=hid (HSt.out hv)
     subst hv
     clear HNe HSt
     go_wp2_with fail
     go_quiet (fail)
     have HBq:=hid (below_drewN HB.out nq)
     go_wp2_with fail
     go_roundw
     case rel=>exact ⟨k+1,by omega,by go_num,HS2.out,HBq.out⟩
     case measure=>simp [intOf];omega
    ·have hrun:=neqOrder x y hv
     have HN:=hid (HNe.out hv)
     clear HNe HSt hv
     go_wp2_with fail
     go_quiet (fail)
     have HBq:=hid (below_drewN HB.out nq)
     go_wp2_with fail
     go_ret
     exact ⟨by rw [HN.out];rfl,HBq.out⟩
   ·have HZ:Hid (xs=ys):=hid (by
     have h2:=HF.out
     have h3:=HL.out
     rwa [List.take_of_length_le (by omega),List.take_of_length_le (by omega)] at h2)
    obtain rfl:k=xs.length:=by omega
    go_wp2_with fail
    go_ret
    exact ⟨by rw [decide_eq_true HZ.out];rfl,HB.out⟩
 ·have hl2:((xs.length:Int) != (ys.length:Int))=true:=by rw [bne_iff_ne];omega
  have HL:=hid hl
  clear hl
  go_enter Tryz.func71,Tryz.ntmps71
  go_wp2_with fail
  go_ret
  exact ⟨by rw [decide_eq_false (fun e=>HL.out (by rw [e]))];rfl,Below.refl _ _⟩
theorem pOrder_any (xs ys:List D4) (A B:Option Addr) (c d:Nat) (w:World) (hr:RdL 4 D4.cs w w.heap.size A xs) (hs:RdL 4 D4.cs w w.heap.size B ys) (hx:xs.length≤9223372036854775807) (hy:ys.length≤9223372036854775807) :
  Calls Tryz.prog 137 #[.slice A xs.length c,.slice B ys.length d] w fun e w'=>e=.returned (.bool (decide (xs=ys)))∧Below w.heap.size w w':=by
 have HR:=hid hr
 have HS:=hid hs
 clear hr hs
 by_cases hl:xs.length=ys.length
 ·have hl2:((xs.length:Int) != ys.length)=false:=by simp [hl]
  go_enter Tryz.func137,Tryz.ntmps137
  have HL:=hid hl
  clear hl
  go_wp2_with fail
  go_loopw [5,13] (fun _ i wr=>∃ k:Nat,k≤xs.length∧i=.int .i64 k∧xs.take k=ys.take k∧Below w.heap.size w wr) (fun _ i _=>xs.length - (intOf i).toNat)
  case atStart=>exact ⟨0,Nat.zero_le _,rfl,by simp,Below.refl _ _⟩
  case round =>
   obtain ⟨k,hk,rfl,hf,hbw⟩:=hrel
   have HF:=hid hf
   have HB:=hid hbw
   clear hf
   by_cases hlt:k<xs.length
   ·have hlt2:k<ys.length:=by have:=HL.out;omega
    obtain ⟨b,off,hA,hb,c0,c1,c2,c3⟩:=rdD4 (HR.out.now hbw) hlt
    obtain ⟨b2,off2,hA2,hb2,e0,e1,e2,e3⟩:=rdD4 (HS.out.now hbw) hlt2
    subst hA hA2
    have HSt:=hid (eq_takeV xs ys k hlt hlt2 HF.out)
    have HNe:=hid (same_hit2 xs ys k hlt hlt2)
    clear hbw
    generalize xs[k]=x at *
    generalize ys[k]=y at *
    by_cases hv:x=y
    ·have HS2:=hid (HSt.out hv)
     subst hv
     clear HNe HSt
     go_wp2_with fail
     go_quiet (fail)
     have HBq:=hid (below_drewN HB.out nq)
     go_wp2_with fail
     go_roundw
     case rel=>exact ⟨k+1,by omega,by go_num,HS2.out,HBq.out⟩
     case measure=>simp [intOf];omega
    ·have hrun:=neqOrder x y hv
     have HN:=hid (HNe.out hv)
     clear HNe HSt hv
     go_wp2_with fail
     go_quiet (fail)
     have HBq:=hid (below_drewN HB.out nq)
     go_wp2_with fail
     go_ret
     exact ⟨by rw [HN.out];rfl,HBq.out⟩
   ·have HZ:Hid (xs=ys):=hid (by
     have h2:=HF.out
     have h3:=HL.out
     rwa [List.take_of_length_le (by omega),List.take_of_length_le (by omega)] at h2)
    obtain rfl:k=xs.length:=by omega
    go_wp2_with fail
    go_ret
    exact ⟨by rw [decide_eq_true HZ.out];rfl,HB.out⟩
 ·have hl2:((xs.length:Int) != (ys.length:Int))=true:=by rw [bne_iff_ne];omega
  have HL:=hid hl
  clear hl
  go_enter Tryz.func137,Tryz.ntmps137
  go_wp2_with fail
  go_ret
  exact ⟨by rw [decide_eq_false (fun e=>HL.out (by rw [e]))];rfl,Below.refl _ _⟩
theorem neqSealed (x y:D3) (h:x≠y) (w:World):(binOp .neq 52 x.v y.v).run Tryz.prog w=.ok (.bool true) w:=by
 obtain ⟨a1,b1,c1⟩:=x
 obtain ⟨a2,b2,c2⟩:=y
 by_cases h0:a1=a2 <;> by_cases h1:b1=b2 <;> by_cases h2:c1=c2 <;> first | (exfalso;exact h (by rw [h0,h1,h2])) | simp [go_sem,h0,h1,h2]
theorem qSealed_any (xs ys:List D3) (A B:Option Addr) (c d:Nat) (w:World) (hr:RdL 3 D3.cs w w.heap.size A xs) (hs:RdL 3 D3.cs w w.heap.size B ys) (hx:xs.length≤9223372036854775807) (hy:ys.length≤9223372036854775807) :
  Calls Tryz.prog 72 #[.slice A xs.length c,.slice B ys.length d] w fun e w'=>e=.returned (.bool (decide (xs=ys)))∧Below w.heap.size w w':=by
 have HR:=hid hr
 have HS:=hid hs
 clear hr hs
 by_cases hl:xs.length=ys.length
 ·have hl2:((xs.length:Int) != ys.length)=false:=by simp [hl]
  go_enter Tryz.func72,Tryz.ntmps72
  have HL:=hid hl
  clear hl
  go_wp2_with fail
  go_loopw [5] (fun i wr=>∃ k:Nat,k≤xs.length∧i=.int .i64 k∧xs.take k=ys.take k∧Below w.heap.size w wr) (fun i _=>xs.length - (intOf i).toNat)
  case atStart=>exact ⟨0,Nat.zero_le _,rfl,by simp,Below.refl _ _⟩
  case round =>
   obtain ⟨k,hk,rfl,hf,hbw⟩:=hrel
   have HF:=hid hf
   have HB:=hid hbw
   clear hf
   by_cases hlt:k<xs.length
   ·have hlt2:k<ys.length:=by have:=HL.out;omega
    obtain ⟨b,off,hA,hb,c0,c1,c2⟩:=rdD3 (HR.out.now hbw) hlt
    obtain ⟨b2,off2,hA2,hb2,e0,e1,e2⟩:=rdD3 (HS.out.now hbw) hlt2
    subst hA hA2
    have HSt:=hid (eq_takeV xs ys k hlt hlt2 HF.out)
    have HNe:=hid (same_hit2 xs ys k hlt hlt2)
    clear hbw
    generalize xs[k]=x at *
    generalize ys[k]=y at *
    by_cases hv:x=y
    ·have HS2:=hid (HSt.out hv)
     subst hv
     clear HNe HSt
     go_wp2_with fail
     go_quiet (fail)
     have HBq:=hid (below_drewN HB.out nq)
     go_wp2_with fail
     go_roundw
     case rel=>exact ⟨k+1,by omega,by go_num,HS2.out,HBq.out⟩
     case measure=>simp [intOf];omega
    ·have hrun:=neqSealed x y hv
     have HN:=hid (HNe.out hv)
     clear HNe HSt hv
     go_wp2_with fail
     go_quiet (fail)
     have HBq:=hid (below_drewN HB.out nq)
     go_wp2_with fail
     go_ret
     exact ⟨by rw [HN.out];rfl,HBq.out⟩
   ·have HZ:Hid (xs=ys):=hid (by
     have h2:=HF.out
     have h3:=HL.out
     rwa [List.take_of_length_le (by omega),List.take_of_length_le (by omega)] at h2)
    obtain rfl:k=xs.length:=by omega
    go_wp2_with fail
    go_ret
    exact ⟨by rw [decide_eq_true HZ.out];rfl,HB.out⟩
 ·have hl2:((xs.length:Int) != (ys.length:Int))=true:=by rw [bne_iff_ne];omega
  have HL:=hid hl
  clear hl
  go_enter Tryz.func72,Tryz.ntmps72
  go_wp2_with fail
  go_ret
  exact ⟨by rw [decide_eq_false (fun e=>HL.out (by rw [e]))];rfl,Below.refl _ _⟩
theorem pSealed_any (xs ys:List D3) (A B:Option Addr) (c d:Nat) (w:World) (hr:RdL 3 D3.cs w w.heap.size A xs) (hs:RdL 3 D3.cs w w.heap.size B ys) (hx:xs.length≤9223372036854775807) (hy:ys.length≤9223372036854775807) :
  Calls Tryz.prog 138 #[.slice A xs.length c,.slice B ys.length d] w fun e w'=>e=.returned (.bool (decide (xs=ys)))∧Below w.heap.size w w':=by
 have HR:=hid hr
 have HS:=hid hs
 clear hr hs
 by_cases hl:xs.length=ys.length
 ·have hl2:((xs.length:Int) != ys.length)=false:=by simp [hl]
  go_enter Tryz.func138,Tryz.ntmps138
  have HL:=hid hl
  clear hl
  go_wp2_with fail
  go_loopw [5,13] (fun _ i wr=>∃ k:Nat,k≤xs.length∧i=.int .i64 k∧xs.take k=ys.take k∧Below w.heap.size w wr) (fun _ i _=>xs.length - (intOf i).toNat)
  case atStart=>exact ⟨0,Nat.zero_le _,rfl,by simp,Below.refl _ _⟩
  case round =>
   obtain ⟨k,hk,rfl,hf,hbw⟩:=hrel
   have HF:=hid hf
   have HB:=hid hbw
   clear hf
   by_cases hlt:k<xs.length
   ·have hlt2:k<ys.length:=by have:=HL.out;omega
    obtain ⟨b,off,hA,hb,c0,c1,c2⟩:=rdD3 (HR.out.now hbw) hlt
    obtain ⟨b2,off2,hA2,hb2,e0,e1,e2⟩:=rdD3 (HS.out.now hbw) hlt2
    subst hA hA2
    have HSt:=hid (eq_takeV xs ys k hlt hlt2 HF.out)
    have HNe:=hid (same_hit2 xs ys k hlt hlt2)
    clear hbw
    generalize xs[k]=x at *
    generalize ys[k]=y at *
    by_cases hv:x=y
    ·have HS2:=hid (HSt.out hv)
     subst hv
     clear HNe HSt
     go_wp2_with fail
     go_quiet (fail)
     have HBq:=hid (below_drewN HB.out nq)
     go_wp2_with fail
     go_roundw
     case rel=>exact ⟨k+1,by omega,by go_num,HS2.out,HBq.out⟩
     case measure=>simp [intOf];omega
    ·have hrun:=neqSealed x y hv
     have HN:=hid (HNe.out hv)
     clear HNe HSt hv
     go_wp2_with fail
     go_quiet (fail)
     have HBq:=hid (below_drewN HB.out nq)
     go_wp2_with fail
     go_ret
     exact ⟨by rw [HN.out];rfl,HBq.out⟩
   ·have HZ:Hid (xs=ys):=hid (by
     have h2:=HF.out
     have h3:=HL.out
     rwa [List.take_of_length_le (by omega),List.take_of_length_le (by omega)] at h2)
    obtain rfl:k=xs.length:=by omega
    go_wp2_with fail
    go_ret
    exact ⟨by rw [decide_eq_true HZ.out];rfl,HB.out⟩
 ·have hl2:((xs.length:Int) != (ys.length:Int))=true:=by rw [bne_iff_ne];omega
  have HL:=hid hl
  clear hl
  go_enter Tryz.func138,Tryz.ntmps138
  go_wp2_with fail
  go_ret
  exact ⟨by rw [decide_eq_false (fun e=>HL.out (by rw [e]))];rfl,Below.refl _ _⟩
end Go.Proofs.YthlpehhlhebhbaaGreatDoor
