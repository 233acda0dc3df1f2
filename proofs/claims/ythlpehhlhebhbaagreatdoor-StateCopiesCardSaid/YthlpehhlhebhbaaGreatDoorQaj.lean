/- Contracts and plain laws, joined: EvC, EvD, WyA, WyB, TgE, TgG. -/
import Derived.Test.YthlpehhlhebhbaaGreatDoorQai
import Derived.Test.YthlpehhlhebhbaaGreatDoorRows
import Derived.Test.YthlpehhlhebhbaaGreatDoorQah
import Derived.Test.YthlpehhlhebhbaaGreatDoorQad
/- Contracts of below,maybe,Net,Uses,fields and files of package event (layer 14). -/
set_option linter.unusedSimpArgs false
set_option linter.unusedVariables false
namespace Go.Proofs.YthlpehhlhebhbaaGreatDoor
set_option maxHeartbeats 4000000
open Lib (hid)
open Go.RowKit
abbrev EvM.cs (e:EvM) (cA:Option Addr) (cc:Nat) (fA:Option Addr) (fc:Nat):Array Value :=
 #[.int .i64 e.author,.int .i64 e.seq,.slice cA e.causes.length cc,.int .i64 e.kind,.int .i64 e.group,.int .i64 e.target,.int .i64 e.quote,.int .i64 e.who,.int .i64 e.n,.string e.text,.slice fA e.files.length fc,.int .i64 e.step]
abbrev EvM.v (e:EvM) (cA:Option Addr) (cc:Nat) (fA:Option Addr) (fc:Nat):Value:=.agg (e.cs cA cc fA fc)
structure EvOk (w:World) (B:Nat) (cA fA:Option Addr) (e:EvM):Prop where
 ca:RdI w B cA e.causes
 fi:RdI w B fA e.files
 cl:e.causes.length≤9223372036854775807
 fl:e.files.length≤9223372036854775807
 tx:e.text.size≤9223372036854775807
theorem EvOk.now {w w':World} {cA fA:Option Addr} {e:EvM} (h:EvOk w w.heap.size cA fA e) (hb:Below w.heap.size w w'):EvOk w' w'.heap.size cA fA e:=⟨h.ca.now hb,h.fi.now hb,h.cl,h.fl,h.tx⟩
theorem evBelow_any (n m:Int) (w:World):Calls Tryz.prog 224 #[.int .i64 n,.int .i64 m] w fun e w'=>e=.returned (.bool (belowB n m))∧w=w':=by
 unfold belowB
 go_enter Tryz.func224,Tryz.ntmps224
 go_wp2
 all_goals go_ret
 all_goals exact ⟨by first | (simp_all;done) | (simp;omega) | (simp_all;omega),rfl⟩
theorem evMaybe_any (n m:Int) (w:World):Calls Tryz.prog 269 #[.int .i64 n,.int .i64 m] w fun e w'=>e=.returned (.bool (maybeB n m))∧w=w':=by
 cases hv:(n==-1)
 ·have h1:maybeB n m=belowB n m:=by unfold maybeB;rw [hv];rfl
  rw [h1]
  clear h1
  go_enter Tryz.func269,Tryz.ntmps269
  go_wp2_with (go_at_call 224;refine (evBelow_any _ _ _).mono ?_;rintro e w' ⟨rfl,rfl⟩)
  go_ret
  exact ⟨rfl,rfl⟩
 ·have h1:maybeB n m=true:=by unfold maybeB;rw [hv];rfl
  rw [h1]
  clear h1
  go_enter Tryz.func269,Tryz.ntmps269
  go_wp2
  go_ret
  exact ⟨rfl,rfl⟩
def strC (s:ByteArray):List Value:=[.string s]
abbrev RdT:=RdL 1 strC
theorem strLay1:Lay 1 strC:=⟨fun _=>rfl,fun x u h=>by simp [strC] at h;subst h;rfl⟩
theorem RdL.lit {T:Type} {sz:Nat} {enc:T→List Value} (L:Lay sz enc) (w:World) (xs:List T) (cs:Array Value) (t:TypeId) (h:cs.toList=xs.flatMap enc):RdL sz enc (w.alloc (.cells cs t)) (w.alloc (.cells cs t)).heap.size (some ⟨w.heap.size,0,none⟩) xs:=by
 intro k x hx
 refine ⟨_,_,rfl,by simp,fun j v hj=>?_⟩
 have hg:=flat_get L xs k j x v hx hj
 rw [← h] at hg
 unfold World.cell?
 simp only [heap_alloc_new]
 simpa using hg
def UsesOut (k:Int) (w:World) (e:Ending) (w':World):Prop:=∃ A c,e=.returned (.slice A (usesL k).length c)∧RdT w' w'.heap.size A (usesL k)∧(∀ b o,A=some ⟨b,o,none⟩→w.heap.size≤b)∧Below w.heap.size w w'
theorem evUses_any (k:Int) (w:World):Calls Tryz.prog 271 #[.int .i64 k] w (UsesOut k w):=by
 by_cases hk:k=0
 ·have hL:usesL k=[sTarget,sQuote,sWho,sText,sFiles]:=by subst hk;rfl
  have HOut:Hid (∀ e w',(∃ A c,e=.returned (.slice A 5 c)∧RdT w' w'.heap.size A [sTarget,sQuote,sWho,sText,sFiles]∧(∀ b o,A=some ⟨b,o,none⟩→w.heap.size≤b)∧Below w.heap.size w w')→UsesOut k w e w'):=hid (fun e w' h=>by unfold UsesOut;rw [hL];exact h)
  clear hL
  obtain rfl:=hk.symm
  go_enter Tryz.func271,Tryz.ntmps271
  go_wp2
  go_ret
  exact HOut.out _ _ ⟨_,_,rfl,RdL.lit strLay1 _ _ _ _ rfl,fun b o h=>by injection h with h;injection h with h;omega,by repeat (first | with_reducible exact Below.refl _ _ | with_reducible assumption | with_reducible refine Below.drew ?_ | with_reducible refine Below.alloc ?_ (by first | omega | (simp;done) | (simp;omega)) _)⟩
 have n0:(k==0)=false:=by simpa using hk
 clear hk
 by_cases hk:k=1
 ·have hL:usesL k=[sTarget,sText,sFiles]:=by subst hk;rfl
  have HOut:Hid (∀ e w',(∃ A c,e=.returned (.slice A 3 c)∧RdT w' w'.heap.size A [sTarget,sText,sFiles]∧(∀ b o,A=some ⟨b,o,none⟩→w.heap.size≤b)∧Below w.heap.size w w')→UsesOut k w e w'):=hid (fun e w' h=>by unfold UsesOut;rw [hL];exact h)
  clear hL
  obtain rfl:=hk.symm
  go_enter Tryz.func271,Tryz.ntmps271
  go_wp2
  go_ret
  exact HOut.out _ _ ⟨_,_,rfl,RdL.lit strLay1 _ _ _ _ rfl,fun b o h=>by injection h with h;injection h with h;omega,by repeat (first | with_reducible exact Below.refl _ _ | with_reducible assumption | with_reducible refine Below.drew ?_ | with_reducible refine Below.alloc ?_ (by first | omega | (simp;done) | (simp;omega)) _)⟩
 have n1:(k==1)=false:=by simpa using hk
 clear hk
 by_cases hk:k=2
 ·have hL:usesL k=[sTarget]:=by subst hk;rfl
  have HOut:Hid (∀ e w',(∃ A c,e=.returned (.slice A 1 c)∧RdT w' w'.heap.size A [sTarget]∧(∀ b o,A=some ⟨b,o,none⟩→w.heap.size≤b)∧Below w.heap.size w w')→UsesOut k w e w'):=hid (fun e w' h=>by unfold UsesOut;rw [hL];exact h)
  clear hL
  obtain rfl:=hk.symm
  go_enter Tryz.func271,Tryz.ntmps271
  go_wp2
  go_ret
  exact HOut.out _ _ ⟨_,_,rfl,RdL.lit strLay1 _ _ _ _ rfl,fun b o h=>by injection h with h;injection h with h;omega,by repeat (first | with_reducible exact Below.refl _ _ | with_reducible assumption | with_reducible refine Below.drew ?_ | with_reducible refine Below.alloc ?_ (by first | omega | (simp;done) | (simp;omega)) _)⟩
 have n2:(k==2)=false:=by simpa using hk
 clear hk
 by_cases hk:k=3
 ·have hL:usesL k=[sTarget,sN]:=by subst hk;rfl
  have HOut:Hid (∀ e w',(∃ A c,e=.returned (.slice A 2 c)∧RdT w' w'.heap.size A [sTarget,sN]∧(∀ b o,A=some ⟨b,o,none⟩→w.heap.size≤b)∧Below w.heap.size w w')→UsesOut k w e w'):=hid (fun e w' h=>by unfold UsesOut;rw [hL];exact h)
  clear hL
  obtain rfl:=hk.symm
  go_enter Tryz.func271,Tryz.ntmps271
  go_wp2
  go_ret
  exact HOut.out _ _ ⟨_,_,rfl,RdL.lit strLay1 _ _ _ _ rfl,fun b o h=>by injection h with h;injection h with h;omega,by repeat (first | with_reducible exact Below.refl _ _ | with_reducible assumption | with_reducible refine Below.drew ?_ | with_reducible refine Below.alloc ?_ (by first | omega | (simp;done) | (simp;omega)) _)⟩
 have n3:(k==3)=false:=by simpa using hk
 clear hk
 by_cases hk:k=4
 ·have hL:usesL k=[sTarget,sN]:=by subst hk;rfl
  have HOut:Hid (∀ e w',(∃ A c,e=.returned (.slice A 2 c)∧RdT w' w'.heap.size A [sTarget,sN]∧(∀ b o,A=some ⟨b,o,none⟩→w.heap.size≤b)∧Below w.heap.size w w')→UsesOut k w e w'):=hid (fun e w' h=>by unfold UsesOut;rw [hL];exact h)
  clear hL
  obtain rfl:=hk.symm
  go_enter Tryz.func271,Tryz.ntmps271
  go_wp2
  go_ret
  exact HOut.out _ _ ⟨_,_,rfl,RdL.lit strLay1 _ _ _ _ rfl,fun b o h=>by injection h with h;injection h with h;omega,by repeat (first | with_reducible exact Below.refl _ _ | with_reducible assumption | with_reducible refine Below.drew ?_ | with_reducible refine Below.alloc ?_ (by first | omega | (simp;done) | (simp;omega)) _)⟩
 have n4:(k==4)=false:=by simpa using hk
 clear hk
 by_cases hk:k=5
 ·have hL:usesL k=[sWho]:=by subst hk;rfl
  have HOut:Hid (∀ e w',(∃ A c,e=.returned (.slice A 1 c)∧RdT w' w'.heap.size A [sWho]∧(∀ b o,A=some ⟨b,o,none⟩→w.heap.size≤b)∧Below w.heap.size w w')→UsesOut k w e w'):=hid (fun e w' h=>by unfold UsesOut;rw [hL];exact h)
  clear hL
  obtain rfl:=hk.symm
  go_enter Tryz.func271,Tryz.ntmps271
  go_wp2
  go_ret
  exact HOut.out _ _ ⟨_,_,rfl,RdL.lit strLay1 _ _ _ _ rfl,fun b o h=>by injection h with h;injection h with h;omega,by repeat (first | with_reducible exact Below.refl _ _ | with_reducible assumption | with_reducible refine Below.drew ?_ | with_reducible refine Below.alloc ?_ (by first | omega | (simp;done) | (simp;omega)) _)⟩
 have n5:(k==5)=false:=by simpa using hk
 clear hk
 by_cases hk:k=7
 ·have hL:usesL k=[sWho]:=by subst hk;rfl
  have HOut:Hid (∀ e w',(∃ A c,e=.returned (.slice A 1 c)∧RdT w' w'.heap.size A [sWho]∧(∀ b o,A=some ⟨b,o,none⟩→w.heap.size≤b)∧Below w.heap.size w w')→UsesOut k w e w'):=hid (fun e w' h=>by unfold UsesOut;rw [hL];exact h)
  clear hL
  obtain rfl:=hk.symm
  go_enter Tryz.func271,Tryz.ntmps271
  go_wp2
  go_ret
  exact HOut.out _ _ ⟨_,_,rfl,RdL.lit strLay1 _ _ _ _ rfl,fun b o h=>by injection h with h;injection h with h;omega,by repeat (first | with_reducible exact Below.refl _ _ | with_reducible assumption | with_reducible refine Below.drew ?_ | with_reducible refine Below.alloc ?_ (by first | omega | (simp;done) | (simp;omega)) _)⟩
 have n7:(k==7)=false:=by simpa using hk
 clear hk
 by_cases hk:k=9
 ·have hL:usesL k=[sWho,sN]:=by subst hk;rfl
  have HOut:Hid (∀ e w',(∃ A c,e=.returned (.slice A 2 c)∧RdT w' w'.heap.size A [sWho,sN]∧(∀ b o,A=some ⟨b,o,none⟩→w.heap.size≤b)∧Below w.heap.size w w')→UsesOut k w e w'):=hid (fun e w' h=>by unfold UsesOut;rw [hL];exact h)
  clear hL
  obtain rfl:=hk.symm
  go_enter Tryz.func271,Tryz.ntmps271
  go_wp2
  go_ret
  exact HOut.out _ _ ⟨_,_,rfl,RdL.lit strLay1 _ _ _ _ rfl,fun b o h=>by injection h with h;injection h with h;omega,by repeat (first | with_reducible exact Below.refl _ _ | with_reducible assumption | with_reducible refine Below.drew ?_ | with_reducible refine Below.alloc ?_ (by first | omega | (simp;done) | (simp;omega)) _)⟩
 have n9:(k==9)=false:=by simpa using hk
 have hL:usesL k=[]:=by
  unfold usesL
  simp_all
 have HOut:Hid (∀ e w',(∃ A c,e=.returned (.slice A 0 c)∧RdT w' w'.heap.size A []∧(∀ b o,A=some ⟨b,o,none⟩→w.heap.size≤b)∧Below w.heap.size w w')→UsesOut k w e w'):=hid (fun e w' h=>by unfold UsesOut;rw [hL];exact h)
 clear hL hk
 go_enter Tryz.func271,Tryz.ntmps271
 go_wp2
 go_ret
 exact HOut.out _ _ ⟨none,0,rfl,RdL.nil_,(fun b o h=>by cases h),Below.refl _ _⟩
theorem kind_cases (k:Int):k=0∨k=1∨k=2∨k=3∨k=4∨k=5∨k=7∨k=9∨(k≠0∧k≠1∧k≠2∧k≠3∧k≠4∧k≠5∧k≠7∧k≠9):=by omega
set_option maxRecDepth 100000 in
theorem evFields_any (e:EvM) (cA:Option Addr) (cc:Nat) (fA:Option Addr) (fc:Nat) (w:World):Calls Tryz.prog 225 #[e.v cA cc fA fc] w fun en w'=>en=.returned (.bool (fieldsB e))∧Below w.heap.size w w':=by
 have HB:=hid ((Below.refl w.heap.size w).alloc (Nat.le_refl _) (.cells (e.cs cA cc fA fc) 56))
 rcases kind_cases e.kind with h | h | h | h | h | h | h | h | h
 ·have HF:Hid (fieldsB e=(maybeB e.target 100000 && (maybeB e.quote 100000 && maybeB e.who 2000))):=hid (by unfold fieldsB;simp [h])
  have k0:(e.kind==0)=true:=by simp [h]
  clear h
  go_enter Tryz.func225,Tryz.ntmps225
  cases h1:maybeB e.target 100000
  ·skip
   go_wp2_with (first
    | (go_at_call 269;refine (evMaybe_any _ _ _).mono ?_;rintro en w' ⟨rfl,rfl⟩;try simp only [h1])
    | (go_at_call 224;refine (evBelow_any _ _ _).mono ?_;rintro en w' ⟨rfl,rfl⟩;try simp only [h1]))
   go_ret
   exact ⟨ret_bool (by rw [HF.out];simp [h1]),HB.out⟩
  ·cases h2:maybeB e.quote 100000
   ·skip
    go_wp2_with (first
     | (go_at_call 269;refine (evMaybe_any _ _ _).mono ?_;rintro en w' ⟨rfl,rfl⟩;try simp only [h1,h2])
     | (go_at_call 224;refine (evBelow_any _ _ _).mono ?_;rintro en w' ⟨rfl,rfl⟩;try simp only [h1,h2]))
    go_ret
    exact ⟨ret_bool (by rw [HF.out];simp [h1,h2]),HB.out⟩
   ·cases h3:maybeB e.who 2000
    ·skip
     go_wp2_with (first
      | (go_at_call 269;refine (evMaybe_any _ _ _).mono ?_;rintro en w' ⟨rfl,rfl⟩;try simp only [h1,h2,h3])
      | (go_at_call 224;refine (evBelow_any _ _ _).mono ?_;rintro en w' ⟨rfl,rfl⟩;try simp only [h1,h2,h3]))
     go_ret
     exact ⟨ret_bool (by rw [HF.out];simp [h1,h2,h3]),HB.out⟩
    ·skip
     go_wp2_with (first
      | (go_at_call 269;refine (evMaybe_any _ _ _).mono ?_;rintro en w' ⟨rfl,rfl⟩;try simp only [h1,h2,h3])
      | (go_at_call 224;refine (evBelow_any _ _ _).mono ?_;rintro en w' ⟨rfl,rfl⟩;try simp only [h1,h2,h3]))
     go_ret
     exact ⟨ret_bool (by rw [HF.out];simp [h1,h2,h3]),HB.out⟩
 ·have HF:Hid (fieldsB e=belowB e.target 100000):=hid (by unfold fieldsB;simp [h])
  have k0:(e.kind==0)=false:=by simp [h]
  have k1:(e.kind==1)=true:=by simp [h]
  clear h
  go_enter Tryz.func225,Tryz.ntmps225
  cases h1:belowB e.target 100000
  ·skip
   go_wp2_with (first
    | (go_at_call 269;refine (evMaybe_any _ _ _).mono ?_;rintro en w' ⟨rfl,rfl⟩;try simp only [h1])
    | (go_at_call 224;refine (evBelow_any _ _ _).mono ?_;rintro en w' ⟨rfl,rfl⟩;try simp only [h1]))
   go_ret
   exact ⟨ret_bool (by rw [HF.out];simp [h1]),HB.out⟩
  ·skip
   go_wp2_with (first
    | (go_at_call 269;refine (evMaybe_any _ _ _).mono ?_;rintro en w' ⟨rfl,rfl⟩;try simp only [h1])
    | (go_at_call 224;refine (evBelow_any _ _ _).mono ?_;rintro en w' ⟨rfl,rfl⟩;try simp only [h1]))
   go_ret
   exact ⟨ret_bool (by rw [HF.out];simp [h1]),HB.out⟩
 ·have HF:Hid (fieldsB e=belowB e.target 100000):=hid (by unfold fieldsB;simp [h])
  have k0:(e.kind==0)=false:=by simp [h]
  have k1:(e.kind==1)=false:=by simp [h]
  have k2:(e.kind==2)=true:=by simp [h]
  clear h
  go_enter Tryz.func225,Tryz.ntmps225
  cases h1:belowB e.target 100000
  ·skip
   go_wp2_with (first
    | (go_at_call 269;refine (evMaybe_any _ _ _).mono ?_;rintro en w' ⟨rfl,rfl⟩;try simp only [h1])
    | (go_at_call 224;refine (evBelow_any _ _ _).mono ?_;rintro en w' ⟨rfl,rfl⟩;try simp only [h1]))
   go_ret
   exact ⟨ret_bool (by rw [HF.out];simp [h1]),HB.out⟩
  ·skip
   go_wp2_with (first
    | (go_at_call 269;refine (evMaybe_any _ _ _).mono ?_;rintro en w' ⟨rfl,rfl⟩;try simp only [h1])
    | (go_at_call 224;refine (evBelow_any _ _ _).mono ?_;rintro en w' ⟨rfl,rfl⟩;try simp only [h1]))
   go_ret
   exact ⟨ret_bool (by rw [HF.out];simp [h1]),HB.out⟩
 ·have HF:Hid (fieldsB e=(belowB e.target 100000 && (decide (1≤e.n) && decide (e.n≤100)))):=hid (by unfold fieldsB;simp [h])
  have k0:(e.kind==0)=false:=by simp [h]
  have k1:(e.kind==1)=false:=by simp [h]
  have k2:(e.kind==2)=false:=by simp [h]
  have k3:(e.kind==3)=true:=by simp [h]
  clear h
  go_enter Tryz.func225,Tryz.ntmps225
  cases h1:belowB e.target 100000
  ·skip
   go_wp2_with (first
    | (go_at_call 269;refine (evMaybe_any _ _ _).mono ?_;rintro en w' ⟨rfl,rfl⟩;try simp only [h1])
    | (go_at_call 224;refine (evBelow_any _ _ _).mono ?_;rintro en w' ⟨rfl,rfl⟩;try simp only [h1]))
   go_ret
   exact ⟨ret_bool (by rw [HF.out];simp [h1]),HB.out⟩
  ·by_cases h2:1≤e.n
   ·by_cases h3:e.n≤100
    ·skip
     go_wp2_with (first
      | (go_at_call 269;refine (evMaybe_any _ _ _).mono ?_;rintro en w' ⟨rfl,rfl⟩;try simp only [h1,h2,h3])
      | (go_at_call 224;refine (evBelow_any _ _ _).mono ?_;rintro en w' ⟨rfl,rfl⟩;try simp only [h1,h2,h3]))
     go_ret
     exact ⟨ret_bool (by rw [HF.out];simp [h1,h2,h3]),HB.out⟩
    ·have d3:decide (e.n≤100)=false:=by simpa using h3
     go_wp2_with (first
      | (go_at_call 269;refine (evMaybe_any _ _ _).mono ?_;rintro en w' ⟨rfl,rfl⟩;try simp only [h1,h2,d3])
      | (go_at_call 224;refine (evBelow_any _ _ _).mono ?_;rintro en w' ⟨rfl,rfl⟩;try simp only [h1,h2,d3]))
     go_ret
     exact ⟨ret_bool (by rw [HF.out];simp [h1,h2,d3]),HB.out⟩
   ·have d2:decide (1≤e.n)=false:=by simpa using h2
    go_wp2_with (first
     | (go_at_call 269;refine (evMaybe_any _ _ _).mono ?_;rintro en w' ⟨rfl,rfl⟩;try simp only [h1,d2])
     | (go_at_call 224;refine (evBelow_any _ _ _).mono ?_;rintro en w' ⟨rfl,rfl⟩;try simp only [h1,d2]))
    go_ret
    exact ⟨ret_bool (by rw [HF.out];simp [h1,d2]),HB.out⟩
 ·have HF:Hid (fieldsB e=(belowB e.target 100000 && (decide (1≤e.n) && decide (e.n≤100)))):=hid (by unfold fieldsB;simp [h])
  have k0:(e.kind==0)=false:=by simp [h]
  have k1:(e.kind==1)=false:=by simp [h]
  have k2:(e.kind==2)=false:=by simp [h]
  have k3:(e.kind==3)=false:=by simp [h]
  have k4:(e.kind==4)=true:=by simp [h]
  clear h
  go_enter Tryz.func225,Tryz.ntmps225
  cases h1:belowB e.target 100000
  ·skip
   go_wp2_with (first
    | (go_at_call 269;refine (evMaybe_any _ _ _).mono ?_;rintro en w' ⟨rfl,rfl⟩;try simp only [h1])
    | (go_at_call 224;refine (evBelow_any _ _ _).mono ?_;rintro en w' ⟨rfl,rfl⟩;try simp only [h1]))
   go_ret
   exact ⟨ret_bool (by rw [HF.out];simp [h1]),HB.out⟩
  ·by_cases h2:1≤e.n
   ·by_cases h3:e.n≤100
    ·skip
     go_wp2_with (first
      | (go_at_call 269;refine (evMaybe_any _ _ _).mono ?_;rintro en w' ⟨rfl,rfl⟩;try simp only [h1,h2,h3])
      | (go_at_call 224;refine (evBelow_any _ _ _).mono ?_;rintro en w' ⟨rfl,rfl⟩;try simp only [h1,h2,h3]))
     go_ret
     exact ⟨ret_bool (by rw [HF.out];simp [h1,h2,h3]),HB.out⟩
    ·have d3:decide (e.n≤100)=false:=by simpa using h3
     go_wp2_with (first
      | (go_at_call 269;refine (evMaybe_any _ _ _).mono ?_;rintro en w' ⟨rfl,rfl⟩;try simp only [h1,h2,d3])
      | (go_at_call 224;refine (evBelow_any _ _ _).mono ?_;rintro en w' ⟨rfl,rfl⟩;try simp only [h1,h2,d3]))
     go_ret
     exact ⟨ret_bool (by rw [HF.out];simp [h1,h2,d3]),HB.out⟩
   ·have d2:decide (1≤e.n)=false:=by simpa using h2
    go_wp2_with (first
     | (go_at_call 269;refine (evMaybe_any _ _ _).mono ?_;rintro en w' ⟨rfl,rfl⟩;try simp only [h1,d2])
     | (go_at_call 224;refine (evBelow_any _ _ _).mono ?_;rintro en w' ⟨rfl,rfl⟩;try simp only [h1,d2]))
    go_ret
    exact ⟨ret_bool (by rw [HF.out];simp [h1,d2]),HB.out⟩
 ·have HF:Hid (fieldsB e=belowB e.who 2000):=hid (by unfold fieldsB;simp [h])
  have k0:(e.kind==0)=false:=by simp [h]
  have k1:(e.kind==1)=false:=by simp [h]
  have k2:(e.kind==2)=false:=by simp [h]
  have k3:(e.kind==3)=false:=by simp [h]
  have k4:(e.kind==4)=false:=by simp [h]
  have k5:(e.kind==5)=true:=by simp [h]
  clear h
  go_enter Tryz.func225,Tryz.ntmps225
  cases h1:belowB e.who 2000
  ·skip
   go_wp2_with (first
    | (go_at_call 269;refine (evMaybe_any _ _ _).mono ?_;rintro en w' ⟨rfl,rfl⟩;try simp only [h1])
    | (go_at_call 224;refine (evBelow_any _ _ _).mono ?_;rintro en w' ⟨rfl,rfl⟩;try simp only [h1]))
   go_ret
   exact ⟨ret_bool (by rw [HF.out];simp [h1]),HB.out⟩
  ·skip
   go_wp2_with (first
    | (go_at_call 269;refine (evMaybe_any _ _ _).mono ?_;rintro en w' ⟨rfl,rfl⟩;try simp only [h1])
    | (go_at_call 224;refine (evBelow_any _ _ _).mono ?_;rintro en w' ⟨rfl,rfl⟩;try simp only [h1]))
   go_ret
   exact ⟨ret_bool (by rw [HF.out];simp [h1]),HB.out⟩
 ·have HF:Hid (fieldsB e=belowB e.who 2000):=hid (by unfold fieldsB;simp [h])
  have k0:(e.kind==0)=false:=by simp [h]
  have k1:(e.kind==1)=false:=by simp [h]
  have k2:(e.kind==2)=false:=by simp [h]
  have k3:(e.kind==3)=false:=by simp [h]
  have k4:(e.kind==4)=false:=by simp [h]
  have k5:(e.kind==5)=false:=by simp [h]
  have k7:(e.kind==7)=true:=by simp [h]
  clear h
  go_enter Tryz.func225,Tryz.ntmps225
  cases h1:belowB e.who 2000
  ·skip
   go_wp2_with (first
    | (go_at_call 269;refine (evMaybe_any _ _ _).mono ?_;rintro en w' ⟨rfl,rfl⟩;try simp only [h1])
    | (go_at_call 224;refine (evBelow_any _ _ _).mono ?_;rintro en w' ⟨rfl,rfl⟩;try simp only [h1]))
   go_ret
   exact ⟨ret_bool (by rw [HF.out];simp [h1]),HB.out⟩
  ·skip
   go_wp2_with (first
    | (go_at_call 269;refine (evMaybe_any _ _ _).mono ?_;rintro en w' ⟨rfl,rfl⟩;try simp only [h1])
    | (go_at_call 224;refine (evBelow_any _ _ _).mono ?_;rintro en w' ⟨rfl,rfl⟩;try simp only [h1]))
   go_ret
   exact ⟨ret_bool (by rw [HF.out];simp [h1]),HB.out⟩
 ·have HF:Hid (fieldsB e=(belowB e.who 2000 && belowB e.n 16)):=hid (by unfold fieldsB;simp [h])
  have k0:(e.kind==0)=false:=by simp [h]
  have k1:(e.kind==1)=false:=by simp [h]
  have k2:(e.kind==2)=false:=by simp [h]
  have k3:(e.kind==3)=false:=by simp [h]
  have k4:(e.kind==4)=false:=by simp [h]
  have k5:(e.kind==5)=false:=by simp [h]
  have k7:(e.kind==7)=false:=by simp [h]
  have k9:(e.kind==9)=true:=by simp [h]
  clear h
  go_enter Tryz.func225,Tryz.ntmps225
  cases h1:belowB e.who 2000
  ·skip
   go_wp2_with (first
    | (go_at_call 269;refine (evMaybe_any _ _ _).mono ?_;rintro en w' ⟨rfl,rfl⟩;try simp only [h1])
    | (go_at_call 224;refine (evBelow_any _ _ _).mono ?_;rintro en w' ⟨rfl,rfl⟩;try simp only [h1]))
   go_ret
   exact ⟨ret_bool (by rw [HF.out];simp [h1]),HB.out⟩
  ·cases h2:belowB e.n 16
   ·skip
    go_wp2_with (first
     | (go_at_call 269;refine (evMaybe_any _ _ _).mono ?_;rintro en w' ⟨rfl,rfl⟩;try simp only [h1,h2])
     | (go_at_call 224;refine (evBelow_any _ _ _).mono ?_;rintro en w' ⟨rfl,rfl⟩;try simp only [h1,h2]))
    go_ret
    exact ⟨ret_bool (by rw [HF.out];simp [h1,h2]),HB.out⟩
   ·skip
    go_wp2_with (first
     | (go_at_call 269;refine (evMaybe_any _ _ _).mono ?_;rintro en w' ⟨rfl,rfl⟩;try simp only [h1,h2])
     | (go_at_call 224;refine (evBelow_any _ _ _).mono ?_;rintro en w' ⟨rfl,rfl⟩;try simp only [h1,h2]))
    go_ret
    exact ⟨ret_bool (by rw [HF.out];simp [h1,h2]),HB.out⟩
 ·obtain ⟨a0,a1,a2,a3,a4,a5,a7,a9⟩:=h
  have HF:Hid (fieldsB e=((e.kind==6) || (e.kind==8))):=hid (by unfold fieldsB;simp [a0,a1,a2,a3,a4,a5,a7,a9])
  have k0:(e.kind==0)=false:=by simp [a0]
  have k1:(e.kind==1)=false:=by simp [a1]
  have k2:(e.kind==2)=false:=by simp [a2]
  have k3:(e.kind==3)=false:=by simp [a3]
  have k4:(e.kind==4)=false:=by simp [a4]
  have k5:(e.kind==5)=false:=by simp [a5]
  have k7:(e.kind==7)=false:=by simp [a7]
  have k9:(e.kind==9)=false:=by simp [a9]
  clear a0 a1 a2 a3 a4 a5 a7 a9
  go_enter Tryz.func225,Tryz.ntmps225
  cases k6:(e.kind==6)
  ·cases k8:(e.kind==8)
   ·skip
    go_wp2_with (first
     | (go_at_call 269;refine (evMaybe_any _ _ _).mono ?_;rintro en w' ⟨rfl,rfl⟩;try simp only [k6,k8])
     | (go_at_call 224;refine (evBelow_any _ _ _).mono ?_;rintro en w' ⟨rfl,rfl⟩;try simp only [k6,k8]))
    go_ret
    exact ⟨ret_bool (by rw [HF.out];simp [k6,k8]),HB.out⟩
   ·skip
    go_wp2_with (first
     | (go_at_call 269;refine (evMaybe_any _ _ _).mono ?_;rintro en w' ⟨rfl,rfl⟩;try simp only [k6,k8])
     | (go_at_call 224;refine (evBelow_any _ _ _).mono ?_;rintro en w' ⟨rfl,rfl⟩;try simp only [k6,k8]))
    go_ret
    exact ⟨ret_bool (by rw [HF.out];simp [k6,k8]),HB.out⟩
  ·skip
   go_wp2_with (first
    | (go_at_call 269;refine (evMaybe_any _ _ _).mono ?_;rintro en w' ⟨rfl,rfl⟩;try simp only [k6])
    | (go_at_call 224;refine (evBelow_any _ _ _).mono ?_;rintro en w' ⟨rfl,rfl⟩;try simp only [k6]))
   go_ret
   exact ⟨ret_bool (by rw [HF.out];simp [k6]),HB.out⟩
/-! files -/
theorem filesGo_step (l:List Int) (k:Nat) (hk:k<l.length):filesGo (l.take k) (l.drop k)=(belowB l[k] 1073741825 && (!decide (l[k]∈l.take k) && filesGo (l.take (k+1)) (l.drop (k+1)))):=by
 rw [List.drop_eq_getElem_cons hk,filesGo,List.take_succ_eq_append_getElem hk]
theorem RdL.takeI {T:Type} {sz:Nat} {enc:T→List Value} {w:World} {B:Nat} {A:Option Addr} {xs:List T} (h:RdL sz enc w B A xs) (n:Nat):RdL sz enc w B A (xs.take n):=fun k x hx=>h k x (by
 rw [List.getElem?_take] at hx
 split at hx
 ·exact hx
 ·cases hx)
theorem evFiles_any (l:List Int) (A:Option Addr) (n c:Nat) (w:World) (hn:n=l.length) (hr:RdI w w.heap.size A l) (hm:l.length≤9223372036854775807) (hc:l.length≤c) :
  Calls Tryz.prog 226 #[.slice A n c] w fun e w'=>e=.returned (.bool (filesB l))∧w=w':=by
 subst hn
 go_enter Tryz.func226,Tryz.ntmps226
 go_wp2
 go_loopw [3,4,7] (fun _ _ i wr=>∃ k:Nat,k≤l.length∧i=.int .i64 k∧filesGo (l.take k) (l.drop k)=filesGo [] l∧w=wr) (fun _ _ i _=>l.length - (intOf i).toNat)
 case atStart=>exact ⟨0,Nat.zero_le _,rfl,rfl,rfl⟩
 case round =>
  obtain ⟨k,hk,rfl,hf,rfl⟩:=hrel
  have HF:=hid hf
  clear hf
  by_cases hlt:k<l.length
  ·obtain ⟨b,off,rfl,hb,c0⟩:=RdI_at hr hlt
   have HSt:=hid (filesGo_step l k hlt)
   have HC:=hid (intCont_any (l.take k) l[k] (some ⟨b,off,none⟩) k c w (by rw [List.length_take];omega) (hr.takeI k) (by rw [List.length_take];omega))
   generalize l[k]=x at *
   cases h1:belowB x 1073741825
   ·have HFa:Hid (filesB l=false):=hid (by unfold filesB;rw [← HF.out,HSt.out,h1];rfl)
    go_wp2_with (go_at_call 224;refine (evBelow_any _ _ _).mono ?_;rw [h1];rintro e w' ⟨rfl,rfl⟩)
    go_ret
    exact ⟨by rw [HFa.out];rfl,rfl⟩
   ·cases h2:decide (x∈l.take k)
    ·rw [h2] at HC
     have HFa:Hid (filesGo (l.take (k+1)) (l.drop (k+1))=filesGo [] l):=hid (by rw [← HF.out,HSt.out,h1,h2];rfl)
     go_wp2_with (first | (go_at_call 224;refine (evBelow_any _ _ _).mono ?_;rw [h1];rintro e w' ⟨rfl,rfl⟩) | (go_at_call 270;refine HC.out.mono ?_;rintro e w' ⟨rfl,rfl⟩))
     go_roundw
     case rel=>exact ⟨k+1,by omega,by go_num,HFa.out,by first | rfl | trivial⟩
     case measure=>simp [intOf];omega
    ·rw [h2] at HC
     have HFa:Hid (filesB l=false):=hid (by unfold filesB;rw [← HF.out,HSt.out,h1,h2];rfl)
     go_wp2_with (first | (go_at_call 224;refine (evBelow_any _ _ _).mono ?_;rw [h1];rintro e w' ⟨rfl,rfl⟩) | (go_at_call 270;refine HC.out.mono ?_;rintro e w' ⟨rfl,rfl⟩))
     go_ret
     exact ⟨by rw [HFa.out];rfl,rfl⟩
  ·have HFa:Hid (filesB l=decide (l.length≤4)):=hid (by
    have h:=HF.out
    rw [List.drop_eq_nil_of_le (by omega)] at h
    unfold filesB
    rw [← h]
    rfl)
   go_wp2
   go_ret
   exact ⟨ret_bool (by rw [HFa.out];simp;omega),rfl⟩
/- Contracts of event.Same and of linguaref14.Same (written by gensame.py). -/
theorem toList_inj {s t:ByteArray} (h:s.toList=t.toList):s=t:=by
 rw [ByteArray.toList_eq,ByteArray.toList_eq] at h
 exact ByteArray.ext (Array.toList_inj.1 h)
theorem str_eqB (s t:ByteArray):decide (s=t)=(s.toList==t.toList):=by
 by_cases h:s=t
 ·subst h
  simp
 ·have:¬ s.toList=t.toList:=fun e=>h (toList_inj e)
  simp [h,this]
set_option maxRecDepth 100000 in
theorem evSame_any (a b:EvM) (cA:Option Addr) (cc:Nat) (fA:Option Addr) (fc:Nat) (dA:Option Addr) (dc:Nat) (gA:Option Addr) (gc:Nat) (w:World) (ha:EvOk w w.heap.size cA fA a) (hb:EvOk w w.heap.size dA gA b) :
  Calls Tryz.prog 19 #[a.v cA cc fA fc,b.v dA dc gA gc] w fun e w'=>e=.returned (.bool (sameE a b))∧Below w.heap.size w w':=by
 have hb0:Below w.heap.size w ((w.alloc (.cells (a.cs cA cc fA fc) 56)).alloc (.cells (b.cs dA dc gA gc) 56)):=by repeat (first | with_reducible exact Below.refl _ _ | with_reducible assumption | with_reducible refine Below.drew ?_ | with_reducible refine Below.alloc ?_ (by first | omega | (simp;done) | (simp;omega)) _)
 have HB:=hid hb0
 have HC:=hid (fun w' (h:Below w.heap.size w w')=>intEq_any a.causes b.causes cA dA _ _ cc dc w' rfl rfl (ha.now h).ca (hb.now h).ca ha.cl hb.cl)
 have HFi:=hid (fun w' (h:Below w.heap.size w w')=>intEq_any a.files b.files fA gA _ _ fc gc w' rfl rfl (ha.now h).fi (hb.now h).fi ha.fl hb.fl)
 have hst:=str_eqB a.text b.text
 clear ha hb hb0
 have HS:Hid (sameE a b=((a.author==b.author) && ((a.seq==b.seq) && ((a.kind==b.kind) && ((a.group==b.group) && ((a.target==b.target) && ((a.quote==b.quote) && ((a.who==b.who) && ((a.n==b.n) && ((a.step==b.step) && ((a.text.toList==b.text.toList) && (decide (a.causes=b.causes) && decide (a.files=b.files))))))))))))):=hid (by rw [← hst];rfl)
 clear hst
 go_enter Tryz.func19,Tryz.ntmps19
 cases h0:(a.author==b.author)
 ·go_wp2
  go_ret
  exact ⟨ret_bool (by rw [HS.out];simp only [h0,Bool.false_and,Bool.true_and]),HB.out⟩
 ·skip
  cases h1:(a.seq==b.seq)
  ·go_wp2
   go_ret
   exact ⟨ret_bool (by rw [HS.out];simp only [h0,h1,Bool.false_and,Bool.true_and]),HB.out⟩
  ·skip
   cases h2:(a.kind==b.kind)
   ·go_wp2
    go_ret
    exact ⟨ret_bool (by rw [HS.out];simp only [h0,h1,h2,Bool.false_and,Bool.true_and]),HB.out⟩
   ·skip
    cases h3:(a.group==b.group)
    ·go_wp2
     go_ret
     exact ⟨ret_bool (by rw [HS.out];simp only [h0,h1,h2,h3,Bool.false_and,Bool.true_and]),HB.out⟩
    ·skip
     cases h4:(a.target==b.target)
     ·go_wp2
      go_ret
      exact ⟨ret_bool (by rw [HS.out];simp only [h0,h1,h2,h3,h4,Bool.false_and,Bool.true_and]),HB.out⟩
     ·skip
      cases h5:(a.quote==b.quote)
      ·go_wp2
       go_ret
       exact ⟨ret_bool (by rw [HS.out];simp only [h0,h1,h2,h3,h4,h5,Bool.false_and,Bool.true_and]),HB.out⟩
      ·skip
       cases h6:(a.who==b.who)
       ·go_wp2
        go_ret
        exact ⟨ret_bool (by rw [HS.out];simp only [h0,h1,h2,h3,h4,h5,h6,Bool.false_and,Bool.true_and]),HB.out⟩
       ·skip
        cases h7:(a.n==b.n)
        ·go_wp2
         go_ret
         exact ⟨ret_bool (by rw [HS.out];simp only [h0,h1,h2,h3,h4,h5,h6,h7,Bool.false_and,Bool.true_and]),HB.out⟩
        ·skip
         cases h8:(a.step==b.step)
         ·go_wp2
          go_ret
          exact ⟨ret_bool (by rw [HS.out];simp only [h0,h1,h2,h3,h4,h5,h6,h7,h8,Bool.false_and,Bool.true_and]),HB.out⟩
         ·skip
          cases h9:(a.text.toList==b.text.toList)
          ·go_wp2
           go_ret
           exact ⟨ret_bool (by rw [HS.out];simp only [h0,h1,h2,h3,h4,h5,h6,h7,h8,h9,Bool.false_and,Bool.true_and]),HB.out⟩
          ·cases h10:decide (a.causes=b.causes)
           ·go_wp2_with fail
            refine (HC.out _ HB.out).mono ?_
            rintro e w1 ⟨rfl,hb1⟩
            rw [h10]
            have HB1:=hid (HB.out.trans (hb1.mono HB.out.size))
            clear hb1
            go_wp2
            go_ret
            exact ⟨ret_bool (by rw [HS.out];simp only [h0,h1,h2,h3,h4,h5,h6,h7,h8,h9,h10,Bool.false_and,Bool.true_and]),HB1.out⟩
           ·go_wp2_with fail
            refine (HC.out _ HB.out).mono ?_
            rintro e w1 ⟨rfl,hb1⟩
            rw [h10]
            have HB1:=hid (HB.out.trans (hb1.mono HB.out.size))
            have hz1:w.heap.size+2≤w1.heap.size:=by have:=hb1.size;simpa using this
            have q0:w1.cell? ⟨w.heap.size,10,none⟩=some (.slice fA a.files.length fc):=(hb1.cell (p:=⟨w.heap.size,10,none⟩) (by simp;omega)).trans (by simp)
            have q1:w1.cell? ⟨w.heap.size+1,10,none⟩=some (.slice gA b.files.length gc):=(hb1.cell (p:=⟨w.heap.size+1,10,none⟩) (by simp)).trans (by simp)
            clear hb1
            go_wp2_with fail
            refine (HFi.out _ HB1.out).mono ?_
            rintro e w2 ⟨rfl,hb2⟩
            have HB2:=hid (HB1.out.trans (hb2.mono HB1.out.size))
            clear hb2 q0 q1
            go_wp2
            go_ret
            exact ⟨ret_bool (by rw [HS.out];simp only [h0,h1,h2,h3,h4,h5,h6,h7,h8,h9,h10,Bool.false_and,Bool.true_and]),HB2.out⟩
set_option maxRecDepth 100000 in
theorem rSameE_any (a b:EvM) (cA:Option Addr) (cc:Nat) (fA:Option Addr) (fc:Nat) (dA:Option Addr) (dc:Nat) (gA:Option Addr) (gc:Nat) (w:World) (ha:EvOk w w.heap.size cA fA a) (hb:EvOk w w.heap.size dA gA b) :
  Calls Tryz.prog 171 #[a.v cA cc fA fc,b.v dA dc gA gc] w fun e w'=>e=.returned (.bool (sameE a b))∧Below w.heap.size w w':=by
 have hb0:Below w.heap.size w ((w.alloc (.cells (a.cs cA cc fA fc) 56)).alloc (.cells (b.cs dA dc gA gc) 56)):=by repeat (first | with_reducible exact Below.refl _ _ | with_reducible assumption | with_reducible refine Below.drew ?_ | with_reducible refine Below.alloc ?_ (by first | omega | (simp;done) | (simp;omega)) _)
 have HB:=hid hb0
 have HC:=hid (fun w' (h:Below w.heap.size w w')=>rInts_any a.causes b.causes cA dA _ _ cc dc w' rfl rfl (ha.now h).ca (hb.now h).ca ha.cl hb.cl)
 have HFi:=hid (fun w' (h:Below w.heap.size w w')=>rInts_any a.files b.files fA gA _ _ fc gc w' rfl rfl (ha.now h).fi (hb.now h).fi ha.fl hb.fl)
 have hst:=str_eqB a.text b.text
 clear ha hb hb0
 have HS:Hid (sameE a b=((a.author==b.author) && ((a.seq==b.seq) && ((a.kind==b.kind) && ((a.group==b.group) && ((a.target==b.target) && ((a.quote==b.quote) && ((a.who==b.who) && ((a.n==b.n) && ((a.step==b.step) && ((a.text.toList==b.text.toList) && (decide (a.causes=b.causes) && decide (a.files=b.files))))))))))))):=hid (by rw [← hst];rfl)
 clear hst
 go_enter Tryz.func171,Tryz.ntmps171
 cases h0:(a.author==b.author)
 ·go_wp2
  go_ret
  exact ⟨ret_bool (by rw [HS.out];simp only [h0,Bool.false_and,Bool.true_and]),HB.out⟩
 ·skip
  cases h1:(a.seq==b.seq)
  ·go_wp2
   go_ret
   exact ⟨ret_bool (by rw [HS.out];simp only [h0,h1,Bool.false_and,Bool.true_and]),HB.out⟩
  ·skip
   cases h2:(a.kind==b.kind)
   ·go_wp2
    go_ret
    exact ⟨ret_bool (by rw [HS.out];simp only [h0,h1,h2,Bool.false_and,Bool.true_and]),HB.out⟩
   ·skip
    cases h3:(a.group==b.group)
    ·go_wp2
     go_ret
     exact ⟨ret_bool (by rw [HS.out];simp only [h0,h1,h2,h3,Bool.false_and,Bool.true_and]),HB.out⟩
    ·skip
     cases h4:(a.target==b.target)
     ·go_wp2
      go_ret
      exact ⟨ret_bool (by rw [HS.out];simp only [h0,h1,h2,h3,h4,Bool.false_and,Bool.true_and]),HB.out⟩
     ·skip
      cases h5:(a.quote==b.quote)
      ·go_wp2
       go_ret
       exact ⟨ret_bool (by rw [HS.out];simp only [h0,h1,h2,h3,h4,h5,Bool.false_and,Bool.true_and]),HB.out⟩
      ·skip
       cases h6:(a.who==b.who)
       ·go_wp2
        go_ret
        exact ⟨ret_bool (by rw [HS.out];simp only [h0,h1,h2,h3,h4,h5,h6,Bool.false_and,Bool.true_and]),HB.out⟩
       ·skip
        cases h7:(a.n==b.n)
        ·go_wp2
         go_ret
         exact ⟨ret_bool (by rw [HS.out];simp only [h0,h1,h2,h3,h4,h5,h6,h7,Bool.false_and,Bool.true_and]),HB.out⟩
        ·skip
         cases h8:(a.step==b.step)
         ·go_wp2
          go_ret
          exact ⟨ret_bool (by rw [HS.out];simp only [h0,h1,h2,h3,h4,h5,h6,h7,h8,Bool.false_and,Bool.true_and]),HB.out⟩
         ·skip
          cases h9:(a.text.toList==b.text.toList)
          ·go_wp2
           go_ret
           exact ⟨ret_bool (by rw [HS.out];simp only [h0,h1,h2,h3,h4,h5,h6,h7,h8,h9,Bool.false_and,Bool.true_and]),HB.out⟩
          ·cases h10:decide (a.causes=b.causes)
           ·go_wp2_with fail
            refine (HC.out _ HB.out).mono ?_
            rintro e w1 ⟨rfl,hb1⟩
            rw [h10]
            have HB1:=hid (HB.out.trans (hb1.mono HB.out.size))
            clear hb1
            go_wp2
            go_ret
            exact ⟨ret_bool (by rw [HS.out];simp only [h0,h1,h2,h3,h4,h5,h6,h7,h8,h9,h10,Bool.false_and,Bool.true_and]),HB1.out⟩
           ·go_wp2_with fail
            refine (HC.out _ HB.out).mono ?_
            rintro e w1 ⟨rfl,hb1⟩
            rw [h10]
            have HB1:=hid (HB.out.trans (hb1.mono HB.out.size))
            have hz1:w.heap.size+2≤w1.heap.size:=by have:=hb1.size;simpa using this
            have q0:w1.cell? ⟨w.heap.size,10,none⟩=some (.slice fA a.files.length fc):=(hb1.cell (p:=⟨w.heap.size,10,none⟩) (by simp;omega)).trans (by simp)
            have q1:w1.cell? ⟨w.heap.size+1,10,none⟩=some (.slice gA b.files.length gc):=(hb1.cell (p:=⟨w.heap.size+1,10,none⟩) (by simp)).trans (by simp)
            clear hb1
            go_wp2_with fail
            refine (HFi.out _ HB1.out).mono ?_
            rintro e w2 ⟨rfl,hb2⟩
            have HB2:=hid (HB1.out.trans (hb2.mono HB1.out.size))
            clear hb2 q0 q1
            go_wp2
            go_ret
            exact ⟨ret_bool (by rw [HS.out];simp only [h0,h1,h2,h3,h4,h5,h6,h7,h8,h9,h10,Bool.false_and,Bool.true_and]),HB2.out⟩
/- Contracts of words and lists of strings (layers 11 and 12,and package slices at []string). -/
/- Contracts of words (layers 11 and 12). -/
/- Contracts of layer 22: comparing,cloning,and dropping by the reference. -/
set_option maxRecDepth 100000
/- Contracts of layer 22: DeleteFunc,and Drop of the program. -/
theorem take_set {T:Type} (ys:List T) (i:Nat) (p:T) (hi:i<ys.length):(ys.set i p).take (i+1)=ys.take i++[p]:=by
 rw [List.take_succ_eq_append_getElem (by simpa using hi),List.getElem_set_self,List.take_set,List.set_eq_of_length_le (by simp;omega)]
end Go.Proofs.YthlpehhlhebhbaaGreatDoor
