/- Contracts and plain laws, joined: StB, StC, StBi. -/
import Derived.Test.YthlpehhlhebhbaaGreatDoorQai
import Derived.Test.YthlpehhlhebhbaaGreatDoorQak
import Derived.Test.YthlpehhlhebhbaaGreatDoorQah
/- slices.IndexFunc,slices.ContainsFunc and state.each at the small structs of a state (written by genstb.py). -/
set_option linter.unusedSimpArgs false
set_option linter.unusedVariables false
namespace Go.Proofs.YthlpehhlhebhbaaGreatDoor
set_option maxHeartbeats 1000000
open Lib (hid)
open Go.RowKit
set_option maxRecDepth 100000
structure FunB {T:Type} (w:World) (f:FV) (xs:List T) (vx:T→Value) (P:T→Bool):Prop where
 ent:∀ args w',(callFunc f.n args).run Tryz.prog w'=.ok (.enter f.n args) w'
 run:∀ x∈xs,∀ w',Below w.heap.size w w'→Calls Tryz.prog f.n (f.bnd++#[vx x]++f.cap) w' fun e w''=>e=.returned (.bool (P x))∧Below w'.heap.size w' w''
theorem FunB.now {T:Type} {w w':World} {f:FV} {xs:List T} {vx:T→Value} {P:T→Bool} (h:FunB w f xs vx P) (hb:Below w.heap.size w w'):FunB w' f xs vx P :=
 ⟨h.ent,fun x hx w2 h2=>h.run x hx w2 (hb.trans (h2.mono hb.size))⟩
theorem any_take {T:Type} (P:T→Bool) (xs:List T) (k:Nat) (hk:k<xs.length) (h:(xs.take k).any P=false):(xs.take (k+1)).any P=P xs[k]:=by
 rw [List.take_succ_eq_append_getElem hk,List.any_append,h]
 simp
theorem any_hit {T:Type} (P:T→Bool) (xs:List T) (k:Nat) (hk:k<xs.length) (h:P xs[k]=true):xs.any P=true:=List.any_eq_true.2 ⟨_,List.getElem_mem hk,h⟩
theorem all_not {T:Type} (P:T→Bool) (xs:List T):(!xs.any (fun x=>!P x))=xs.all P:=by
 induction xs with
 | nil=>rfl
 | cons x r ih=>simp only [List.any_cons,List.all_cons,Bool.not_or,Bool.not_not,ih]
theorem enter_fn {P : Program} {f : FuncId} {fn : Func} {c : Code} (hf : P.funcs[f]? = some fn) (hname : (fn.name == "runtime.NumGoroutine") = false) (hb : fn.body = some c) (args : Array Value) (w : World) :
  (callFunc f args).run P w=.ok (.enter f args) w:=by
 unfold callFunc
 simp [hf,hb]
 simp at hname
 simp [hname]
theorem ixWaiting_any (xs:List (D4)) (P:D4→Bool) (f:FV) (A:Option Addr) (c:Nat) (w:World) (hr:RdL 4 D4.cs w w.heap.size A xs) (hx:xs.length≤9223372036854775807) (hf:FunB w f xs D4.v P) :
  Calls Tryz.prog 274 #[.slice A xs.length c,.func (.func f.n) f.bnd f.cap] w fun e w'=>∃ i,e=.returned (.int .i64 i)∧decide (0≤i)=xs.any P∧Below w.heap.size w w':=by
 have HR:=hid hr
 have HF:=hid hf
 clear hr hf
 go_enter Tryz.func274,Tryz.ntmps274
 go_wp2_with fail
 go_loopw [5,8] (fun _ i wr=>∃ k:Nat,k≤xs.length∧i=.int .i64 k∧(xs.take k).any P=false∧Below w.heap.size w wr) (fun _ i _=>xs.length - (intOf i).toNat)
 case atStart=>exact ⟨0,Nat.zero_le _,rfl,rfl,Below.refl _ _⟩
 case round =>
  obtain ⟨k,hk,rfl,hfk,hbw⟩:=hrel
  have HFk:=hid hfk
  have HB:=hid hbw
  clear hfk
  by_cases hlt:k<xs.length
  ·obtain ⟨b,off,rfl,hb,c0,c1,c2,c3⟩:=rdD4 (HR.out.now hbw) hlt
   have HC:=hid (HF.out.run xs[k] (List.getElem_mem hlt) wr hbw)
   have HE:=hid HF.out.ent
   have HT:=hid (any_take P xs k hlt HFk.out)
   have HH:=hid (any_hit P xs k hlt)
   clear hbw
   generalize xs[k]=x at *
   go_wp2_with fail
   rw [HE.out,Oper.upon_enter]
   refine HC.out.mono ?_
   rintro e w1 ⟨rfl,hb1⟩
   have HB1:=hid (HB.out.trans (hb1.mono HB.out.size))
   clear hb1 HC
   cases hp:P x with
   | true =>
    have HQ:=hid (HH.out hp)
    clear HH HT
    go_wp2_with fail
    go_ret
    exact ⟨k,rfl,by rw [HQ.out];simp,HB1.out⟩
   | false =>
    have HQ:=hid (HT.out.trans hp)
    clear HH HT
    go_wp2_with fail
    go_roundw
    case rel=>exact ⟨k+1,by omega,by go_num,HQ.out,HB1.out⟩
    case measure=>simp [intOf];omega
  ·obtain rfl:k=xs.length:=by omega
   have h:=HFk.out
   rw [List.take_length] at h
   have HQ:=hid h
   clear h
   go_wp2_with fail
   go_ret
   exact ⟨-1,rfl,by rw [HQ.out];rfl,HB.out⟩
theorem cnWaiting_any (xs:List (D4)) (P:D4→Bool) (f:FV) (A:Option Addr) (c:Nat) (w:World) (hr:RdL 4 D4.cs w w.heap.size A xs) (hx:xs.length≤9223372036854775807) (hf:FunB w f xs D4.v P) :
  Calls Tryz.prog 234 #[.slice A xs.length c,.func (.func f.n) f.bnd f.cap] w fun e w'=>e=.returned (.bool (xs.any P))∧Below w.heap.size w w':=by
 have HR:=hid hr
 have HF:=hid hf
 clear hr hf
 go_enter Tryz.func234,Tryz.ntmps234
 go_wp2_with fail
 refine (ixWaiting_any xs P f A c w HR.out hx HF.out).mono ?_
 rintro e w1 ⟨i,rfl,hi,hb⟩
 have HI:=hid hi
 have HB:=hid hb
 clear hi hb
 go_wp2_with fail
 go_ret
 exact ⟨by rw [← HI.out];rfl,HB.out⟩
theorem ebWaiting_any (x:D4) (q:Bool) (f:FV) (b:Nat) (w:World) (hc:w.cell? ⟨b,0,none⟩=some (.func (.func f.n) f.bnd f.cap)) (hl:b<w.heap.size) (he:∀ args w',(callFunc f.n args).run Tryz.prog w'=.ok (.enter f.n args) w')
  (hf:∀ w',Below w.heap.size w w'→Calls Tryz.prog f.n (f.bnd++#[D4.v x]++f.cap) w' fun e w''=>e=.returned (.bool q)∧Below w'.heap.size w' w'') :
  Calls Tryz.prog 235 #[D4.v x,.pointer (some ⟨b,0,none⟩)] w fun e w'=>e=.returned (.bool (!q))∧Below w.heap.size w w':=by
 have HF:=hid hf
 have HE:=hid he
 clear hf he
 go_enter Tryz.func235,Tryz.ntmps235
 go_wp2_with fail
 rw [HE.out,Oper.upon_enter]
 refine (HF.out _ (by repeat (first | with_reducible exact Below.refl _ _ | with_reducible assumption | with_reducible refine Below.drew ?_ | with_reducible refine Below.alloc ?_ (by first | omega | (simp;done) | (simp;omega)) _))).mono ?_
 rintro e w1 ⟨rfl,hb1⟩
 have hB:Below w.heap.size w w1:=Below.trans (by repeat (first | with_reducible exact Below.refl _ _ | with_reducible assumption | with_reducible refine Below.drew ?_ | with_reducible refine Below.alloc ?_ (by first | omega | (simp;done) | (simp;omega)) _)) (hb1.mono (by simp))
 have HB:=hid hB
 clear hB hb1
 go_wp2_with fail
 go_ret
 exact ⟨rfl,HB.out⟩
theorem eaWaiting_any (xs:List (D4)) (P:D4→Bool) (f:FV) (A:Option Addr) (c:Nat) (w:World) (hr:RdL 4 D4.cs w w.heap.size A xs) (hx:xs.length≤9223372036854775807) (hf:FunB w f xs D4.v P) :
  Calls Tryz.prog 173 #[.slice A xs.length c,.func (.func f.n) f.bnd f.cap] w fun e w'=>e=.returned (.bool (xs.all P))∧Below w.heap.size w w':=by
 have HR:=hid hr
 have HF:=hid hf
 have HA:=hid (all_not P xs)
 clear hr hf
 go_enter Tryz.func173,Tryz.ntmps173
 go_wp2_with fail
 refine (cnWaiting_any xs (fun x=>!P x) ⟨235,#[],#[.pointer (some ⟨w.heap.size,0,none⟩)]⟩ A c _ (HR.out.now (by repeat (first | with_reducible exact Below.refl _ _ | with_reducible assumption | with_reducible refine Below.drew ?_ | with_reducible refine Below.alloc ?_ (by first | omega | (simp;done) | (simp;omega)) _))) hx ⟨fun args w'=>enter_fn Tryz.func235 (by kernel_rfl) rfl args w',fun x hx w2 h2=>?_⟩).mono ?_
 ·refine ebWaiting_any x (P x) f w.heap.size w2 ((h2.cell (p:=⟨w.heap.size,0,none⟩) (by simp)).trans (by simp)) (by have:=h2.size;simp at this;omega) HF.out.ent (fun w3 h3=>HF.out.run x hx w3 ?_)
  exact Below.trans (Below.trans (by repeat (first | with_reducible exact Below.refl _ _ | with_reducible assumption | with_reducible refine Below.drew ?_ | with_reducible refine Below.alloc ?_ (by first | omega | (simp;done) | (simp;omega)) _)) (h2.mono (by simp))) (h3.mono (by have:=h2.size;simp at this;omega))
 ·rintro e w1 ⟨rfl,hb1⟩
  have hB:Below w.heap.size w w1:=Below.trans (by repeat (first | with_reducible exact Below.refl _ _ | with_reducible assumption | with_reducible refine Below.drew ?_ | with_reducible refine Below.alloc ?_ (by first | omega | (simp;done) | (simp;omega)) _)) (hb1.mono (by simp))
  have HB:=hid hB
  clear hB hb1
  go_wp2_with fail
  go_ret
  exact ⟨by rw [← HA.out];rfl,HB.out⟩
theorem ixSent_any (xs:List (D3)) (P:D3→Bool) (f:FV) (A:Option Addr) (c:Nat) (w:World) (hr:RdL 3 D3.cs w w.heap.size A xs) (hx:xs.length≤9223372036854775807) (hf:FunB w f xs D3.v P) :
  Calls Tryz.prog 275 #[.slice A xs.length c,.func (.func f.n) f.bnd f.cap] w fun e w'=>∃ i,e=.returned (.int .i64 i)∧decide (0≤i)=xs.any P∧Below w.heap.size w w':=by
 have HR:=hid hr
 have HF:=hid hf
 clear hr hf
 go_enter Tryz.func275,Tryz.ntmps275
 go_wp2_with fail
 go_loopw [5,8] (fun _ i wr=>∃ k:Nat,k≤xs.length∧i=.int .i64 k∧(xs.take k).any P=false∧Below w.heap.size w wr) (fun _ i _=>xs.length - (intOf i).toNat)
 case atStart=>exact ⟨0,Nat.zero_le _,rfl,rfl,Below.refl _ _⟩
 case round =>
  obtain ⟨k,hk,rfl,hfk,hbw⟩:=hrel
  have HFk:=hid hfk
  have HB:=hid hbw
  clear hfk
  by_cases hlt:k<xs.length
  ·obtain ⟨b,off,rfl,hb,c0,c1,c2⟩:=rdD3 (HR.out.now hbw) hlt
   have HC:=hid (HF.out.run xs[k] (List.getElem_mem hlt) wr hbw)
   have HE:=hid HF.out.ent
   have HT:=hid (any_take P xs k hlt HFk.out)
   have HH:=hid (any_hit P xs k hlt)
   clear hbw
   generalize xs[k]=x at *
   go_wp2_with fail
   rw [HE.out,Oper.upon_enter]
   refine HC.out.mono ?_
   rintro e w1 ⟨rfl,hb1⟩
   have HB1:=hid (HB.out.trans (hb1.mono HB.out.size))
   clear hb1 HC
   cases hp:P x with
   | true =>
    have HQ:=hid (HH.out hp)
    clear HH HT
    go_wp2_with fail
    go_ret
    exact ⟨k,rfl,by rw [HQ.out];simp,HB1.out⟩
   | false =>
    have HQ:=hid (HT.out.trans hp)
    clear HH HT
    go_wp2_with fail
    go_roundw
    case rel=>exact ⟨k+1,by omega,by go_num,HQ.out,HB1.out⟩
    case measure=>simp [intOf];omega
  ·obtain rfl:k=xs.length:=by omega
   have h:=HFk.out
   rw [List.take_length] at h
   have HQ:=hid h
   clear h
   go_wp2_with fail
   go_ret
   exact ⟨-1,rfl,by rw [HQ.out];rfl,HB.out⟩
theorem cnSent_any (xs:List (D3)) (P:D3→Bool) (f:FV) (A:Option Addr) (c:Nat) (w:World) (hr:RdL 3 D3.cs w w.heap.size A xs) (hx:xs.length≤9223372036854775807) (hf:FunB w f xs D3.v P) :
  Calls Tryz.prog 236 #[.slice A xs.length c,.func (.func f.n) f.bnd f.cap] w fun e w'=>e=.returned (.bool (xs.any P))∧Below w.heap.size w w':=by
 have HR:=hid hr
 have HF:=hid hf
 clear hr hf
 go_enter Tryz.func236,Tryz.ntmps236
 go_wp2_with fail
 refine (ixSent_any xs P f A c w HR.out hx HF.out).mono ?_
 rintro e w1 ⟨i,rfl,hi,hb⟩
 have HI:=hid hi
 have HB:=hid hb
 clear hi hb
 go_wp2_with fail
 go_ret
 exact ⟨by rw [← HI.out];rfl,HB.out⟩
theorem ebSent_any (x:D3) (q:Bool) (f:FV) (b:Nat) (w:World) (hc:w.cell? ⟨b,0,none⟩=some (.func (.func f.n) f.bnd f.cap)) (hl:b<w.heap.size) (he:∀ args w',(callFunc f.n args).run Tryz.prog w'=.ok (.enter f.n args) w')
  (hf:∀ w',Below w.heap.size w w'→Calls Tryz.prog f.n (f.bnd++#[D3.v x]++f.cap) w' fun e w''=>e=.returned (.bool q)∧Below w'.heap.size w' w'') :
  Calls Tryz.prog 237 #[D3.v x,.pointer (some ⟨b,0,none⟩)] w fun e w'=>e=.returned (.bool (!q))∧Below w.heap.size w w':=by
 have HF:=hid hf
 have HE:=hid he
 clear hf he
 go_enter Tryz.func237,Tryz.ntmps237
 go_wp2_with fail
 rw [HE.out,Oper.upon_enter]
 refine (HF.out _ (by repeat (first | with_reducible exact Below.refl _ _ | with_reducible assumption | with_reducible refine Below.drew ?_ | with_reducible refine Below.alloc ?_ (by first | omega | (simp;done) | (simp;omega)) _))).mono ?_
 rintro e w1 ⟨rfl,hb1⟩
 have hB:Below w.heap.size w w1:=Below.trans (by repeat (first | with_reducible exact Below.refl _ _ | with_reducible assumption | with_reducible refine Below.drew ?_ | with_reducible refine Below.alloc ?_ (by first | omega | (simp;done) | (simp;omega)) _)) (hb1.mono (by simp))
 have HB:=hid hB
 clear hB hb1
 go_wp2_with fail
 go_ret
 exact ⟨rfl,HB.out⟩
theorem eaSent_any (xs:List (D3)) (P:D3→Bool) (f:FV) (A:Option Addr) (c:Nat) (w:World) (hr:RdL 3 D3.cs w w.heap.size A xs) (hx:xs.length≤9223372036854775807) (hf:FunB w f xs D3.v P) :
  Calls Tryz.prog 176 #[.slice A xs.length c,.func (.func f.n) f.bnd f.cap] w fun e w'=>e=.returned (.bool (xs.all P))∧Below w.heap.size w w':=by
 have HR:=hid hr
 have HF:=hid hf
 have HA:=hid (all_not P xs)
 clear hr hf
 go_enter Tryz.func176,Tryz.ntmps176
 go_wp2_with fail
 refine (cnSent_any xs (fun x=>!P x) ⟨237,#[],#[.pointer (some ⟨w.heap.size,0,none⟩)]⟩ A c _ (HR.out.now (by repeat (first | with_reducible exact Below.refl _ _ | with_reducible assumption | with_reducible refine Below.drew ?_ | with_reducible refine Below.alloc ?_ (by first | omega | (simp;done) | (simp;omega)) _))) hx ⟨fun args w'=>enter_fn Tryz.func237 (by kernel_rfl) rfl args w',fun x hx w2 h2=>?_⟩).mono ?_
 ·refine ebSent_any x (P x) f w.heap.size w2 ((h2.cell (p:=⟨w.heap.size,0,none⟩) (by simp)).trans (by simp)) (by have:=h2.size;simp at this;omega) HF.out.ent (fun w3 h3=>HF.out.run x hx w3 ?_)
  exact Below.trans (Below.trans (by repeat (first | with_reducible exact Below.refl _ _ | with_reducible assumption | with_reducible refine Below.drew ?_ | with_reducible refine Below.alloc ?_ (by first | omega | (simp;done) | (simp;omega)) _)) (h2.mono (by simp))) (h3.mono (by have:=h2.size;simp at this;omega))
 ·rintro e w1 ⟨rfl,hb1⟩
  have hB:Below w.heap.size w w1:=Below.trans (by repeat (first | with_reducible exact Below.refl _ _ | with_reducible assumption | with_reducible refine Below.drew ?_ | with_reducible refine Below.alloc ?_ (by first | omega | (simp;done) | (simp;omega)) _)) (hb1.mono (by simp))
  have HB:=hid hB
  clear hB hb1
  go_wp2_with fail
  go_ret
  exact ⟨by rw [← HA.out];rfl,HB.out⟩
theorem ixDebt_any (xs:List (D2)) (P:D2→Bool) (f:FV) (A:Option Addr) (c:Nat) (w:World) (hr:RdL 2 D2.cs w w.heap.size A xs) (hx:xs.length≤9223372036854775807) (hf:FunB w f xs D2.v P) :
  Calls Tryz.prog 276 #[.slice A xs.length c,.func (.func f.n) f.bnd f.cap] w fun e w'=>∃ i,e=.returned (.int .i64 i)∧decide (0≤i)=xs.any P∧Below w.heap.size w w':=by
 have HR:=hid hr
 have HF:=hid hf
 clear hr hf
 go_enter Tryz.func276,Tryz.ntmps276
 go_wp2_with fail
 go_loopw [5,8] (fun _ i wr=>∃ k:Nat,k≤xs.length∧i=.int .i64 k∧(xs.take k).any P=false∧Below w.heap.size w wr) (fun _ i _=>xs.length - (intOf i).toNat)
 case atStart=>exact ⟨0,Nat.zero_le _,rfl,rfl,Below.refl _ _⟩
 case round =>
  obtain ⟨k,hk,rfl,hfk,hbw⟩:=hrel
  have HFk:=hid hfk
  have HB:=hid hbw
  clear hfk
  by_cases hlt:k<xs.length
  ·obtain ⟨b,off,rfl,hb,c0,c1⟩:=rdD2 (HR.out.now hbw) hlt
   have HC:=hid (HF.out.run xs[k] (List.getElem_mem hlt) wr hbw)
   have HE:=hid HF.out.ent
   have HT:=hid (any_take P xs k hlt HFk.out)
   have HH:=hid (any_hit P xs k hlt)
   clear hbw
   generalize xs[k]=x at *
   go_wp2_with fail
   rw [HE.out,Oper.upon_enter]
   refine HC.out.mono ?_
   rintro e w1 ⟨rfl,hb1⟩
   have HB1:=hid (HB.out.trans (hb1.mono HB.out.size))
   clear hb1 HC
   cases hp:P x with
   | true =>
    have HQ:=hid (HH.out hp)
    clear HH HT
    go_wp2_with fail
    go_ret
    exact ⟨k,rfl,by rw [HQ.out];simp,HB1.out⟩
   | false =>
    have HQ:=hid (HT.out.trans hp)
    clear HH HT
    go_wp2_with fail
    go_roundw
    case rel=>exact ⟨k+1,by omega,by go_num,HQ.out,HB1.out⟩
    case measure=>simp [intOf];omega
  ·obtain rfl:k=xs.length:=by omega
   have h:=HFk.out
   rw [List.take_length] at h
   have HQ:=hid h
   clear h
   go_wp2_with fail
   go_ret
   exact ⟨-1,rfl,by rw [HQ.out];rfl,HB.out⟩
theorem cnDebt_any (xs:List (D2)) (P:D2→Bool) (f:FV) (A:Option Addr) (c:Nat) (w:World) (hr:RdL 2 D2.cs w w.heap.size A xs) (hx:xs.length≤9223372036854775807) (hf:FunB w f xs D2.v P) :
  Calls Tryz.prog 238 #[.slice A xs.length c,.func (.func f.n) f.bnd f.cap] w fun e w'=>e=.returned (.bool (xs.any P))∧Below w.heap.size w w':=by
 have HR:=hid hr
 have HF:=hid hf
 clear hr hf
 go_enter Tryz.func238,Tryz.ntmps238
 go_wp2_with fail
 refine (ixDebt_any xs P f A c w HR.out hx HF.out).mono ?_
 rintro e w1 ⟨i,rfl,hi,hb⟩
 have HI:=hid hi
 have HB:=hid hb
 clear hi hb
 go_wp2_with fail
 go_ret
 exact ⟨by rw [← HI.out];rfl,HB.out⟩
theorem ebDebt_any (x:D2) (q:Bool) (f:FV) (b:Nat) (w:World) (hc:w.cell? ⟨b,0,none⟩=some (.func (.func f.n) f.bnd f.cap)) (hl:b<w.heap.size) (he:∀ args w',(callFunc f.n args).run Tryz.prog w'=.ok (.enter f.n args) w')
  (hf:∀ w',Below w.heap.size w w'→Calls Tryz.prog f.n (f.bnd++#[D2.v x]++f.cap) w' fun e w''=>e=.returned (.bool q)∧Below w'.heap.size w' w'') :
  Calls Tryz.prog 239 #[D2.v x,.pointer (some ⟨b,0,none⟩)] w fun e w'=>e=.returned (.bool (!q))∧Below w.heap.size w w':=by
 have HF:=hid hf
 have HE:=hid he
 clear hf he
 go_enter Tryz.func239,Tryz.ntmps239
 go_wp2_with fail
 rw [HE.out,Oper.upon_enter]
 refine (HF.out _ (by repeat (first | with_reducible exact Below.refl _ _ | with_reducible assumption | with_reducible refine Below.drew ?_ | with_reducible refine Below.alloc ?_ (by first | omega | (simp;done) | (simp;omega)) _))).mono ?_
 rintro e w1 ⟨rfl,hb1⟩
 have hB:Below w.heap.size w w1:=Below.trans (by repeat (first | with_reducible exact Below.refl _ _ | with_reducible assumption | with_reducible refine Below.drew ?_ | with_reducible refine Below.alloc ?_ (by first | omega | (simp;done) | (simp;omega)) _)) (hb1.mono (by simp))
 have HB:=hid hB
 clear hB hb1
 go_wp2_with fail
 go_ret
 exact ⟨rfl,HB.out⟩
theorem eaDebt_any (xs:List (D2)) (P:D2→Bool) (f:FV) (A:Option Addr) (c:Nat) (w:World) (hr:RdL 2 D2.cs w w.heap.size A xs) (hx:xs.length≤9223372036854775807) (hf:FunB w f xs D2.v P) :
  Calls Tryz.prog 178 #[.slice A xs.length c,.func (.func f.n) f.bnd f.cap] w fun e w'=>e=.returned (.bool (xs.all P))∧Below w.heap.size w w':=by
 have HR:=hid hr
 have HF:=hid hf
 have HA:=hid (all_not P xs)
 clear hr hf
 go_enter Tryz.func178,Tryz.ntmps178
 go_wp2_with fail
 refine (cnDebt_any xs (fun x=>!P x) ⟨239,#[],#[.pointer (some ⟨w.heap.size,0,none⟩)]⟩ A c _ (HR.out.now (by repeat (first | with_reducible exact Below.refl _ _ | with_reducible assumption | with_reducible refine Below.drew ?_ | with_reducible refine Below.alloc ?_ (by first | omega | (simp;done) | (simp;omega)) _))) hx ⟨fun args w'=>enter_fn Tryz.func239 (by kernel_rfl) rfl args w',fun x hx w2 h2=>?_⟩).mono ?_
 ·refine ebDebt_any x (P x) f w.heap.size w2 ((h2.cell (p:=⟨w.heap.size,0,none⟩) (by simp)).trans (by simp)) (by have:=h2.size;simp at this;omega) HF.out.ent (fun w3 h3=>HF.out.run x hx w3 ?_)
  exact Below.trans (Below.trans (by repeat (first | with_reducible exact Below.refl _ _ | with_reducible assumption | with_reducible refine Below.drew ?_ | with_reducible refine Below.alloc ?_ (by first | omega | (simp;done) | (simp;omega)) _)) (h2.mono (by simp))) (h3.mono (by have:=h2.size;simp at this;omega))
 ·rintro e w1 ⟨rfl,hb1⟩
  have hB:Below w.heap.size w w1:=Below.trans (by repeat (first | with_reducible exact Below.refl _ _ | with_reducible assumption | with_reducible refine Below.drew ?_ | with_reducible refine Below.alloc ?_ (by first | omega | (simp;done) | (simp;omega)) _)) (hb1.mono (by simp))
  have HB:=hid hB
  clear hB hb1
  go_wp2_with fail
  go_ret
  exact ⟨by rw [← HA.out];rfl,HB.out⟩
theorem ixProof_any (xs:List (D3)) (P:D3→Bool) (f:FV) (A:Option Addr) (c:Nat) (w:World) (hr:RdL 3 D3.cs w w.heap.size A xs) (hx:xs.length≤9223372036854775807) (hf:FunB w f xs D3.v P) :
  Calls Tryz.prog 277 #[.slice A xs.length c,.func (.func f.n) f.bnd f.cap] w fun e w'=>∃ i,e=.returned (.int .i64 i)∧decide (0≤i)=xs.any P∧Below w.heap.size w w':=by
 have HR:=hid hr
 have HF:=hid hf
 clear hr hf
 go_enter Tryz.func277,Tryz.ntmps277
 go_wp2_with fail
 go_loopw [5,8] (fun _ i wr=>∃ k:Nat,k≤xs.length∧i=.int .i64 k∧(xs.take k).any P=false∧Below w.heap.size w wr) (fun _ i _=>xs.length - (intOf i).toNat)
 case atStart=>exact ⟨0,Nat.zero_le _,rfl,rfl,Below.refl _ _⟩
 case round =>
  obtain ⟨k,hk,rfl,hfk,hbw⟩:=hrel
  have HFk:=hid hfk
  have HB:=hid hbw
  clear hfk
  by_cases hlt:k<xs.length
  ·obtain ⟨b,off,rfl,hb,c0,c1,c2⟩:=rdD3 (HR.out.now hbw) hlt
   have HC:=hid (HF.out.run xs[k] (List.getElem_mem hlt) wr hbw)
   have HE:=hid HF.out.ent
   have HT:=hid (any_take P xs k hlt HFk.out)
   have HH:=hid (any_hit P xs k hlt)
   clear hbw
   generalize xs[k]=x at *
   go_wp2_with fail
   rw [HE.out,Oper.upon_enter]
   refine HC.out.mono ?_
   rintro e w1 ⟨rfl,hb1⟩
   have HB1:=hid (HB.out.trans (hb1.mono HB.out.size))
   clear hb1 HC
   cases hp:P x with
   | true =>
    have HQ:=hid (HH.out hp)
    clear HH HT
    go_wp2_with fail
    go_ret
    exact ⟨k,rfl,by rw [HQ.out];simp,HB1.out⟩
   | false =>
    have HQ:=hid (HT.out.trans hp)
    clear HH HT
    go_wp2_with fail
    go_roundw
    case rel=>exact ⟨k+1,by omega,by go_num,HQ.out,HB1.out⟩
    case measure=>simp [intOf];omega
  ·obtain rfl:k=xs.length:=by omega
   have h:=HFk.out
   rw [List.take_length] at h
   have HQ:=hid h
   clear h
   go_wp2_with fail
   go_ret
   exact ⟨-1,rfl,by rw [HQ.out];rfl,HB.out⟩
theorem cnProof_any (xs:List (D3)) (P:D3→Bool) (f:FV) (A:Option Addr) (c:Nat) (w:World) (hr:RdL 3 D3.cs w w.heap.size A xs) (hx:xs.length≤9223372036854775807) (hf:FunB w f xs D3.v P) :
  Calls Tryz.prog 243 #[.slice A xs.length c,.func (.func f.n) f.bnd f.cap] w fun e w'=>e=.returned (.bool (xs.any P))∧Below w.heap.size w w':=by
 have HR:=hid hr
 have HF:=hid hf
 clear hr hf
 go_enter Tryz.func243,Tryz.ntmps243
 go_wp2_with fail
 refine (ixProof_any xs P f A c w HR.out hx HF.out).mono ?_
 rintro e w1 ⟨i,rfl,hi,hb⟩
 have HI:=hid hi
 have HB:=hid hb
 clear hi hb
 go_wp2_with fail
 go_ret
 exact ⟨by rw [← HI.out];rfl,HB.out⟩
theorem ebProof_any (x:D3) (q:Bool) (f:FV) (b:Nat) (w:World) (hc:w.cell? ⟨b,0,none⟩=some (.func (.func f.n) f.bnd f.cap)) (hl:b<w.heap.size) (he:∀ args w',(callFunc f.n args).run Tryz.prog w'=.ok (.enter f.n args) w')
  (hf:∀ w',Below w.heap.size w w'→Calls Tryz.prog f.n (f.bnd++#[D3.v x]++f.cap) w' fun e w''=>e=.returned (.bool q)∧Below w'.heap.size w' w'') :
  Calls Tryz.prog 244 #[D3.v x,.pointer (some ⟨b,0,none⟩)] w fun e w'=>e=.returned (.bool (!q))∧Below w.heap.size w w':=by
 have HF:=hid hf
 have HE:=hid he
 clear hf he
 go_enter Tryz.func244,Tryz.ntmps244
 go_wp2_with fail
 rw [HE.out,Oper.upon_enter]
 refine (HF.out _ (by repeat (first | with_reducible exact Below.refl _ _ | with_reducible assumption | with_reducible refine Below.drew ?_ | with_reducible refine Below.alloc ?_ (by first | omega | (simp;done) | (simp;omega)) _))).mono ?_
 rintro e w1 ⟨rfl,hb1⟩
 have hB:Below w.heap.size w w1:=Below.trans (by repeat (first | with_reducible exact Below.refl _ _ | with_reducible assumption | with_reducible refine Below.drew ?_ | with_reducible refine Below.alloc ?_ (by first | omega | (simp;done) | (simp;omega)) _)) (hb1.mono (by simp))
 have HB:=hid hB
 clear hB hb1
 go_wp2_with fail
 go_ret
 exact ⟨rfl,HB.out⟩
theorem eaProof_any (xs:List (D3)) (P:D3→Bool) (f:FV) (A:Option Addr) (c:Nat) (w:World) (hr:RdL 3 D3.cs w w.heap.size A xs) (hx:xs.length≤9223372036854775807) (hf:FunB w f xs D3.v P) :
  Calls Tryz.prog 187 #[.slice A xs.length c,.func (.func f.n) f.bnd f.cap] w fun e w'=>e=.returned (.bool (xs.all P))∧Below w.heap.size w w':=by
 have HR:=hid hr
 have HF:=hid hf
 have HA:=hid (all_not P xs)
 clear hr hf
 go_enter Tryz.func187,Tryz.ntmps187
 go_wp2_with fail
 refine (cnProof_any xs (fun x=>!P x) ⟨244,#[],#[.pointer (some ⟨w.heap.size,0,none⟩)]⟩ A c _ (HR.out.now (by repeat (first | with_reducible exact Below.refl _ _ | with_reducible assumption | with_reducible refine Below.drew ?_ | with_reducible refine Below.alloc ?_ (by first | omega | (simp;done) | (simp;omega)) _))) hx ⟨fun args w'=>enter_fn Tryz.func244 (by kernel_rfl) rfl args w',fun x hx w2 h2=>?_⟩).mono ?_
 ·refine ebProof_any x (P x) f w.heap.size w2 ((h2.cell (p:=⟨w.heap.size,0,none⟩) (by simp)).trans (by simp)) (by have:=h2.size;simp at this;omega) HF.out.ent (fun w3 h3=>HF.out.run x hx w3 ?_)
  exact Below.trans (Below.trans (by repeat (first | with_reducible exact Below.refl _ _ | with_reducible assumption | with_reducible refine Below.drew ?_ | with_reducible refine Below.alloc ?_ (by first | omega | (simp;done) | (simp;omega)) _)) (h2.mono (by simp))) (h3.mono (by have:=h2.size;simp at this;omega))
 ·rintro e w1 ⟨rfl,hb1⟩
  have hB:Below w.heap.size w w1:=Below.trans (by repeat (first | with_reducible exact Below.refl _ _ | with_reducible assumption | with_reducible refine Below.drew ?_ | with_reducible refine Below.alloc ?_ (by first | omega | (simp;done) | (simp;omega)) _)) (hb1.mono (by simp))
  have HB:=hid hB
  clear hB hb1
  go_wp2_with fail
  go_ret
  exact ⟨by rw [← HA.out];rfl,HB.out⟩
theorem ixNote_any (xs:List (E5)) (P:E5→Bool) (f:FV) (A:Option Addr) (c:Nat) (w:World) (hr:RdL 5 E5.cs w w.heap.size A xs) (hx:xs.length≤9223372036854775807) (hf:FunB w f xs E5.v P) :
  Calls Tryz.prog 279 #[.slice A xs.length c,.func (.func f.n) f.bnd f.cap] w fun e w'=>∃ i,e=.returned (.int .i64 i)∧decide (0≤i)=xs.any P∧Below w.heap.size w w':=by
 have HR:=hid hr
 have HF:=hid hf
 clear hr hf
 go_enter Tryz.func279,Tryz.ntmps279
 go_wp2_with fail
 go_loopw [5,8] (fun _ i wr=>∃ k:Nat,k≤xs.length∧i=.int .i64 k∧(xs.take k).any P=false∧Below w.heap.size w wr) (fun _ i _=>xs.length - (intOf i).toNat)
 case atStart=>exact ⟨0,Nat.zero_le _,rfl,rfl,Below.refl _ _⟩
 case round =>
  obtain ⟨k,hk,rfl,hfk,hbw⟩:=hrel
  have HFk:=hid hfk
  have HB:=hid hbw
  clear hfk
  by_cases hlt:k<xs.length
  ·obtain ⟨b,off,rfl,hb,c0,c1,c2,c3,c4⟩:=rdE5 (HR.out.now hbw) hlt
   have HC:=hid (HF.out.run xs[k] (List.getElem_mem hlt) wr hbw)
   have HE:=hid HF.out.ent
   have HT:=hid (any_take P xs k hlt HFk.out)
   have HH:=hid (any_hit P xs k hlt)
   clear hbw
   generalize xs[k]=x at *
   go_wp2_with fail
   rw [HE.out,Oper.upon_enter]
   refine HC.out.mono ?_
   rintro e w1 ⟨rfl,hb1⟩
   have HB1:=hid (HB.out.trans (hb1.mono HB.out.size))
   clear hb1 HC
   cases hp:P x with
   | true =>
    have HQ:=hid (HH.out hp)
    clear HH HT
    go_wp2_with fail
    go_ret
    exact ⟨k,rfl,by rw [HQ.out];simp,HB1.out⟩
   | false =>
    have HQ:=hid (HT.out.trans hp)
    clear HH HT
    go_wp2_with fail
    go_roundw
    case rel=>exact ⟨k+1,by omega,by go_num,HQ.out,HB1.out⟩
    case measure=>simp [intOf];omega
  ·obtain rfl:k=xs.length:=by omega
   have h:=HFk.out
   rw [List.take_length] at h
   have HQ:=hid h
   clear h
   go_wp2_with fail
   go_ret
   exact ⟨-1,rfl,by rw [HQ.out];rfl,HB.out⟩
theorem cnNote_any (xs:List (E5)) (P:E5→Bool) (f:FV) (A:Option Addr) (c:Nat) (w:World) (hr:RdL 5 E5.cs w w.heap.size A xs) (hx:xs.length≤9223372036854775807) (hf:FunB w f xs E5.v P) :
  Calls Tryz.prog 247 #[.slice A xs.length c,.func (.func f.n) f.bnd f.cap] w fun e w'=>e=.returned (.bool (xs.any P))∧Below w.heap.size w w':=by
 have HR:=hid hr
 have HF:=hid hf
 clear hr hf
 go_enter Tryz.func247,Tryz.ntmps247
 go_wp2_with fail
 refine (ixNote_any xs P f A c w HR.out hx HF.out).mono ?_
 rintro e w1 ⟨i,rfl,hi,hb⟩
 have HI:=hid hi
 have HB:=hid hb
 clear hi hb
 go_wp2_with fail
 go_ret
 exact ⟨by rw [← HI.out];rfl,HB.out⟩
theorem ebNote_any (x:E5) (q:Bool) (f:FV) (b:Nat) (w:World) (hc:w.cell? ⟨b,0,none⟩=some (.func (.func f.n) f.bnd f.cap)) (hl:b<w.heap.size) (he:∀ args w',(callFunc f.n args).run Tryz.prog w'=.ok (.enter f.n args) w')
  (hf:∀ w',Below w.heap.size w w'→Calls Tryz.prog f.n (f.bnd++#[E5.v x]++f.cap) w' fun e w''=>e=.returned (.bool q)∧Below w'.heap.size w' w'') :
  Calls Tryz.prog 248 #[E5.v x,.pointer (some ⟨b,0,none⟩)] w fun e w'=>e=.returned (.bool (!q))∧Below w.heap.size w w':=by
 have HF:=hid hf
 have HE:=hid he
 clear hf he
 go_enter Tryz.func248,Tryz.ntmps248
 go_wp2_with fail
 rw [HE.out,Oper.upon_enter]
 refine (HF.out _ (by repeat (first | with_reducible exact Below.refl _ _ | with_reducible assumption | with_reducible refine Below.drew ?_ | with_reducible refine Below.alloc ?_ (by first | omega | (simp;done) | (simp;omega)) _))).mono ?_
 rintro e w1 ⟨rfl,hb1⟩
 have hB:Below w.heap.size w w1:=Below.trans (by repeat (first | with_reducible exact Below.refl _ _ | with_reducible assumption | with_reducible refine Below.drew ?_ | with_reducible refine Below.alloc ?_ (by first | omega | (simp;done) | (simp;omega)) _)) (hb1.mono (by simp))
 have HB:=hid hB
 clear hB hb1
 go_wp2_with fail
 go_ret
 exact ⟨rfl,HB.out⟩
theorem eaNote_any (xs:List (E5)) (P:E5→Bool) (f:FV) (A:Option Addr) (c:Nat) (w:World) (hr:RdL 5 E5.cs w w.heap.size A xs) (hx:xs.length≤9223372036854775807) (hf:FunB w f xs E5.v P) :
  Calls Tryz.prog 191 #[.slice A xs.length c,.func (.func f.n) f.bnd f.cap] w fun e w'=>e=.returned (.bool (xs.all P))∧Below w.heap.size w w':=by
 have HR:=hid hr
 have HF:=hid hf
 have HA:=hid (all_not P xs)
 clear hr hf
 go_enter Tryz.func191,Tryz.ntmps191
 go_wp2_with fail
 refine (cnNote_any xs (fun x=>!P x) ⟨248,#[],#[.pointer (some ⟨w.heap.size,0,none⟩)]⟩ A c _ (HR.out.now (by repeat (first | with_reducible exact Below.refl _ _ | with_reducible assumption | with_reducible refine Below.drew ?_ | with_reducible refine Below.alloc ?_ (by first | omega | (simp;done) | (simp;omega)) _))) hx ⟨fun args w'=>enter_fn Tryz.func248 (by kernel_rfl) rfl args w',fun x hx w2 h2=>?_⟩).mono ?_
 ·refine ebNote_any x (P x) f w.heap.size w2 ((h2.cell (p:=⟨w.heap.size,0,none⟩) (by simp)).trans (by simp)) (by have:=h2.size;simp at this;omega) HF.out.ent (fun w3 h3=>HF.out.run x hx w3 ?_)
  exact Below.trans (Below.trans (by repeat (first | with_reducible exact Below.refl _ _ | with_reducible assumption | with_reducible refine Below.drew ?_ | with_reducible refine Below.alloc ?_ (by first | omega | (simp;done) | (simp;omega)) _)) (h2.mono (by simp))) (h3.mono (by have:=h2.size;simp at this;omega))
 ·rintro e w1 ⟨rfl,hb1⟩
  have hB:Below w.heap.size w w1:=Below.trans (by repeat (first | with_reducible exact Below.refl _ _ | with_reducible assumption | with_reducible refine Below.drew ?_ | with_reducible refine Below.alloc ?_ (by first | omega | (simp;done) | (simp;omega)) _)) (hb1.mono (by simp))
  have HB:=hid hB
  clear hB hb1
  go_wp2_with fail
  go_ret
  exact ⟨by rw [← HA.out];rfl,HB.out⟩
theorem ixOrder_any (xs:List (D4)) (P:D4→Bool) (f:FV) (A:Option Addr) (c:Nat) (w:World) (hr:RdL 4 D4.cs w w.heap.size A xs) (hx:xs.length≤9223372036854775807) (hf:FunB w f xs D4.v P) :
  Calls Tryz.prog 280 #[.slice A xs.length c,.func (.func f.n) f.bnd f.cap] w fun e w'=>∃ i,e=.returned (.int .i64 i)∧decide (0≤i)=xs.any P∧Below w.heap.size w w':=by
 have HR:=hid hr
 have HF:=hid hf
 clear hr hf
 go_enter Tryz.func280,Tryz.ntmps280
 go_wp2_with fail
 go_loopw [5,8] (fun _ i wr=>∃ k:Nat,k≤xs.length∧i=.int .i64 k∧(xs.take k).any P=false∧Below w.heap.size w wr) (fun _ i _=>xs.length - (intOf i).toNat)
 case atStart=>exact ⟨0,Nat.zero_le _,rfl,rfl,Below.refl _ _⟩
 case round =>
  obtain ⟨k,hk,rfl,hfk,hbw⟩:=hrel
  have HFk:=hid hfk
  have HB:=hid hbw
  clear hfk
  by_cases hlt:k<xs.length
  ·obtain ⟨b,off,rfl,hb,c0,c1,c2,c3⟩:=rdD4 (HR.out.now hbw) hlt
   have HC:=hid (HF.out.run xs[k] (List.getElem_mem hlt) wr hbw)
   have HE:=hid HF.out.ent
   have HT:=hid (any_take P xs k hlt HFk.out)
   have HH:=hid (any_hit P xs k hlt)
   clear hbw
   generalize xs[k]=x at *
   go_wp2_with fail
   rw [HE.out,Oper.upon_enter]
   refine HC.out.mono ?_
   rintro e w1 ⟨rfl,hb1⟩
   have HB1:=hid (HB.out.trans (hb1.mono HB.out.size))
   clear hb1 HC
   cases hp:P x with
   | true =>
    have HQ:=hid (HH.out hp)
    clear HH HT
    go_wp2_with fail
    go_ret
    exact ⟨k,rfl,by rw [HQ.out];simp,HB1.out⟩
   | false =>
    have HQ:=hid (HT.out.trans hp)
    clear HH HT
    go_wp2_with fail
    go_roundw
    case rel=>exact ⟨k+1,by omega,by go_num,HQ.out,HB1.out⟩
    case measure=>simp [intOf];omega
  ·obtain rfl:k=xs.length:=by omega
   have h:=HFk.out
   rw [List.take_length] at h
   have HQ:=hid h
   clear h
   go_wp2_with fail
   go_ret
   exact ⟨-1,rfl,by rw [HQ.out];rfl,HB.out⟩
theorem cnOrder_any (xs:List (D4)) (P:D4→Bool) (f:FV) (A:Option Addr) (c:Nat) (w:World) (hr:RdL 4 D4.cs w w.heap.size A xs) (hx:xs.length≤9223372036854775807) (hf:FunB w f xs D4.v P) :
  Calls Tryz.prog 250 #[.slice A xs.length c,.func (.func f.n) f.bnd f.cap] w fun e w'=>e=.returned (.bool (xs.any P))∧Below w.heap.size w w':=by
 have HR:=hid hr
 have HF:=hid hf
 clear hr hf
 go_enter Tryz.func250,Tryz.ntmps250
 go_wp2_with fail
 refine (ixOrder_any xs P f A c w HR.out hx HF.out).mono ?_
 rintro e w1 ⟨i,rfl,hi,hb⟩
 have HI:=hid hi
 have HB:=hid hb
 clear hi hb
 go_wp2_with fail
 go_ret
 exact ⟨by rw [← HI.out];rfl,HB.out⟩
theorem ebOrder_any (x:D4) (q:Bool) (f:FV) (b:Nat) (w:World) (hc:w.cell? ⟨b,0,none⟩=some (.func (.func f.n) f.bnd f.cap)) (hl:b<w.heap.size) (he:∀ args w',(callFunc f.n args).run Tryz.prog w'=.ok (.enter f.n args) w')
  (hf:∀ w',Below w.heap.size w w'→Calls Tryz.prog f.n (f.bnd++#[D4.v x]++f.cap) w' fun e w''=>e=.returned (.bool q)∧Below w'.heap.size w' w'') :
  Calls Tryz.prog 251 #[D4.v x,.pointer (some ⟨b,0,none⟩)] w fun e w'=>e=.returned (.bool (!q))∧Below w.heap.size w w':=by
 have HF:=hid hf
 have HE:=hid he
 clear hf he
 go_enter Tryz.func251,Tryz.ntmps251
 go_wp2_with fail
 rw [HE.out,Oper.upon_enter]
 refine (HF.out _ (by repeat (first | with_reducible exact Below.refl _ _ | with_reducible assumption | with_reducible refine Below.drew ?_ | with_reducible refine Below.alloc ?_ (by first | omega | (simp;done) | (simp;omega)) _))).mono ?_
 rintro e w1 ⟨rfl,hb1⟩
 have hB:Below w.heap.size w w1:=Below.trans (by repeat (first | with_reducible exact Below.refl _ _ | with_reducible assumption | with_reducible refine Below.drew ?_ | with_reducible refine Below.alloc ?_ (by first | omega | (simp;done) | (simp;omega)) _)) (hb1.mono (by simp))
 have HB:=hid hB
 clear hB hb1
 go_wp2_with fail
 go_ret
 exact ⟨rfl,HB.out⟩
theorem eaOrder_any (xs:List (D4)) (P:D4→Bool) (f:FV) (A:Option Addr) (c:Nat) (w:World) (hr:RdL 4 D4.cs w w.heap.size A xs) (hx:xs.length≤9223372036854775807) (hf:FunB w f xs D4.v P) :
  Calls Tryz.prog 196 #[.slice A xs.length c,.func (.func f.n) f.bnd f.cap] w fun e w'=>e=.returned (.bool (xs.all P))∧Below w.heap.size w w':=by
 have HR:=hid hr
 have HF:=hid hf
 have HA:=hid (all_not P xs)
 clear hr hf
 go_enter Tryz.func196,Tryz.ntmps196
 go_wp2_with fail
 refine (cnOrder_any xs (fun x=>!P x) ⟨251,#[],#[.pointer (some ⟨w.heap.size,0,none⟩)]⟩ A c _ (HR.out.now (by repeat (first | with_reducible exact Below.refl _ _ | with_reducible assumption | with_reducible refine Below.drew ?_ | with_reducible refine Below.alloc ?_ (by first | omega | (simp;done) | (simp;omega)) _))) hx ⟨fun args w'=>enter_fn Tryz.func251 (by kernel_rfl) rfl args w',fun x hx w2 h2=>?_⟩).mono ?_
 ·refine ebOrder_any x (P x) f w.heap.size w2 ((h2.cell (p:=⟨w.heap.size,0,none⟩) (by simp)).trans (by simp)) (by have:=h2.size;simp at this;omega) HF.out.ent (fun w3 h3=>HF.out.run x hx w3 ?_)
  exact Below.trans (Below.trans (by repeat (first | with_reducible exact Below.refl _ _ | with_reducible assumption | with_reducible refine Below.drew ?_ | with_reducible refine Below.alloc ?_ (by first | omega | (simp;done) | (simp;omega)) _)) (h2.mono (by simp))) (h3.mono (by have:=h2.size;simp at this;omega))
 ·rintro e w1 ⟨rfl,hb1⟩
  have hB:Below w.heap.size w w1:=Below.trans (by repeat (first | with_reducible exact Below.refl _ _ | with_reducible assumption | with_reducible refine Below.drew ?_ | with_reducible refine Below.alloc ?_ (by first | omega | (simp;done) | (simp;omega)) _)) (hb1.mono (by simp))
  have HB:=hid hB
  clear hB hb1
  go_wp2_with fail
  go_ret
  exact ⟨by rw [← HA.out];rfl,HB.out⟩
theorem ixSealed_any (xs:List (D3)) (P:D3→Bool) (f:FV) (A:Option Addr) (c:Nat) (w:World) (hr:RdL 3 D3.cs w w.heap.size A xs) (hx:xs.length≤9223372036854775807) (hf:FunB w f xs D3.v P) :
  Calls Tryz.prog 281 #[.slice A xs.length c,.func (.func f.n) f.bnd f.cap] w fun e w'=>∃ i,e=.returned (.int .i64 i)∧decide (0≤i)=xs.any P∧Below w.heap.size w w':=by
 have HR:=hid hr
 have HF:=hid hf
 clear hr hf
 go_enter Tryz.func281,Tryz.ntmps281
 go_wp2_with fail
 go_loopw [5,8] (fun _ i wr=>∃ k:Nat,k≤xs.length∧i=.int .i64 k∧(xs.take k).any P=false∧Below w.heap.size w wr) (fun _ i _=>xs.length - (intOf i).toNat)
 case atStart=>exact ⟨0,Nat.zero_le _,rfl,rfl,Below.refl _ _⟩
 case round =>
  obtain ⟨k,hk,rfl,hfk,hbw⟩:=hrel
  have HFk:=hid hfk
  have HB:=hid hbw
  clear hfk
  by_cases hlt:k<xs.length
  ·obtain ⟨b,off,rfl,hb,c0,c1,c2⟩:=rdD3 (HR.out.now hbw) hlt
   have HC:=hid (HF.out.run xs[k] (List.getElem_mem hlt) wr hbw)
   have HE:=hid HF.out.ent
   have HT:=hid (any_take P xs k hlt HFk.out)
   have HH:=hid (any_hit P xs k hlt)
   clear hbw
   generalize xs[k]=x at *
   go_wp2_with fail
   rw [HE.out,Oper.upon_enter]
   refine HC.out.mono ?_
   rintro e w1 ⟨rfl,hb1⟩
   have HB1:=hid (HB.out.trans (hb1.mono HB.out.size))
   clear hb1 HC
   cases hp:P x with
   | true =>
    have HQ:=hid (HH.out hp)
    clear HH HT
    go_wp2_with fail
    go_ret
    exact ⟨k,rfl,by rw [HQ.out];simp,HB1.out⟩
   | false =>
    have HQ:=hid (HT.out.trans hp)
    clear HH HT
    go_wp2_with fail
    go_roundw
    case rel=>exact ⟨k+1,by omega,by go_num,HQ.out,HB1.out⟩
    case measure=>simp [intOf];omega
  ·obtain rfl:k=xs.length:=by omega
   have h:=HFk.out
   rw [List.take_length] at h
   have HQ:=hid h
   clear h
   go_wp2_with fail
   go_ret
   exact ⟨-1,rfl,by rw [HQ.out];rfl,HB.out⟩
theorem cnSealed_any (xs:List (D3)) (P:D3→Bool) (f:FV) (A:Option Addr) (c:Nat) (w:World) (hr:RdL 3 D3.cs w w.heap.size A xs) (hx:xs.length≤9223372036854775807) (hf:FunB w f xs D3.v P) :
  Calls Tryz.prog 252 #[.slice A xs.length c,.func (.func f.n) f.bnd f.cap] w fun e w'=>e=.returned (.bool (xs.any P))∧Below w.heap.size w w':=by
 have HR:=hid hr
 have HF:=hid hf
 clear hr hf
 go_enter Tryz.func252,Tryz.ntmps252
 go_wp2_with fail
 refine (ixSealed_any xs P f A c w HR.out hx HF.out).mono ?_
 rintro e w1 ⟨i,rfl,hi,hb⟩
 have HI:=hid hi
 have HB:=hid hb
 clear hi hb
 go_wp2_with fail
 go_ret
 exact ⟨by rw [← HI.out];rfl,HB.out⟩
theorem ebSealed_any (x:D3) (q:Bool) (f:FV) (b:Nat) (w:World) (hc:w.cell? ⟨b,0,none⟩=some (.func (.func f.n) f.bnd f.cap)) (hl:b<w.heap.size) (he:∀ args w',(callFunc f.n args).run Tryz.prog w'=.ok (.enter f.n args) w')
  (hf:∀ w',Below w.heap.size w w'→Calls Tryz.prog f.n (f.bnd++#[D3.v x]++f.cap) w' fun e w''=>e=.returned (.bool q)∧Below w'.heap.size w' w'') :
  Calls Tryz.prog 253 #[D3.v x,.pointer (some ⟨b,0,none⟩)] w fun e w'=>e=.returned (.bool (!q))∧Below w.heap.size w w':=by
 have HF:=hid hf
 have HE:=hid he
 clear hf he
 go_enter Tryz.func253,Tryz.ntmps253
 go_wp2_with fail
 rw [HE.out,Oper.upon_enter]
 refine (HF.out _ (by repeat (first | with_reducible exact Below.refl _ _ | with_reducible assumption | with_reducible refine Below.drew ?_ | with_reducible refine Below.alloc ?_ (by first | omega | (simp;done) | (simp;omega)) _))).mono ?_
 rintro e w1 ⟨rfl,hb1⟩
 have hB:Below w.heap.size w w1:=Below.trans (by repeat (first | with_reducible exact Below.refl _ _ | with_reducible assumption | with_reducible refine Below.drew ?_ | with_reducible refine Below.alloc ?_ (by first | omega | (simp;done) | (simp;omega)) _)) (hb1.mono (by simp))
 have HB:=hid hB
 clear hB hb1
 go_wp2_with fail
 go_ret
 exact ⟨rfl,HB.out⟩
theorem eaSealed_any (xs:List (D3)) (P:D3→Bool) (f:FV) (A:Option Addr) (c:Nat) (w:World) (hr:RdL 3 D3.cs w w.heap.size A xs) (hx:xs.length≤9223372036854775807) (hf:FunB w f xs D3.v P) :
  Calls Tryz.prog 198 #[.slice A xs.length c,.func (.func f.n) f.bnd f.cap] w fun e w'=>e=.returned (.bool (xs.all P))∧Below w.heap.size w w':=by
 have HR:=hid hr
 have HF:=hid hf
 have HA:=hid (all_not P xs)
 clear hr hf
 go_enter Tryz.func198,Tryz.ntmps198
 go_wp2_with fail
 refine (cnSealed_any xs (fun x=>!P x) ⟨253,#[],#[.pointer (some ⟨w.heap.size,0,none⟩)]⟩ A c _ (HR.out.now (by repeat (first | with_reducible exact Below.refl _ _ | with_reducible assumption | with_reducible refine Below.drew ?_ | with_reducible refine Below.alloc ?_ (by first | omega | (simp;done) | (simp;omega)) _))) hx ⟨fun args w'=>enter_fn Tryz.func253 (by kernel_rfl) rfl args w',fun x hx w2 h2=>?_⟩).mono ?_
 ·refine ebSealed_any x (P x) f w.heap.size w2 ((h2.cell (p:=⟨w.heap.size,0,none⟩) (by simp)).trans (by simp)) (by have:=h2.size;simp at this;omega) HF.out.ent (fun w3 h3=>HF.out.run x hx w3 ?_)
  exact Below.trans (Below.trans (by repeat (first | with_reducible exact Below.refl _ _ | with_reducible assumption | with_reducible refine Below.drew ?_ | with_reducible refine Below.alloc ?_ (by first | omega | (simp;done) | (simp;omega)) _)) (h2.mono (by simp))) (h3.mono (by have:=h2.size;simp at this;omega))
 ·rintro e w1 ⟨rfl,hb1⟩
  have hB:Below w.heap.size w w1:=Below.trans (by repeat (first | with_reducible exact Below.refl _ _ | with_reducible assumption | with_reducible refine Below.drew ?_ | with_reducible refine Below.alloc ?_ (by first | omega | (simp;done) | (simp;omega)) _)) (hb1.mono (by simp))
  have HB:=hid hB
  clear hB hb1
  go_wp2_with fail
  go_ret
  exact ⟨by rw [← HA.out];rfl,HB.out⟩
theorem ixHold_any (xs:List (D4)) (P:D4→Bool) (f:FV) (A:Option Addr) (c:Nat) (w:World) (hr:RdL 4 D4.cs w w.heap.size A xs) (hx:xs.length≤9223372036854775807) (hf:FunB w f xs D4.v P) :
  Calls Tryz.prog 249 #[.slice A xs.length c,.func (.func f.n) f.bnd f.cap] w fun e w'=>∃ i,e=.returned (.int .i64 i)∧decide (0≤i)=xs.any P∧Below w.heap.size w w':=by
 have HR:=hid hr
 have HF:=hid hf
 clear hr hf
 go_enter Tryz.func249,Tryz.ntmps249
 go_wp2_with fail
 go_loopw [5,8] (fun _ i wr=>∃ k:Nat,k≤xs.length∧i=.int .i64 k∧(xs.take k).any P=false∧Below w.heap.size w wr) (fun _ i _=>xs.length - (intOf i).toNat)
 case atStart=>exact ⟨0,Nat.zero_le _,rfl,rfl,Below.refl _ _⟩
 case round =>
  obtain ⟨k,hk,rfl,hfk,hbw⟩:=hrel
  have HFk:=hid hfk
  have HB:=hid hbw
  clear hfk
  by_cases hlt:k<xs.length
  ·obtain ⟨b,off,rfl,hb,c0,c1,c2,c3⟩:=rdD4 (HR.out.now hbw) hlt
   have HC:=hid (HF.out.run xs[k] (List.getElem_mem hlt) wr hbw)
   have HE:=hid HF.out.ent
   have HT:=hid (any_take P xs k hlt HFk.out)
   have HH:=hid (any_hit P xs k hlt)
   clear hbw
   generalize xs[k]=x at *
   go_wp2_with fail
   rw [HE.out,Oper.upon_enter]
   refine HC.out.mono ?_
   rintro e w1 ⟨rfl,hb1⟩
   have HB1:=hid (HB.out.trans (hb1.mono HB.out.size))
   clear hb1 HC
   cases hp:P x with
   | true =>
    have HQ:=hid (HH.out hp)
    clear HH HT
    go_wp2_with fail
    go_ret
    exact ⟨k,rfl,by rw [HQ.out];simp,HB1.out⟩
   | false =>
    have HQ:=hid (HT.out.trans hp)
    clear HH HT
    go_wp2_with fail
    go_roundw
    case rel=>exact ⟨k+1,by omega,by go_num,HQ.out,HB1.out⟩
    case measure=>simp [intOf];omega
  ·obtain rfl:k=xs.length:=by omega
   have h:=HFk.out
   rw [List.take_length] at h
   have HQ:=hid h
   clear h
   go_wp2_with fail
   go_ret
   exact ⟨-1,rfl,by rw [HQ.out];rfl,HB.out⟩
theorem cnHold_any (xs:List (D4)) (P:D4→Bool) (f:FV) (A:Option Addr) (c:Nat) (w:World) (hr:RdL 4 D4.cs w w.heap.size A xs) (hx:xs.length≤9223372036854775807) (hf:FunB w f xs D4.v P) :
  Calls Tryz.prog 195 #[.slice A xs.length c,.func (.func f.n) f.bnd f.cap] w fun e w'=>e=.returned (.bool (xs.any P))∧Below w.heap.size w w':=by
 have HR:=hid hr
 have HF:=hid hf
 clear hr hf
 go_enter Tryz.func195,Tryz.ntmps195
 go_wp2_with fail
 refine (ixHold_any xs P f A c w HR.out hx HF.out).mono ?_
 rintro e w1 ⟨i,rfl,hi,hb⟩
 have HI:=hid hi
 have HB:=hid hb
 clear hi hb
 go_wp2_with fail
 go_ret
 exact ⟨by rw [← HI.out];rfl,HB.out⟩
/- Small functions and closures of package state (written by genstc.py). -/
def toB (n lo hi:Int):Bool:=decide (lo≤n) && decide (n≤hi)
theorem stTo_any (n lo hi:Int) (w:World):Calls Tryz.prog 74 #[.int .i64 n,.int .i64 lo,.int .i64 hi] w fun e w'=>e=.returned (.bool (toB n lo hi))∧w=w':=by
 unfold toB
 go_enter Tryz.func74,Tryz.ntmps74
 cases h1:decide (lo≤n) with
 | false =>
  go_wp2_with fail
  go_ret
  exact ⟨rfl,rfl⟩
 | true =>
  go_wp2_with fail
  go_ret
  exact ⟨rfl,rfl⟩
theorem stStep_any (n:Int) (w:World):Calls Tryz.prog 75 #[.int .i64 n] w fun e w'=>e=.returned (.bool (toB n 0 1073741824))∧w=w':=by
 go_enter Tryz.func75,Tryz.ntmps75
 go_wp2_with fail
 refine (stTo_any n 0 1073741824 w).mono ?_
 rintro e w1 ⟨rfl,hw⟩
 obtain rfl:=hw
 go_wp2_with fail
 go_ret
 exact ⟨rfl,rfl⟩
theorem stNet_any (n:Int) (w:World):Calls Tryz.prog 175 #[.int .i64 n] w fun e w'=>e=.returned (.bool (toB n 0 11))∧w=w':=by
 go_enter Tryz.func175,Tryz.ntmps175
 go_wp2_with fail
 refine (stTo_any n 0 11 w).mono ?_
 rintro e w1 ⟨rfl,hw⟩
 obtain rfl:=hw
 go_wp2_with fail
 go_ret
 exact ⟨rfl,rfl⟩
theorem hoStep_any (n:Int) (w:World):Calls Tryz.prog 194 #[.int .i64 n] w fun e w'=>e=.returned (.bool (toB n 0 1073741824))∧w=w':=by
 unfold toB
 go_enter Tryz.func194,Tryz.ntmps194
 cases h1:decide (0≤n) with
 | false =>
  go_wp2_with fail
  go_ret
  exact ⟨rfl,rfl⟩
 | true =>
  go_wp2_with fail
  go_ret
  exact ⟨rfl,rfl⟩
def bitI (b:Bool):Int:=if b=true then 1 else 0
theorem stBit_any (b:Bool) (w:World):Calls Tryz.prog 111 #[.bool b] w fun e w'=>e=.returned (.int .i64 (bitI b))∧w=w':=by
 go_enter Tryz.func111,Tryz.ntmps111
 cases b with
 | false =>
  go_wp2_with fail
  go_ret
  exact ⟨rfl,rfl⟩
 | true =>
  go_wp2_with fail
  go_ret
  exact ⟨rfl,rfl⟩
def befB (x y:D2):Bool:=decide (x.a<y.a) || (x.a==y.a && decide (x.b<y.b))
theorem stBefore_any (x y:D2) (w:World):Calls Tryz.prog 200 #[x.v,y.v] w fun e w'=>e=.returned (.bool (befB x y))∧Below w.heap.size w w':=by
 have HG:=hid (show befB x y=(decide (x.a<y.a) || (x.a==y.a && decide (x.b<y.b))) from rfl)
 go_enter Tryz.func200,Tryz.ntmps200
 cases h1:decide (x.a<y.a) with
 | true =>
  rw [h1] at HG
  go_wp2_with fail
  go_ret
  exact ⟨by rw [HG.out];rfl,by repeat (first | with_reducible exact Below.refl _ _ | with_reducible assumption | with_reducible refine Below.drew ?_ | with_reducible refine Below.alloc ?_ (by first | omega | (simp;done) | (simp;omega)) _)⟩
 | false =>
  rw [h1] at HG
  cases h2:(x.a==y.a) with
  | false =>
   rw [h2] at HG
   go_wp2_with fail
   go_ret
   exact ⟨by rw [HG.out];rfl,by repeat (first | with_reducible exact Below.refl _ _ | with_reducible assumption | with_reducible refine Below.drew ?_ | with_reducible refine Below.alloc ?_ (by first | omega | (simp;done) | (simp;omega)) _)⟩
  | true =>
   rw [h2] at HG
   go_wp2_with fail
   go_ret
   exact ⟨by rw [HG.out];rfl,by repeat (first | with_reducible exact Below.refl _ _ | with_reducible assumption | with_reducible refine Below.drew ?_ | with_reducible refine Below.alloc ?_ (by first | omega | (simp;done) | (simp;omega)) _)⟩
structure FunI (w:World) (f:FV) (P:Int→Bool):Prop where
 ent:∀ args w',(callFunc f.n args).run Tryz.prog w'=.ok (.enter f.n args) w'
 run:∀ (n:Int) (w':World),Below w.heap.size w w'→Calls Tryz.prog f.n (f.bnd++#[.int .i64 n]++f.cap) w' fun e w''=>e=.returned (.bool (P n))∧Below w'.heap.size w' w''
theorem FunI.now {w w':World} {f:FV} {P:Int→Bool} (h:FunI w f P) (hb:Below w.heap.size w w'):FunI w' f P:=⟨h.ent,fun n w2 h2=>h.run n w2 (hb.trans (h2.mono hb.size))⟩
def okc1 (P:Int→Bool) (x:D4):Bool:=P x.a && (toB x.b 0 11 && (toB x.c 1 1099511627776 && (toB x.d 0 1073741824)))
theorem cloc1_any (P:Int→Bool) (x:D4) (f:FV) (b:Nat) (w:World) (hc:w.cell? ⟨b,0,none⟩=some (.func (.func f.n) f.bnd f.cap)) (hl:b<w.heap.size) (hi:FunI w f P) :
  Calls Tryz.prog 174 #[x.v,.pointer (some ⟨b,0,none⟩)] w fun e w'=>e=.returned (.bool (okc1 P x))∧Below w.heap.size w w':=by
 have HG:Hid (okc1 P x=(P x.a && (toB x.b 0 11 && (toB x.c 1 1099511627776 && (toB x.d 0 1073741824))))):=hid rfl
 have hb0:Below w.heap.size w (w.alloc (.cells #[.int .i64 x.a,.int .i64 x.b,.int .i64 x.c,.int .i64 x.d] 61)):=by repeat (first | with_reducible exact Below.refl _ _ | with_reducible assumption | with_reducible refine Below.drew ?_ | with_reducible refine Below.alloc ?_ (by first | omega | (simp;done) | (simp;omega)) _)
 have HB0:=hid hb0
 have HB:=hid (Below.refl (w.alloc (.cells #[.int .i64 x.a,.int .i64 x.b,.int .i64 x.c,.int .i64 x.d] 61)).heap.size (w.alloc (.cells #[.int .i64 x.a,.int .i64 x.b,.int .i64 x.c,.int .i64 x.d] 61)))
 have HI:=hid (hi.now hb0)
 have HE:=hid hi.ent
 clear hi
 clear hb0
 go_enter Tryz.func174,Tryz.ntmps174
 go_wp2_with fail
 rw [HE.out,Oper.upon_enter]
 refine (HI.out.run _ _ HB.out).mono ?_
 rintro e w1 ⟨rfl,hb1⟩
 have HBn:=hid (HB.out.trans (hb1.mono HB.out.size))
 clear hb1 HB
 have HB:=HBn
 clear HBn
 have z0:w1.cell? ⟨w.heap.size,0,none⟩=some (.int .i64 x.a):=(HB.out.cell (p:=⟨w.heap.size,0,none⟩) (by simp)).trans (by simp)
 have z1:w1.cell? ⟨w.heap.size,1,none⟩=some (.int .i64 x.b):=(HB.out.cell (p:=⟨w.heap.size,1,none⟩) (by simp)).trans (by simp)
 have z2:w1.cell? ⟨w.heap.size,2,none⟩=some (.int .i64 x.c):=(HB.out.cell (p:=⟨w.heap.size,2,none⟩) (by simp)).trans (by simp)
 have z3:w1.cell? ⟨w.heap.size,3,none⟩=some (.int .i64 x.d):=(HB.out.cell (p:=⟨w.heap.size,3,none⟩) (by simp)).trans (by simp)
 have zl:w.heap.size<w1.heap.size:=by have:=HB.out.size;simp at this;omega
 cases hq0:P x.a with
 | false =>
  rw [hq0] at HG
  clear hq0
  go_wp2_with fail
  go_ret
  exact ⟨by rw [HG.out];rfl,Below.trans HB0.out (HB.out.mono HB0.out.size)⟩
 | true =>
  rw [hq0] at HG
  clear hq0
  go_wp2_with fail
  refine (stNet_any x.b _).mono ?_
  rintro e wq ⟨rfl,hw⟩
  obtain rfl:=hw
  cases hq1:toB x.b 0 11 with
  | false =>
   rw [hq1] at HG
   clear hq1
   go_wp2_with fail
   go_ret
   exact ⟨by rw [HG.out];rfl,Below.trans HB0.out (HB.out.mono HB0.out.size)⟩
  | true =>
   rw [hq1] at HG
   clear hq1
   go_wp2_with fail
   refine (stTo_any x.c 1 1099511627776 _).mono ?_
   rintro e wq ⟨rfl,hw⟩
   obtain rfl:=hw
   cases hq2:toB x.c 1 1099511627776 with
   | false =>
    rw [hq2] at HG
    clear hq2
    go_wp2_with fail
    go_ret
    exact ⟨by rw [HG.out];rfl,Below.trans HB0.out (HB.out.mono HB0.out.size)⟩
   | true =>
    rw [hq2] at HG
    clear hq2
    go_wp2_with fail
    refine (stStep_any x.d _).mono ?_
    rintro e wq ⟨rfl,hw⟩
    obtain rfl:=hw
    go_wp2_with fail
    go_ret
    exact ⟨by rw [HG.out];rfl,Below.trans HB0.out (HB.out.mono HB0.out.size)⟩
def okc2 (P:Int→Bool) (x:D3):Bool:=P x.a && (toB x.b 0 11 && (toB x.c 0 1073741824))
theorem cloc2_any (P:Int→Bool) (x:D3) (f:FV) (b:Nat) (w:World) (hc:w.cell? ⟨b,0,none⟩=some (.func (.func f.n) f.bnd f.cap)) (hl:b<w.heap.size) (hi:FunI w f P) :
  Calls Tryz.prog 177 #[x.v,.pointer (some ⟨b,0,none⟩)] w fun e w'=>e=.returned (.bool (okc2 P x))∧Below w.heap.size w w':=by
 have HG:Hid (okc2 P x=(P x.a && (toB x.b 0 11 && (toB x.c 0 1073741824)))):=hid rfl
 have hb0:Below w.heap.size w (w.alloc (.cells #[.int .i64 x.a,.int .i64 x.b,.int .i64 x.c] 46)):=by repeat (first | with_reducible exact Below.refl _ _ | with_reducible assumption | with_reducible refine Below.drew ?_ | with_reducible refine Below.alloc ?_ (by first | omega | (simp;done) | (simp;omega)) _)
 have HB0:=hid hb0
 have HB:=hid (Below.refl (w.alloc (.cells #[.int .i64 x.a,.int .i64 x.b,.int .i64 x.c] 46)).heap.size (w.alloc (.cells #[.int .i64 x.a,.int .i64 x.b,.int .i64 x.c] 46)))
 have HI:=hid (hi.now hb0)
 have HE:=hid hi.ent
 clear hi
 clear hb0
 go_enter Tryz.func177,Tryz.ntmps177
 go_wp2_with fail
 rw [HE.out,Oper.upon_enter]
 refine (HI.out.run _ _ HB.out).mono ?_
 rintro e w1 ⟨rfl,hb1⟩
 have HBn:=hid (HB.out.trans (hb1.mono HB.out.size))
 clear hb1 HB
 have HB:=HBn
 clear HBn
 have z0:w1.cell? ⟨w.heap.size,0,none⟩=some (.int .i64 x.a):=(HB.out.cell (p:=⟨w.heap.size,0,none⟩) (by simp)).trans (by simp)
 have z1:w1.cell? ⟨w.heap.size,1,none⟩=some (.int .i64 x.b):=(HB.out.cell (p:=⟨w.heap.size,1,none⟩) (by simp)).trans (by simp)
 have z2:w1.cell? ⟨w.heap.size,2,none⟩=some (.int .i64 x.c):=(HB.out.cell (p:=⟨w.heap.size,2,none⟩) (by simp)).trans (by simp)
 have zl:w.heap.size<w1.heap.size:=by have:=HB.out.size;simp at this;omega
 cases hq0:P x.a with
 | false =>
  rw [hq0] at HG
  clear hq0
  go_wp2_with fail
  go_ret
  exact ⟨by rw [HG.out];rfl,Below.trans HB0.out (HB.out.mono HB0.out.size)⟩
 | true =>
  rw [hq0] at HG
  clear hq0
  go_wp2_with fail
  refine (stNet_any x.b _).mono ?_
  rintro e wq ⟨rfl,hw⟩
  obtain rfl:=hw
  cases hq1:toB x.b 0 11 with
  | false =>
   rw [hq1] at HG
   clear hq1
   go_wp2_with fail
   go_ret
   exact ⟨by rw [HG.out];rfl,Below.trans HB0.out (HB.out.mono HB0.out.size)⟩
  | true =>
   rw [hq1] at HG
   clear hq1
   go_wp2_with fail
   refine (stStep_any x.c _).mono ?_
   rintro e wq ⟨rfl,hw⟩
   obtain rfl:=hw
   go_wp2_with fail
   go_ret
   exact ⟨by rw [HG.out];rfl,Below.trans HB0.out (HB.out.mono HB0.out.size)⟩
def okc3 (P:Int→Bool) (x:D2):Bool:=P x.a && (toB x.b 0 11)
theorem cloc3_any (P:Int→Bool) (x:D2) (f:FV) (b:Nat) (w:World) (hc:w.cell? ⟨b,0,none⟩=some (.func (.func f.n) f.bnd f.cap)) (hl:b<w.heap.size) (hi:FunI w f P) :
  Calls Tryz.prog 179 #[x.v,.pointer (some ⟨b,0,none⟩)] w fun e w'=>e=.returned (.bool (okc3 P x))∧Below w.heap.size w w':=by
 have HG:Hid (okc3 P x=(P x.a && (toB x.b 0 11))):=hid rfl
 have hb0:Below w.heap.size w (w.alloc (.cells #[.int .i64 x.a,.int .i64 x.b] 48)):=by repeat (first | with_reducible exact Below.refl _ _ | with_reducible assumption | with_reducible refine Below.drew ?_ | with_reducible refine Below.alloc ?_ (by first | omega | (simp;done) | (simp;omega)) _)
 have HB0:=hid hb0
 have HB:=hid (Below.refl (w.alloc (.cells #[.int .i64 x.a,.int .i64 x.b] 48)).heap.size (w.alloc (.cells #[.int .i64 x.a,.int .i64 x.b] 48)))
 have HI:=hid (hi.now hb0)
 have HE:=hid hi.ent
 clear hi
 clear hb0
 go_enter Tryz.func179,Tryz.ntmps179
 go_wp2_with fail
 rw [HE.out,Oper.upon_enter]
 refine (HI.out.run _ _ HB.out).mono ?_
 rintro e w1 ⟨rfl,hb1⟩
 have HBn:=hid (HB.out.trans (hb1.mono HB.out.size))
 clear hb1 HB
 have HB:=HBn
 clear HBn
 have z0:w1.cell? ⟨w.heap.size,0,none⟩=some (.int .i64 x.a):=(HB.out.cell (p:=⟨w.heap.size,0,none⟩) (by simp)).trans (by simp)
 have z1:w1.cell? ⟨w.heap.size,1,none⟩=some (.int .i64 x.b):=(HB.out.cell (p:=⟨w.heap.size,1,none⟩) (by simp)).trans (by simp)
 have zl:w.heap.size<w1.heap.size:=by have:=HB.out.size;simp at this;omega
 cases hq0:P x.a with
 | false =>
  rw [hq0] at HG
  clear hq0
  go_wp2_with fail
  go_ret
  exact ⟨by rw [HG.out];rfl,Below.trans HB0.out (HB.out.mono HB0.out.size)⟩
 | true =>
  rw [hq0] at HG
  clear hq0
  go_wp2_with fail
  refine (stNet_any x.b _).mono ?_
  rintro e wq ⟨rfl,hw⟩
  obtain rfl:=hw
  go_wp2_with fail
  go_ret
  exact ⟨by rw [HG.out];rfl,Below.trans HB0.out (HB.out.mono HB0.out.size)⟩
def okn1 (x:D3):Bool:=toB x.a 0 4 && (toB x.b 0 199 && (toB x.c 0 199))
theorem clon1_any (x:D3) (w:World) :
  Calls Tryz.prog 188 #[x.v] w fun e w'=>e=.returned (.bool (okn1 x))∧Below w.heap.size w w':=by
 have HG:Hid (okn1 x=(toB x.a 0 4 && (toB x.b 0 199 && (toB x.c 0 199)))):=hid rfl
 have hb0:Below w.heap.size w (w.alloc (.cells #[.int .i64 x.a,.int .i64 x.b,.int .i64 x.c] 92)):=by repeat (first | with_reducible exact Below.refl _ _ | with_reducible assumption | with_reducible refine Below.drew ?_ | with_reducible refine Below.alloc ?_ (by first | omega | (simp;done) | (simp;omega)) _)
 have HB0:=hid hb0
 have HB:=hid (Below.refl (w.alloc (.cells #[.int .i64 x.a,.int .i64 x.b,.int .i64 x.c] 92)).heap.size (w.alloc (.cells #[.int .i64 x.a,.int .i64 x.b,.int .i64 x.c] 92)))
 clear hb0
 go_enter Tryz.func188,Tryz.ntmps188
 go_wp2_with fail
 refine (stTo_any x.a 0 4 _).mono ?_
 rintro e wq ⟨rfl,hw⟩
 obtain rfl:=hw
 cases hq0:toB x.a 0 4 with
 | false =>
  rw [hq0] at HG
  clear hq0
  go_wp2_with fail
  go_ret
  exact ⟨by rw [HG.out];rfl,Below.trans HB0.out (HB.out.mono HB0.out.size)⟩
 | true =>
  rw [hq0] at HG
  clear hq0
  go_wp2_with fail
  refine (stTo_any x.b 0 199 _).mono ?_
  rintro e wq ⟨rfl,hw⟩
  obtain rfl:=hw
  cases hq1:toB x.b 0 199 with
  | false =>
   rw [hq1] at HG
   clear hq1
   go_wp2_with fail
   go_ret
   exact ⟨by rw [HG.out];rfl,Below.trans HB0.out (HB.out.mono HB0.out.size)⟩
  | true =>
   rw [hq1] at HG
   clear hq1
   go_wp2_with fail
   refine (stTo_any x.c 0 199 _).mono ?_
   rintro e wq ⟨rfl,hw⟩
   obtain rfl:=hw
   go_wp2_with fail
   go_ret
   exact ⟨by rw [HG.out];rfl,Below.trans HB0.out (HB.out.mono HB0.out.size)⟩
def okn3 (P:Int→Bool) (x:E5):Bool:=P x.a && (toB x.b 0 1999 && (toB x.c 1 4 && (toB x.d 0 1073741824)))
theorem clon3_any (P:Int→Bool) (x:E5) (f:FV) (b:Nat) (w:World) (hc:w.cell? ⟨b,0,none⟩=some (.func (.func f.n) f.bnd f.cap)) (hl:b<w.heap.size) (hi:FunI w f P) :
  Calls Tryz.prog 192 #[x.v,.pointer (some ⟨b,0,none⟩)] w fun e w'=>e=.returned (.bool (okn3 P x))∧Below w.heap.size w w':=by
 have HG:Hid (okn3 P x=(P x.a && (toB x.b 0 1999 && (toB x.c 1 4 && (toB x.d 0 1073741824))))):=hid rfl
 have hb0:Below w.heap.size w (w.alloc (.cells #[.int .i64 x.a,.int .i64 x.b,.int .i64 x.c,.int .i64 x.d,.bool x.t] 59)):=by repeat (first | with_reducible exact Below.refl _ _ | with_reducible assumption | with_reducible refine Below.drew ?_ | with_reducible refine Below.alloc ?_ (by first | omega | (simp;done) | (simp;omega)) _)
 have HB0:=hid hb0
 have HB:=hid (Below.refl (w.alloc (.cells #[.int .i64 x.a,.int .i64 x.b,.int .i64 x.c,.int .i64 x.d,.bool x.t] 59)).heap.size (w.alloc (.cells #[.int .i64 x.a,.int .i64 x.b,.int .i64 x.c,.int .i64 x.d,.bool x.t] 59)))
 have HI:=hid (hi.now hb0)
 have HE:=hid hi.ent
 clear hi
 clear hb0
 go_enter Tryz.func192,Tryz.ntmps192
 go_wp2_with fail
 rw [HE.out,Oper.upon_enter]
 refine (HI.out.run _ _ HB.out).mono ?_
 rintro e w1 ⟨rfl,hb1⟩
 have HBn:=hid (HB.out.trans (hb1.mono HB.out.size))
 clear hb1 HB
 have HB:=HBn
 clear HBn
 have z0:w1.cell? ⟨w.heap.size,0,none⟩=some (.int .i64 x.a):=(HB.out.cell (p:=⟨w.heap.size,0,none⟩) (by simp)).trans (by simp)
 have z1:w1.cell? ⟨w.heap.size,1,none⟩=some (.int .i64 x.b):=(HB.out.cell (p:=⟨w.heap.size,1,none⟩) (by simp)).trans (by simp)
 have z2:w1.cell? ⟨w.heap.size,2,none⟩=some (.int .i64 x.c):=(HB.out.cell (p:=⟨w.heap.size,2,none⟩) (by simp)).trans (by simp)
 have z3:w1.cell? ⟨w.heap.size,3,none⟩=some (.int .i64 x.d):=(HB.out.cell (p:=⟨w.heap.size,3,none⟩) (by simp)).trans (by simp)
 have z4:w1.cell? ⟨w.heap.size,4,none⟩=some (.bool x.t):=(HB.out.cell (p:=⟨w.heap.size,4,none⟩) (by simp)).trans (by simp)
 have zl:w.heap.size<w1.heap.size:=by have:=HB.out.size;simp at this;omega
 cases hq0:P x.a with
 | false =>
  rw [hq0] at HG
  clear hq0
  go_wp2_with fail
  go_ret
  exact ⟨by rw [HG.out];rfl,Below.trans HB0.out (HB.out.mono HB0.out.size)⟩
 | true =>
  rw [hq0] at HG
  clear hq0
  go_wp2_with fail
  refine (stTo_any x.b 0 1999 _).mono ?_
  rintro e wq ⟨rfl,hw⟩
  obtain rfl:=hw
  cases hq1:toB x.b 0 1999 with
  | false =>
   rw [hq1] at HG
   clear hq1
   go_wp2_with fail
   go_ret
   exact ⟨by rw [HG.out];rfl,Below.trans HB0.out (HB.out.mono HB0.out.size)⟩
  | true =>
   rw [hq1] at HG
   clear hq1
   go_wp2_with fail
   refine (stTo_any x.c 1 4 _).mono ?_
   rintro e wq ⟨rfl,hw⟩
   obtain rfl:=hw
   cases hq2:toB x.c 1 4 with
   | false =>
    rw [hq2] at HG
    clear hq2
    go_wp2_with fail
    go_ret
    exact ⟨by rw [HG.out];rfl,Below.trans HB0.out (HB.out.mono HB0.out.size)⟩
   | true =>
    rw [hq2] at HG
    clear hq2
    go_wp2_with fail
    refine (stStep_any x.d _).mono ?_
    rintro e wq ⟨rfl,hw⟩
    obtain rfl:=hw
    go_wp2_with fail
    go_ret
    exact ⟨by rw [HG.out];rfl,Below.trans HB0.out (HB.out.mono HB0.out.size)⟩
def oka1 (P:Int→Bool) (x:D4):Bool:=toB x.a 0 3 && (P x.b && (toB x.c 0 1999 && (toB x.d 0 1073741824)))
theorem cloa1_any (P:Int→Bool) (x:D4) (f:FV) (b:Nat) (w:World) (hc:w.cell? ⟨b,0,none⟩=some (.func (.func f.n) f.bnd f.cap)) (hl:b<w.heap.size) (hi:FunI w f P) :
  Calls Tryz.prog 197 #[x.v,.pointer (some ⟨b,0,none⟩)] w fun e w'=>e=.returned (.bool (oka1 P x))∧Below w.heap.size w w':=by
 have HG:Hid (oka1 P x=(toB x.a 0 3 && (P x.b && (toB x.c 0 1999 && (toB x.d 0 1073741824))))):=hid rfl
 have hb0:Below w.heap.size w (w.alloc (.cells #[.int .i64 x.a,.int .i64 x.b,.int .i64 x.c,.int .i64 x.d] 50)):=by repeat (first | with_reducible exact Below.refl _ _ | with_reducible assumption | with_reducible refine Below.drew ?_ | with_reducible refine Below.alloc ?_ (by first | omega | (simp;done) | (simp;omega)) _)
 have HB0:=hid hb0
 have HB:=hid (Below.refl (w.alloc (.cells #[.int .i64 x.a,.int .i64 x.b,.int .i64 x.c,.int .i64 x.d] 50)).heap.size (w.alloc (.cells #[.int .i64 x.a,.int .i64 x.b,.int .i64 x.c,.int .i64 x.d] 50)))
 have HI:=hid (hi.now hb0)
 have HE:=hid hi.ent
 clear hi
 clear hb0
 go_enter Tryz.func197,Tryz.ntmps197
 go_wp2_with fail
 refine (stTo_any x.a 0 3 _).mono ?_
 rintro e wq ⟨rfl,hw⟩
 obtain rfl:=hw
 cases hq0:toB x.a 0 3 with
 | false =>
  rw [hq0] at HG
  clear hq0
  go_wp2_with fail
  go_ret
  exact ⟨by rw [HG.out];rfl,Below.trans HB0.out (HB.out.mono HB0.out.size)⟩
 | true =>
  rw [hq0] at HG
  clear hq0
  go_wp2_with fail
  rw [HE.out,Oper.upon_enter]
  refine (HI.out.run _ _ HB.out).mono ?_
  rintro e w1 ⟨rfl,hb1⟩
  have HBn:=hid (HB.out.trans (hb1.mono HB.out.size))
  clear hb1 HB
  have HB:=HBn
  clear HBn
  have z0:w1.cell? ⟨w.heap.size,0,none⟩=some (.int .i64 x.a):=(HB.out.cell (p:=⟨w.heap.size,0,none⟩) (by simp)).trans (by simp)
  have z1:w1.cell? ⟨w.heap.size,1,none⟩=some (.int .i64 x.b):=(HB.out.cell (p:=⟨w.heap.size,1,none⟩) (by simp)).trans (by simp)
  have z2:w1.cell? ⟨w.heap.size,2,none⟩=some (.int .i64 x.c):=(HB.out.cell (p:=⟨w.heap.size,2,none⟩) (by simp)).trans (by simp)
  have z3:w1.cell? ⟨w.heap.size,3,none⟩=some (.int .i64 x.d):=(HB.out.cell (p:=⟨w.heap.size,3,none⟩) (by simp)).trans (by simp)
  have zl:w.heap.size<w1.heap.size:=by have:=HB.out.size;simp at this;omega
  cases hq1:P x.b with
  | false =>
   rw [hq1] at HG
   clear hq1
   go_wp2_with fail
   go_ret
   exact ⟨by rw [HG.out];rfl,Below.trans HB0.out (HB.out.mono HB0.out.size)⟩
  | true =>
   rw [hq1] at HG
   clear hq1
   go_wp2_with fail
   refine (stTo_any x.c 0 1999 _).mono ?_
   rintro e wq ⟨rfl,hw⟩
   obtain rfl:=hw
   cases hq2:toB x.c 0 1999 with
   | false =>
    rw [hq2] at HG
    clear hq2
    go_wp2_with fail
    go_ret
    exact ⟨by rw [HG.out];rfl,Below.trans HB0.out (HB.out.mono HB0.out.size)⟩
   | true =>
    rw [hq2] at HG
    clear hq2
    go_wp2_with fail
    refine (stStep_any x.d _).mono ?_
    rintro e wq ⟨rfl,hw⟩
    obtain rfl:=hw
    go_wp2_with fail
    go_ret
    exact ⟨by rw [HG.out];rfl,Below.trans HB0.out (HB.out.mono HB0.out.size)⟩
def oka2 (P:Int→Bool) (x:D3):Bool:=P x.a && (toB x.b 0 1099511627776 && (decide (0≤x.c)))
theorem cloa2_any (P:Int→Bool) (x:D3) (f:FV) (b:Nat) (w:World) (hc:w.cell? ⟨b,0,none⟩=some (.func (.func f.n) f.bnd f.cap)) (hl:b<w.heap.size) (hi:FunI w f P) :
  Calls Tryz.prog 199 #[x.v,.pointer (some ⟨b,0,none⟩)] w fun e w'=>e=.returned (.bool (oka2 P x))∧Below w.heap.size w w':=by
 have HG:Hid (oka2 P x=(P x.a && (toB x.b 0 1099511627776 && (decide (0≤x.c))))):=hid rfl
 have hb0:Below w.heap.size w (w.alloc (.cells #[.int .i64 x.a,.int .i64 x.b,.int .i64 x.c] 52)):=by repeat (first | with_reducible exact Below.refl _ _ | with_reducible assumption | with_reducible refine Below.drew ?_ | with_reducible refine Below.alloc ?_ (by first | omega | (simp;done) | (simp;omega)) _)
 have HB0:=hid hb0
 have HB:=hid (Below.refl (w.alloc (.cells #[.int .i64 x.a,.int .i64 x.b,.int .i64 x.c] 52)).heap.size (w.alloc (.cells #[.int .i64 x.a,.int .i64 x.b,.int .i64 x.c] 52)))
 have HI:=hid (hi.now hb0)
 have HE:=hid hi.ent
 clear hi
 clear hb0
 go_enter Tryz.func199,Tryz.ntmps199
 go_wp2_with fail
 rw [HE.out,Oper.upon_enter]
 refine (HI.out.run _ _ HB.out).mono ?_
 rintro e w1 ⟨rfl,hb1⟩
 have HBn:=hid (HB.out.trans (hb1.mono HB.out.size))
 clear hb1 HB
 have HB:=HBn
 clear HBn
 have z0:w1.cell? ⟨w.heap.size,0,none⟩=some (.int .i64 x.a):=(HB.out.cell (p:=⟨w.heap.size,0,none⟩) (by simp)).trans (by simp)
 have z1:w1.cell? ⟨w.heap.size,1,none⟩=some (.int .i64 x.b):=(HB.out.cell (p:=⟨w.heap.size,1,none⟩) (by simp)).trans (by simp)
 have z2:w1.cell? ⟨w.heap.size,2,none⟩=some (.int .i64 x.c):=(HB.out.cell (p:=⟨w.heap.size,2,none⟩) (by simp)).trans (by simp)
 have zl:w.heap.size<w1.heap.size:=by have:=HB.out.size;simp at this;omega
 cases hq0:P x.a with
 | false =>
  rw [hq0] at HG
  clear hq0
  go_wp2_with fail
  go_ret
  exact ⟨by rw [HG.out];rfl,Below.trans HB0.out (HB.out.mono HB0.out.size)⟩
 | true =>
  rw [hq0] at HG
  clear hq0
  go_wp2_with fail
  refine (stTo_any x.b 0 1099511627776 _).mono ?_
  rintro e wq ⟨rfl,hw⟩
  obtain rfl:=hw
  cases hq1:toB x.b 0 1099511627776 with
  | false =>
   rw [hq1] at HG
   clear hq1
   go_wp2_with fail
   go_ret
   exact ⟨by rw [HG.out];rfl,Below.trans HB0.out (HB.out.mono HB0.out.size)⟩
  | true =>
   rw [hq1] at HG
   clear hq1
   go_wp2_with fail
   go_wp2_with fail
   go_ret
   exact ⟨by rw [HG.out];rfl,Below.trans HB0.out (HB.out.mono HB0.out.size)⟩
/- IndexFunc,ContainsFunc at ints (written by genstb.py). -/
theorem ixInt_any (xs:List (Int)) (P:Int→Bool) (f:FV) (A:Option Addr) (c:Nat) (w:World) (hr:RdL 1 intC w w.heap.size A xs) (hx:xs.length≤9223372036854775807) (hf:FunB w f xs (Value.int .i64) P) :
  Calls Tryz.prog 286 #[.slice A xs.length c,.func (.func f.n) f.bnd f.cap] w fun e w'=>∃ i,e=.returned (.int .i64 i)∧decide (0≤i)=xs.any P∧Below w.heap.size w w':=by
 have HR:=hid hr
 have HF:=hid hf
 clear hr hf
 go_enter Tryz.func286,Tryz.ntmps286
 go_wp2_with fail
 go_loopw [5,8] (fun _ i wr=>∃ k:Nat,k≤xs.length∧i=.int .i64 k∧(xs.take k).any P=false∧Below w.heap.size w wr) (fun _ i _=>xs.length - (intOf i).toNat)
 case atStart=>exact ⟨0,Nat.zero_le _,rfl,rfl,Below.refl _ _⟩
 case round =>
  obtain ⟨k,hk,rfl,hfk,hbw⟩:=hrel
  have HFk:=hid hfk
  have HB:=hid hbw
  clear hfk
  by_cases hlt:k<xs.length
  ·obtain ⟨b,off,rfl,hb,c0⟩:=RdI_at (HR.out.now hbw) hlt
   have HC:=hid (HF.out.run xs[k] (List.getElem_mem hlt) wr hbw)
   have HE:=hid HF.out.ent
   have HT:=hid (any_take P xs k hlt HFk.out)
   have HH:=hid (any_hit P xs k hlt)
   clear hbw
   generalize xs[k]=x at *
   go_wp2_with fail
   rw [HE.out,Oper.upon_enter]
   refine HC.out.mono ?_
   rintro e w1 ⟨rfl,hb1⟩
   have HB1:=hid (HB.out.trans (hb1.mono HB.out.size))
   clear hb1 HC
   cases hp:P x with
   | true =>
    have HQ:=hid (HH.out hp)
    clear HH HT
    go_wp2_with fail
    go_ret
    exact ⟨k,rfl,by rw [HQ.out];simp,HB1.out⟩
   | false =>
    have HQ:=hid (HT.out.trans hp)
    clear HH HT
    go_wp2_with fail
    go_roundw
    case rel=>exact ⟨k+1,by omega,by go_num,HQ.out,HB1.out⟩
    case measure=>simp [intOf];omega
  ·obtain rfl:k=xs.length:=by omega
   have h:=HFk.out
   rw [List.take_length] at h
   have HQ:=hid h
   clear h
   go_wp2_with fail
   go_ret
   exact ⟨-1,rfl,by rw [HQ.out];rfl,HB.out⟩
theorem cnInt_any (xs:List (Int)) (P:Int→Bool) (f:FV) (A:Option Addr) (c:Nat) (w:World) (hr:RdL 1 intC w w.heap.size A xs) (hx:xs.length≤9223372036854775807) (hf:FunB w f xs (Value.int .i64) P) :
  Calls Tryz.prog 264 #[.slice A xs.length c,.func (.func f.n) f.bnd f.cap] w fun e w'=>e=.returned (.bool (xs.any P))∧Below w.heap.size w w':=by
 have HR:=hid hr
 have HF:=hid hf
 clear hr hf
 go_enter Tryz.func264,Tryz.ntmps264
 go_wp2_with fail
 refine (ixInt_any xs P f A c w HR.out hx HF.out).mono ?_
 rintro e w1 ⟨i,rfl,hi,hb⟩
 have HI:=hid hi
 have HB:=hid hb
 clear hi hb
 go_wp2_with fail
 go_ret
 exact ⟨by rw [← HI.out];rfl,HB.out⟩
end Go.Proofs.YthlpehhlhebhbaaGreatDoor
