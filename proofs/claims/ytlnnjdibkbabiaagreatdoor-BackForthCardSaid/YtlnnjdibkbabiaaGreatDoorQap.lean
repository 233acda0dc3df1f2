/- Contracts and plain laws, joined: StB, StC, StBi. -/
import Derived.Test.YtlnnjdibkbabiaaGreatDoorQah
import Derived.Test.YtlnnjdibkbabiaaGreatDoorQaj
import Derived.Test.YtlnnjdibkbabiaaGreatDoorQag
/- slices.IndexFunc,slices.ContainsFunc and state.each at the small structs of a state (written by genstb.py). -/
set_option linter.unusedSimpArgs false
set_option linter.unusedVariables false
namespace Go.Proofs.YtlnnjdibkbabiaaGreatDoor
open _root_.Go.Lib (hid)
open Go.RowKit
set_option maxRecDepth 100000
structure FunB {T:Type} (w:World) (f:FV) (xs:List T) (vx:T→Value) (P:T→Bool):Prop where
 ent:∀ args w',(callFunc f.n args).run Tryz.prog w'=.ok (.enter f.n args) w'
 run:∀ x∈xs,∀ w',Below w.heap.size w w'→Calls Tryz.prog f.n (f.bnd++#[vx x]++f.cap) w' fun e w''=>e=.returned (.bool (P x))∧Below w'.heap.size w' w''
theorem FunB.now {T:Type} {w w':World} {f:FV} {xs:List T} {vx:T→Value} {P:T→Bool} (h:FunB w f xs vx P) (hb:Below w.heap.size w w'):FunB w' f xs vx P :=
 ⟨h.ent,fun x hx w2 h2=>h.run x hx w2 (hb.trans (h2.mono hb.size))⟩
theorem any_take {T:Type} (P:T→Bool) (xs:List T) (k:Nat) (hk:k<xs.length) (h:(xs.take k).any P=false):(xs.take (k+1)).any P=P xs[k]:=by
 rw [List.take_succ_eq_append_getElem hk,List.any_append,h]
 simp
theorem any_hit {T:Type} (P:T→Bool) (xs:List T) (k:Nat) (hk:k<xs.length) (h:P xs[k]=true):xs.any P=true:=List.any_eq_true.2 ⟨_,List.getElem_mem hk,h⟩
theorem enter_fn {P : Program} {f : FuncId} {fn : Func} {c : Code} (hf : P.funcs[f]? = some fn) (hname : (fn.name == "runtime.NumGoroutine") = false) (hb : fn.body = some c) (args : Array Value) (w : World) :
  (callFunc f args).run P w=.ok (.enter f args) w:=by
 unfold callFunc
 simp [hf,hb]
 simp at hname
 simp [hname]
/- Small functions and closures of package state (written by genstc.py). -/
structure FunI (w:World) (f:FV) (P:Int→Bool):Prop where
 ent:∀ args w',(callFunc f.n args).run Tryz.prog w'=.ok (.enter f.n args) w'
 run:∀ (n:Int) (w':World),Below w.heap.size w w'→Calls Tryz.prog f.n (f.bnd++#[.int .i64 n]++f.cap) w' fun e w''=>e=.returned (.bool (P n))∧Below w'.heap.size w' w''
theorem FunI.now {w w':World} {f:FV} {P:Int→Bool} (h:FunI w f P) (hb:Below w.heap.size w w'):FunI w' f P:=⟨h.ent,fun n w2 h2=>h.run n w2 (hb.trans (h2.mono hb.size))⟩
/- IndexFunc,ContainsFunc at ints (written by genstb.py). -/
set_option maxHeartbeats 1000000 in
theorem ixInt_any (xs:List (Int)) (P:Int→Bool) (f:FV) (A:Option Addr) (c:Nat) (w:World) (hr:RdL 1 intC w w.heap.size A xs) (hx:xs.length≤9223372036854775807) (hf:FunB w f xs (Value.int .i64) P) :
  Calls Tryz.prog 163 #[.slice A xs.length c,.func (.func f.n) f.bnd f.cap] w fun e w'=>∃ i,e=.returned (.int .i64 i)∧decide (0≤i)=xs.any P∧Below w.heap.size w w':=by
 have HR:=hid hr
 have HF:=hid hf
 clear hr hf
 go_enter Tryz.func163,Tryz.ntmps163
 go_wp2_with fail
 go_loopw [5,8] (fun _ i wr=>∃ k:Nat,k≤xs.length∧i=.int .i64 k∧(xs.take k).any P=false∧Below w.heap.size w wr) (fun _ i _=>xs.length - (intOf i).toNat)
 case atStart=>exact ⟨0,Nat.zero_le _,rfl,rfl,Below.refl _ _⟩
 case round =>
  obtain ⟨k,hk,rfl,hfk,hbw⟩:=hrel
  have HFk:=hid hfk
  have HB:=hid hbw
  clear hfk
  by_cases hlt:k<xs.length
  ·obtain ⟨b,off,rfl,hb,c0⟩:=RdI_at (HR.out.now hbw) hlt
   have HC:=hid (HF.out.run xs[k] (List.getElem_mem hlt) wr hbw)
   have HE:=hid HF.out.ent
   have HT:=hid (any_take P xs k hlt HFk.out)
   have HH:=hid (any_hit P xs k hlt)
   clear hbw
   generalize xs[k]=x at *
   go_wp2_with fail
   rw [HE.out,Oper.upon_enter]
   refine HC.out.mono ?_
   rintro e w1 ⟨rfl,hb1⟩
   have HB1:=hid (HB.out.trans (hb1.mono HB.out.size))
   clear hb1 HC
   cases hp:P x with
   | true =>
    have HQ:=hid (HH.out hp)
    clear HH HT
    go_wp2_with fail
    go_ret
    exact ⟨k,rfl,by rw [HQ.out];simp,HB1.out⟩
   | false =>
    have HQ:=hid (HT.out.trans hp)
    clear HH HT
    go_wp2_with fail
    go_roundw
    case rel=>exact ⟨k+1,by omega,by go_num,HQ.out,HB1.out⟩
    case measure=>simp [intOf];omega
  ·obtain rfl:k=xs.length:=by omega
   have h:=HFk.out
   rw [List.take_length] at h
   have HQ:=hid h
   clear h
   go_wp2_with fail
   go_ret
   exact ⟨-1,rfl,by rw [HQ.out];rfl,HB.out⟩
theorem cnInt_any (xs:List (Int)) (P:Int→Bool) (f:FV) (A:Option Addr) (c:Nat) (w:World) (hr:RdL 1 intC w w.heap.size A xs) (hx:xs.length≤9223372036854775807) (hf:FunB w f xs (Value.int .i64) P) :
  Calls Tryz.prog 127 #[.slice A xs.length c,.func (.func f.n) f.bnd f.cap] w fun e w'=>e=.returned (.bool (xs.any P))∧Below w.heap.size w w':=by
 have HR:=hid hr
 have HF:=hid hf
 clear hr hf
 go_enter Tryz.func127,Tryz.ntmps127
 go_wp2_with fail
 refine (ixInt_any xs P f A c w HR.out hx HF.out).mono ?_
 rintro e w1 ⟨i,rfl,hi,hb⟩
 have HI:=hid hi
 have HB:=hid hb
 clear hi hb
 go_wp2_with fail
 go_ret
 exact ⟨by rw [← HI.out];rfl,HB.out⟩
end Go.Proofs.YtlnnjdibkbabiaaGreatDoor
