/- Contracts and plain laws, joined: Kit. -/
import Derived.WalkKit
import Derived.WalkSpells
import Derived.WalkLawsBesides
import Derived.Lib.Hide
import Derived.BigQuiet
import Derived.Deep.QuietTactic
import Derived.StillTailTactics
/- Small lemmas on worlds and slices,over any program. -/
set_option linter.unusedSimpArgs false
set_option linter.unusedVariables false
namespace Go.Proofs.YtlnnjdibkbabiaaGreatDoor
open Go.RowKit
theorem bcell {W w1:World} (hb:Below W.heap.size W w1):(∀ b o,b<W.heap.size→w1.cell? ⟨b,o,none⟩=W.cell? ⟨b,o,none⟩)∧(∀ b o,b<W.heap.size→w1.frozen? ⟨b,o,none⟩=W.frozen? ⟨b,o,none⟩) :=
 ⟨fun b o h=>hb.cell (p:=⟨b,o,none⟩) h,fun b o h=>hb.frozen (p:=⟨b,o,none⟩) h⟩
theorem ret_bool {a b:Bool} (h:a=b):Ending.returned (.bool a)=.returned (.bool b):=by rw [h]
theorem below_drewN {B:Nat} {a w:World} (h:Below B a w) (n:Nat):Below B a (w.drewN n):=⟨h.os,h.tape,h.output,h.size,h.block⟩
theorem cell_old (w:World) (o:Obj) (b j:Nat) (h:b<w.heap.size):(w.alloc o).cell? ⟨b,j,none⟩=w.cell? ⟨b,j,none⟩:=World.cell?_alloc_lt w o ⟨b,j,none⟩ h
theorem cell_new1 (w:World) (v:Value) (t:TypeId) (b:Nat) (h:b=w.heap.size):(w.alloc (.cells #[v] t)).cell? ⟨b,0,none⟩=some v:=by subst h;simp
def RdL {T:Type} (sz:Nat) (enc:T→List Value) (w:World) (B:Nat) (A:Option Addr) (xs:List T):Prop :=
 ∀ k x,xs[k]?=some x→∃ b off,A=some ⟨b,off,none⟩∧b<B∧∀ j v,(enc x)[j]?=some v→w.cell? ⟨b,off+k * sz+j,none⟩=some v
section
variable {T:Type} {sz:Nat} {enc:T→List Value} {w w':World} {B B':Nat} {A:Option Addr} {xs:List T}
theorem RdL.nil_:RdL sz enc w B A ([]:List T):=fun k x h=>by simp at h
theorem RdL.keep (h:RdL sz enc w B A xs) (hk:∀ p:Addr,p.block<B→w'.cell? p=w.cell? p):RdL sz enc w' B A xs:=fun k x hx=>by
 obtain ⟨b,off,e,hb,hc⟩:=h k x hx
 exact ⟨b,off,e,hb,fun j v hv=>(hk ⟨b,_,none⟩ hb).trans (hc j v hv)⟩
theorem RdL.more (h:RdL sz enc w B A xs) (hB:B≤B'):RdL sz enc w B' A xs:=fun k x hx=>by
 obtain ⟨b,off,e,hb,hc⟩:=h k x hx
 exact ⟨b,off,e,by omega,hc⟩
theorem RdL.below (h:RdL sz enc w B A xs) (hb:Below B w w'):RdL sz enc w' B A xs:=h.keep fun _ hp=>hb.cell hp
theorem RdL.now (h:RdL sz enc w w.heap.size A xs) (hb:Below w.heap.size w w'):RdL sz enc w' w'.heap.size A xs:=(h.below hb).more hb.size
theorem RdL.at_ {k:Nat} (h:RdL sz enc w B A xs) (hk:k<xs.length):∃ b off,A=some ⟨b,off,none⟩∧b<B∧∀ j v,(enc xs[k])[j]?=some v→w.cell? ⟨b,off+k * sz+j,none⟩=some v :=
 h k _ (List.getElem?_eq_getElem hk)
end
/-! Short names for the rules of a frame (a claim has a limit of bytes: tools/prune.py). -/
theorem sA {T:Type _} (l:List T) (i:Nat) (a:T):l.toArray.setIfInBounds i a=(l.set i a).toArray:=List.setIfInBounds_toArray ..
theorem sB {T:Type _} (l:List T) (a b:T):(a::l).set 0 b=b::l:=List.set_cons_zero ..
theorem sC {T:Type _} (l:List T) (a b:T) (i:Nat):(a::l).set (i+1) b=a::l.set i b:=List.set_cons_succ ..
theorem sD {T:Type _} (l:List T) (i:Nat) (h:i<l.toArray.size):l.toArray[i]=l[i]'(by simpa using h):=List.getElem_toArray ..
theorem sE {T:Type _} (l:List T) (a:T) (h:0<(a::l).length):(a::l)[0]=a:=List.getElem_cons_zero ..
theorem sF {T:Type _} (l:List T) (a:T) (i:Nat) (h:i+1<(a::l).length):(a::l)[i+1]=l[i]'(by simpa using h):=List.getElem_cons_succ ..
end Go.Proofs.YtlnnjdibkbabiaaGreatDoor
