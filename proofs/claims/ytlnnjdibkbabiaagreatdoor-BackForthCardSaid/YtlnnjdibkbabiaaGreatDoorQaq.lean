/- Contracts and plain laws, joined: WdA, WdB, WdC. -/
import Derived.Test.YtlnnjdibkbabiaaGreatDoorQad
import Derived.Lib.FieldsP
import Derived.Lib.TrimUEq
import Derived.Shelf.Strings.CaseAny
import Derived.Laws.RangeAny
import Derived.Lib.ItoaNum
/- Words in plain Lean: the pieces of strings.FieldsFunc,with small letters,are the words byte by byte. -/
set_option linter.unusedSimpArgs false
set_option linter.unusedVariables false
namespace Go.Proofs.YtlnnjdibkbabiaaGreatDoor
open Go.Lib
/- Parts,lines and digests of texts in plain Lean. -/
def fitW (size:Nat) (s:List UInt8):List UInt8:=if size<s.length then s.take (size - 1)++[43] else s
def partsL (size:Nat):Nat→List UInt8→List (List UInt8)
 | 0,s=>[fitW size s]
 | n+1,s=>if size<s.length then s.take size::partsL size n (s.drop size) else [s]
def partsF (s:List UInt8) (size most:Int):List (List UInt8):=if size<2∨most<1 then [] else partsL size.toNat (most - 1).toNat s
def lineF (s:List UInt8) (most:Int):List UInt8:=(s.takeWhile fun c=>c != 10).take most.toNat
theorem fitW_le {size:Nat} (h:2≤size) (s:List UInt8):(fitW size s).length≤size:=by
 unfold fitW
 split
 ·simp;omega
 ·omega
theorem fitW_nil {size:Nat} (s:List UInt8) (h:fitW size s=[]):s=[]:=by
 unfold fitW at h
 split at h
 ·have:=congrArg List.length h;simp at this
 ·exact h
theorem partsL_len (size:Nat):∀ (n:Nat) (s:List UInt8),1≤(partsL size n s).length∧(partsL size n s).length≤n+1
 | 0,s=>by simp [partsL]
 | n+1,s=>by
  rw [partsL]
  split
  ·have:=partsL_len size n (s.drop size)
   simp only [List.length_cons]
   omega
  ·simp
theorem partsL_each {size:Nat} (h:2≤size):∀ (n:Nat) (s:List UInt8) (i:Nat) (x:List UInt8),(partsL size n s)[i]?=some x→x.length≤size∧(i+1<(partsL size n s).length→x.length=size)∧(x=[]→s=[])
 | 0,s,i,x,hx=>by
  rw [partsL] at hx ⊢
  cases i with
  | zero =>
   simp at hx
   subst hx
   exact ⟨fitW_le h s,fun h=>by simp at h,fitW_nil s⟩
  | succ i=>simp at hx
 | n+1,s,i,x,hx=>by
  rw [partsL] at hx ⊢
  split at hx
  ·rename_i hs
   rw [if_pos hs]
   cases i with
   | zero =>
    simp at hx
    subst hx
    refine ⟨by simp;omega,fun _=>by simp;omega,fun e=>?_⟩
    have:=congrArg List.length e
    rw [List.length_take,List.length_nil] at this
    omega
   | succ i =>
    rw [List.getElem?_cons_succ] at hx
    have h1:=partsL_each h n (s.drop size) i x hx
    refine ⟨h1.1,fun h2=>h1.2.1 (by simpa using h2),fun e=>?_⟩
    have:=congrArg List.length (h1.2.2 e)
    simp at this
    omega
  ·rename_i hs
   rw [if_neg hs]
   cases i with
   | zero =>
    simp at hx
    subst hx
    exact ⟨by omega,fun h=>by simp at h,fun e=>e⟩
   | succ i=>simp at hx
theorem partsL_step {size n:Nat} {s:List UInt8} (h:size<s.length) (hn:0<n):partsL size n s=s.take size::partsL size (n - 1) (s.drop size):=by
 obtain ⟨m,rfl⟩:∃ m,n=m+1:=⟨n - 1,by omega⟩
 rw [partsL,if_pos h]
 rfl
theorem partsL_end {size n:Nat} {s:List UInt8} (h:¬ (size<s.length∧0<n)):partsL size n s=[fitW size s]:=by
 cases n with
 | zero=>rfl
 | succ n =>
  have h1:¬ size<s.length:=fun h2=>h ⟨h2,by omega⟩
  rw [partsL,if_neg h1,fitW,if_neg h1]
theorem lineF_len (s:List UInt8) (most:Int):(lineF s most).length≤s.length∧(lineF s most).length≤most.toNat:=by
 have h1:=(List.takeWhile_sublist (fun c=>c != (10:UInt8)) (l:=s)).length_le
 unfold lineF
 simp only [List.length_take]
 omega
/- Words of words,finding and digests in plain Lean. -/
open Go.Lib
end Go.Proofs.YtlnnjdibkbabiaaGreatDoor
