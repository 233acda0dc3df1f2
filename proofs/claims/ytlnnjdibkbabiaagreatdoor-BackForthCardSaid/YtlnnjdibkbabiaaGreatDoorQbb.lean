/- Contracts and plain laws, joined: Open. -/
import Derived.Test.YtlnnjdibkbabiaaGreatDoorQag
import Derived.ProofKit
import Derived.ShutString
import Derived.ChangeOld
import Derived.Deep.Slices
import Derived.Deep.Fields
import Derived.ChangeSame
/- Opening the arguments of a law: a slice reads as a list,over any program. -/
set_option linter.unusedSimpArgs false
set_option linter.unusedVariables false
namespace Go.Proofs.YtlnnjdibkbabiaaGreatDoor
open Go.ChangeShapes Go.WideShapes Go.RowKit Go.Deep
theorem build_list {T:Type} {R:Nat→T→Prop} (n:Nat) (h:∀ i,i<n→∃ y,R i y):∃ xs:List T,xs.length=n∧∀ i x,xs[i]?=some x→R i x:=by
 induction n with
 | zero=>exact ⟨[],rfl,fun i x hx=>by simp at hx⟩
 | succ n ih =>
  obtain ⟨xs,hl,hx⟩:=ih (fun i hi=>h i (by omega))
  obtain ⟨y,hy⟩:=h n (by omega)
  refine ⟨xs++[y],by simp [hl],fun i x hix=>?_⟩
  by_cases hi:i<xs.length
  ·rw [List.getElem?_append_left hi] at hix
   exact hx i x hix
  ·have hlt:=(List.getElem?_eq_some_iff.1 hix).1
   simp at hlt
   have:i=n:=by omega
   subst this
   rw [List.getElem?_append_right (by omega)] at hix
   simp [hl] at hix
   subst hix
   exact hy
section
variable {H:Type} {enc0:TypeId × Value→H} {P:Program} {w:World} {base:Nat} {spare:Nat→Bool} {held:Bool}
theorem open_list {T:Type} {sz:Nat} {enc:T→List Value} {ok:T→Prop} {t e:TypeId} {A:Option Addr} {n c:Nat} {d:DataW H} {p:List MemPlace} (ht:P.underlying t=some (.slice e)) (hC:P.cellsOf e=sz) (hsz:0<sz) (hlen:∀ y,(enc y).length=sz)
  (hE:∀ m cs x,DataW.trod enc0 P w base spare held m e cs=some x→∃ y:T,enc y=cs∧ok y)
  (h:DataW.Trod enc0 P w base spare held t (.slice A n c) d p) :
  ∃ xs:List T,n=xs.length∧RdL sz enc w w.heap.size A xs∧(∀ x∈xs,ok x)∧n≤maxLen:=by
 obtain ⟨fuel,hf⟩:=h
 rcases open_slice ht hf with ⟨hcs,_⟩ | ⟨a,len,cap,m,n',D,Pl,hcs,hb,hl,hm,hmm,hx,hi⟩
 ·simp [Value.cells] at hcs
  obtain ⟨rfl,rfl,rfl⟩:=hcs
  exact ⟨[],rfl,RdL.nil_,fun x hx=>by simp at hx,by simp [maxLen]⟩
 ·simp [Value.cells] at hcs
  obtain ⟨rfl,rfl,rfl⟩:=hcs
  have hnm:n≤m:=by rw [hmm];split <;> omega
  obtain ⟨xs,hxl,hxs⟩:=build_list (R:=fun i y=>ok y∧∀ j v,(enc y)[j]?=some v→w.cell? (a.add (i * sz+j))=some v) n (fun i hin=>by
   obtain ⟨cs',hc,htr⟩:=hi i (by omega)
   obtain ⟨y,hy,hok⟩:=hE _ _ _ htr
   refine ⟨y,hok,fun j v hv=>?_⟩
   obtain ⟨_,hcl,hat⟩:=World.cells?_some hc
   have hj:j<sz:=by have:=(List.getElem?_eq_some_iff.1 hv).1;rw [hlen] at this;exact this
   have:=hat j (by rw [hC];exact hj)
   rw [hC] at this
   rw [← add_add,this,← hy]
   exact hv)
  refine ⟨xs,hxl.symm,fun k x hkx=>?_,fun x hx=>?_,by omega⟩
  ·obtain ⟨_,hcell⟩:=hxs k x hkx
   have h0:∃ v,(enc x)[0]?=some v:=⟨_,List.getElem?_eq_getElem (by rw [hlen];exact hsz)⟩
   obtain ⟨v0,hv0⟩:=h0
   have hc0:=hcell 0 v0 hv0
   have hspot:(a.add (k * sz+0)).spot=none:=World.cell?_spot hc0
   obtain ⟨b,off,spot⟩:=a
   have hsp:spot=none:=by
    obtain ⟨x0,hx0⟩:∃ x0,xs[0]?=some x0:=⟨_,List.getElem?_eq_getElem (by have:=(List.getElem?_eq_some_iff.1 hkx).1;omega)⟩
    obtain ⟨v1,hv1⟩:∃ v1,(enc x0)[0]?=some v1:=⟨_,List.getElem?_eq_getElem (by rw [hlen];exact hsz)⟩
    have:=World.cell?_spot ((hxs 0 x0 hx0).2 0 v1 hv1)
    simpa [Addr.add] using this
   subst hsp
   refine ⟨b,off,rfl,?_,fun j v hj=>?_⟩
   ·have:=World.block_lt_of_cell? w _ hc0
    rwa [show (Addr.add ⟨b,off,none⟩ (k * sz+0)).block=b from by unfold Addr.add;split <;> rfl] at this
   ·have:=hcell j v hj
    rw [← this]
    congr 1
    unfold Addr.add
    split
    ·rename_i h0;rw [show off+k * sz+j=off by omega]
    ·simp [Nat.add_assoc]
  ·obtain ⟨i,hi⟩:=List.getElem?_of_mem hx
   exact (hxs i x hi).1
theorem open_list_cap {t e:TypeId} {A:Option Addr} {n c:Nat} {d:DataW H} {p:List MemPlace} (ht:P.underlying t=some (.slice e)) (h:DataW.Trod enc0 P w base spare held t (.slice A n c) d p):n≤c∧c≤maxLen:=by
 obtain ⟨fuel,hf⟩:=h
 rcases open_slice ht hf with ⟨hcs,_⟩ | ⟨a,len,cap,m,n',D,Pl,hcs,hb,hl,hm,_⟩
 ·simp [Value.cells] at hcs
  obtain ⟨rfl,rfl,rfl⟩:=hcs
  exact ⟨Nat.le_refl _,by simp [maxLen]⟩
 ·simp [Value.cells] at hcs
  obtain ⟨rfl,rfl,rfl⟩:=hcs
  exact ⟨hl,hm⟩
theorem bool_cell {t:TypeId} {m:Nat} {v:Value} {x:DataW H × List MemPlace} (ht:P.underlying t=some .bool) (h:DataW.trod enc0 P w base spare held m t [v]=some x):∃ b,v=.bool b:=by
 obtain ⟨b,hb,_⟩:=DataW.trod_bool ht h
 simp at hb
 exact ⟨b,hb⟩
theorem string_cell {t:TypeId} {m:Nat} {v:Value} {x:DataW H × List MemPlace} (ht:P.underlying t=some .string) (h:DataW.trod enc0 P w base spare held m t [v]=some x):∃ s:ByteArray,v=.string s∧s.size≤maxLen:=by
 obtain ⟨s,hs,_,hw⟩:=DataW.trod_string ht h
 simp at hs
 exact ⟨s,hs,hw⟩
theorem slice_cell {t e:TypeId} {m:Nat} {v:Value} {x:DataW H × List MemPlace} (ht:P.underlying t=some (.slice e)) (h:DataW.trod enc0 P w base spare held m t [v]=some x):∃ A n c d p,v=.slice A n c∧DataW.Trod enc0 P w base spare held t (.slice A n c) d p:=by
 have hv:∃ A n c,v=.slice A n c:=by
  rcases open_slice ht h with ⟨hcs,_⟩ | ⟨a,len,cap,m,n',D,Pl,hcs,_⟩
  ·simp at hcs;exact ⟨_,_,_,hcs⟩
  ·simp at hcs;exact ⟨_,_,_,hcs⟩
 obtain ⟨A,n,c,rfl⟩:=hv
 obtain ⟨d,p⟩:=x
 exact ⟨A,n,c,d,p,rfl,m,h⟩
theorem struct_cells {t:TypeId} {fs:Array Field} {m:Nat} {cs:List Value} {x:DataW H × List MemPlace} (ht:P.underlying t=some (.struct fs)) (hone:oneCellFields P fs=true) (hC:P.cellsOf t=fs.size) (h:DataW.trod enc0 P w base spare held m t cs=some x) :
  cs.length=fs.size∧∀ (i:Nat) (f:Field),fs[i]?=some f→∃ v n y,cs[i]?=some v∧DataW.trod enc0 P w base spare held n f.type [v]=some y:=by
 obtain ⟨ys,n,_,_,hl,hyl,hf⟩:=DataW.trod_struct ht h
 rw [hC] at hl
 refine ⟨hl,fun i f hi=>?_⟩
 obtain ⟨ho,hk⟩:=hone_of hone i f hi
 have hlt:i<fs.size:=(Array.getElem?_eq_some_iff.1 hi).1
 have h1:=hf i f hi
 rw [ho,hk,List.drop_eq_getElem_cons (by omega)] at h1
 have hy:ys[i]?=some (ys[i]'(by omega)):=List.getElem?_eq_getElem (by omega)
 exact ⟨_,n,_,List.getElem?_eq_getElem (by omega),h1.trans hy⟩
theorem int_cell {t:TypeId} {k:IntKind} {m:Nat} {v:Value} {x:DataW H × List MemPlace} (ht:P.underlying t=some (.int k)) (h:DataW.trod enc0 P w base spare held m t [v]=some x):∃ n,v=.int k n∧(Lit.int k n).wf=true:=by
 obtain ⟨n,hn,_,hw⟩:=DataW.trod_int ht h
 simp at hn
 exact ⟨n,hn,hw⟩
end
end Go.Proofs.YtlnnjdibkbabiaaGreatDoor
