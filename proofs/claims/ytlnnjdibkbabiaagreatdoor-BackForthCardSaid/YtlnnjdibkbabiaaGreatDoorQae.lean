/- Contracts and plain laws, joined: Det, DetE. -/
import Derived.Test.YtlnnjdibkbabiaaGreatDoorQab
import Derived.Orders
import Derived.Deep.RegionHeld
/- A region that draws its order,in which every operation comes to one value whatever the order: walked once,from the first operation to the last;over any program. -/
set_option linter.unusedSimpArgs false
set_option linter.unusedVariables false
namespace Go.Proofs.YtlnnjdibkbabiaaGreatDoor
open Go.RowKit
section
variable {P:Program} {ops:Array Oper} {S:World→Prop} {Q:Exit→Act→World→Prop}
def NoExit:Exit→Act→World→Prop:=fun _ _ _=>False
def ComesTo (P:Program) (ops:Array Oper) (S:World→Prop) (o:Oper) (v:Value) (a:Act):Prop :=
 (Region.wanted o (yielded ops a.tmps)=true∧∀ w,S w→∀ K:Act→World→Prop,(∀ a' w',S w'→a'=a.put o.dst v→K a' w')→Oper.wp P o a w K NoExit) ∨
 (Region.wanted o (yielded ops a.tmps)=false∧v=undef)
def Det (P:Program) (ops:Array Oper) (S:World→Prop) (Z:Act→World→Prop):List Oper→Act→Prop
 | [],a=>∀ w,S w→Z a w
 | o::r,a=>∃ v,ComesTo P ops S o v a∧Det P ops S Z r (a.put o.dst v)
theorem put_eq {a b:Act} {d:Option Tmp} {u v:Value} (h:a.put d u=a.put d v) (hs:b.tmps.size=a.tmps.size):b.put d u=b.put d v:=by
 cases d with
 | none=>rfl
 | some d =>
  simp only [Act.put] at *
  have h1:a.tmps.setIfInBounds d u=a.tmps.setIfInBounds d v:=congrArg Act.tmps h
  by_cases hd:d<a.tmps.size
  ·have h2:=congrArg (fun x:Array Value=>x[d]?) h1
   simp [hd] at h2
   rw [h2]
  ·rw [Array.setIfInBounds_eq_of_size_le (by rw [hs];exact Nat.not_lt.1 hd),Array.setIfInBounds_eq_of_size_le (by rw [hs];exact Nat.not_lt.1 hd)]
theorem ComesTo.wp {o:Oper} {v:Value} {a b:Act} (h:∀ w,S w→∀ K:Act→World→Prop,(∀ a' w',S w'→a'=a.put o.dst v→K a' w')→Oper.wp P o a w K NoExit)
  (he:execOp b.eval o=execOp a.eval o) (hs:b.tmps.size=a.tmps.size) {w:World} (hS:S w) {K:Act→World→Prop} (hK:∀ w',S w'→K (b.put o.dst v) w'):Oper.wp P o b w K Q:=by
 have h0:=h w hS (fun a1 w1=>a1=a.put o.dst v∧S w1) (fun a1 w1 hS e=>⟨e,hS⟩)
 unfold Oper.wp at h0 ⊢
 rw [he]
 generalize (execOp a.eval o).run P w=r at *
 cases r with
 | ok n w' =>
  cases n <;> simp only [Oper.upon] at h0 ⊢
  case value u=>rw [put_eq h0.1 hs];exact hK _ h0.2
  case skip=>rw [put_eq h0.1 hs];exact hK _ h0.2
  case defer d =>
   have h1:=congrArg (fun x:Act=>x.defers.length) h0.1
   cases ho:o.dst <;> simp [Act.put,ho] at h1
  case enter f args =>
   refine Calls.mono h0 fun e w'' hE=>?_
   cases e with
   | returned u=>show K (b.put o.dst u) w'';rw [put_eq hE.1 hs];exact hK _ hE.2
   | panicked c=>exact hE.elim
   | outgrown=>obtain ⟨_,_,hE⟩:=hE;exact hE.elim
  case row row args=>exact Rows.mono h0 fun u w'' hE=>by rw [put_eq hE.1 hs];exact hK _ hE.2
 | halt x w' =>
  cases x <;> simp only [Oper.upon] at h0
  exact h0.elim
def waits (o:Oper) (j:Nat):Bool:=o.after.any fun e=>Region.binds .any e && e.on==j
def detOk (ops:Array Oper):Bool :=
 (List.range ops.size).all fun i=>match ops[i]? with
  | none=>true
  | some o=>(o.after.all fun e=>!Region.binds .any e || decide (e.on<i)) && (match o.op with | .select _ _=>false | _=>true) &&
   (List.range ops.size).all fun j=>i==j || match ops[j]? with
    | none=>true
    | some p=>match p.dst with
     | none=>true
     | some d=>o.dst != some d && (!(o.looksAt ops).contains d || waits o j || waits p i)
theorem detOk_spec (h:detOk ops=true) {i:Nat} {o:Oper} (ho:ops[i]?=some o) :
  (∀ e∈o.after,Region.binds .any e=true→e.on<i)∧(∀ cs b,o.op≠.select cs b) ∧
  ∀ j p d,ops[j]?=some p→i≠j→p.dst=some d→o.dst≠some d∧(d∈o.looksAt ops→waits o j=true∨waits p i=true):=by
 have hi:i<ops.size:=(Array.getElem?_eq_some_iff.1 ho).1
 have h1:=List.all_eq_true.1 h i (List.mem_range.2 hi)
 simp only [ho,Bool.and_eq_true,List.all_eq_true,Array.all_eq_true'] at h1
 obtain ⟨⟨h2,h3⟩,h4⟩:=h1
 refine ⟨fun e he hb=>?_,fun cs b hs=>by rw [hs] at h3;simp at h3,fun j p d hp hij hd=>?_⟩
 ·have:=h2 e he
  simpa [hb] using this
 ·have hj:j<ops.size:=(Array.getElem?_eq_some_iff.1 hp).1
  have h5:=h4 j (List.mem_range.2 hj)
  simp only [hp,hd,Bool.or_eq_true,Bool.and_eq_true,beq_iff_eq] at h5
  rcases h5 with h5 | ⟨h5,h6⟩
  ·exact absurd h5 hij
  ·refine ⟨by simpa using h5,fun hm=>?_⟩
   rcases h6 with (h6 | h6) | h6
   ·simp [hm] at h6
   ·exact .inl h6
   ·exact .inr h6
structure Agr (ops:Array Oper) (vs:List Value) (a0:Act) (L:Nat→Prop) (a:Act):Prop where
 defers:a.defers=a0.defers
 size:a.tmps.size=a0.tmps.size
 at_:∀ i o d v,ops[i]?=some o→o.dst=some d→L i→vs[i]?=some v→d<a0.tmps.size→a.tmps[d]?=some v
 off:∀ d,(∀ i o,ops[i]?=some o→L i→o.dst≠some d)→a.tmps[d]?=a0.tmps[d]?
theorem Agr.start (vs:List Value) (a0:Act):Agr ops vs a0 (fun _=>False) a0:=⟨rfl,rfl,fun _ _ _ _ _ _ h=>h.elim,fun _ _=>rfl⟩
theorem Agr.put {vs:List Value} {a0 a:Act} {L:Nat→Prop} (h:Agr ops vs a0 L a) (hok:detOk ops=true) {j:Nat} {p:Oper} {v:Value} (hp:ops[j]?=some p) (hv:vs[j]?=some v):Agr ops vs a0 (fun i=>L i∨i=j) (a.put p.dst v):=by
 cases hd:p.dst with
 | none =>
  refine ⟨h.defers,h.size,fun i o d v' ho hod hL hv' hlt=>?_,fun d hn=>h.off d fun i o ho hL=>hn i o ho (.inl hL)⟩
  rcases hL with hL | rfl
  ·exact h.at_ i o d v' ho hod hL hv' hlt
  ·rw [ho] at hp;cases hp;rw [hod] at hd;cases hd
 | some e =>
  refine ⟨h.defers,by simp [Act.put,h.size],fun i o d v' ho hod hL hv' hlt=>?_,fun d hn=>?_⟩
  ·by_cases hij:i=j
   ·subst hij
    rw [ho] at hp;cases hp
    rw [hod] at hd;cases hd
    rw [hv] at hv';cases hv'
    simp [Act.put,h.size,hlt]
   ·have hne:=((detOk_spec hok ho).2.2 j p e hp hij hd).1
    have:e≠d:=fun he=>hne (by rw [he];exact hod)
    simp only [Act.put]
    rw [Array.getElem?_setIfInBounds_ne this]
    exact h.at_ i o d v' ho hod (by rcases hL with hL | hL;exact hL;exact absurd hL hij) hv' hlt
  ·have:e≠d:=fun he=>hn j p hp (.inr rfl) (by rw [← he];exact hd)
   simp only [Act.put]
   rw [Array.getElem?_setIfInBounds_ne this]
   exact h.off d fun i o ho hL=>hn i o ho (.inl hL)
theorem Agr.same {vs:List Value} {a0 a b:Act} {L M:Nat→Prop} (h:Agr ops vs a0 L a) (k:Agr ops vs a0 M b) (hv:vs.length=ops.size) {x:Tmp} (hLM:∀ j p,ops[j]?=some p→p.dst=some x→(L j ↔ M j)):a.tmps[x]?=b.tmps[x]?:=by
 classical
 by_cases hx:x<a0.tmps.size
 ·by_cases hL:∃ j p,ops[j]?=some p∧p.dst=some x∧L j
  ·obtain ⟨j,p,hp,hd,hl⟩:=hL
   have hj:j<ops.size:=(Array.getElem?_eq_some_iff.1 hp).1
   obtain ⟨v,hvj⟩:∃ v,vs[j]?=some v:=⟨_,List.getElem?_eq_getElem (by omega)⟩
   rw [h.at_ j p x v hp hd hl hvj hx,k.at_ j p x v hp hd ((hLM j p hp hd).1 hl) hvj hx]
  ·rw [h.off x fun i o ho hl he=>hL ⟨i,o,ho,he,hl⟩,k.off x fun i o ho hl he=>hL ⟨i,o,ho,he,(hLM i o ho he).2 hl⟩]
 ·rw [Array.getElem?_eq_none (by rw [h.size];exact Nat.not_lt.1 hx),Array.getElem?_eq_none (by rw [k.size];exact Nat.not_lt.1 hx)]
theorem Agr.eq {vs:List Value} {a0 a b:Act} {L M:Nat→Prop} (h:Agr ops vs a0 L a) (k:Agr ops vs a0 M b) (hv:vs.length=ops.size) (hLM:∀ j,j<ops.size→(L j ↔ M j)):a=b:=by
 obtain ⟨ta,da⟩:=a
 obtain ⟨tb,db⟩:=b
 have h1:ta=tb:=Array.ext_getElem? fun x=>h.same k hv (fun j p hp _=>hLM j (Array.getElem?_eq_some_iff.1 hp).1)
 have h2:da=db:=h.defers.trans k.defers.symm
 rw [h1,h2]
def runs:List Oper→List Value→Act→Act
 | o::r,v::vs,a=>runs r vs (a.put o.dst v)
 | _,_,a=>a
theorem Det.vals {Z:Act→World→Prop}:∀ (l:List Oper) (a:Act),Det P ops S Z l a→∃ vs:List Value,vs.length=l.length ∧
  (∀ i o v,l[i]?=some o→vs[i]?=some v→ComesTo P ops S o v (runs (l.take i) (vs.take i) a))∧∀ w,S w→Z (runs l vs a) w
 | [],a,h=>⟨[],rfl,fun i o v ho=>by simp at ho,h⟩
 | o::r,a,⟨v,hc,h⟩=>by
  obtain ⟨vs,hl,hi,hz⟩:=Det.vals r _ h
  refine ⟨v::vs,by simp [hl],fun i o' v' ho hv=>?_,hz⟩
  cases i with
  | zero=>simp at ho hv;subst ho;subst hv;exact hc
  | succ i=>simp at ho hv;exact hi i o' v' ho hv
theorem runs_snoc:∀ (l:List Oper) (vs:List Value) (o:Oper) (v:Value) (a:Act),l.length=vs.length→runs (l++[o]) (vs++[v]) a=(runs l vs a).put o.dst v
 | [],[],_,_,_,_=>rfl
 | [],_::_,_,_,_,h=>by simp at h
 | _::_,[],_,_,_,h=>by simp at h
 | p::l,u::vs,o,v,a,h=>by
  simp only [List.cons_append,runs]
  exact runs_snoc l vs o v _ (by simpa using h)
theorem agr_runs (hok:detOk ops=true) (vs:List Value) (hv:vs.length=ops.size) (a0:Act):∀ i,i≤ops.size→Agr ops vs a0 (fun j=>j<i) (runs (ops.toList.take i) (vs.take i) a0)
 | 0,_=>by
  have:=Agr.start (ops:=ops) vs a0
  simp only [List.take_zero,runs]
  exact ⟨this.defers,this.size,fun i o d v _ _ h=>by omega,fun d _=>rfl⟩
 | i+1,h=>by
  have ih:=agr_runs hok vs hv a0 i (by omega)
  have ho:ops[i]?=some ops[i]:=Array.getElem?_eq_getElem (by omega)
  have hvi:vs[i]?=some vs[i]:=List.getElem?_eq_getElem (by omega)
  have h1:=ih.put hok ho hvi
  rw [List.take_succ_eq_append_getElem (by rw [Array.length_toList];omega),List.take_succ_eq_append_getElem (by omega),runs_snoc _ _ _ _ _ (by simp;omega)]
  have e:(ops.toList[i]'(by rw [Array.length_toList];omega))=ops[i]:=by simp
  rw [e]
  exact ⟨h1.defers,h1.size,fun j o d v ho hd hl=>h1.at_ j o d v ho hd (by omega),fun d hn=>h1.off d fun j o ho hl=>hn j o ho (by omega)⟩
theorem Det.read {Z:Act→World→Prop} {o:Oper} {r:List Oper} {a:Act} {v:Value} (hw:Region.wanted o (yielded ops a.tmps)=true) (hv:∀ w,S w→(execOp a.eval o).run P w=.ok (.value v) w) (h:Det P ops S Z r (a.put o.dst v)):Det P ops S Z (o::r) a :=
 ⟨v,.inl ⟨hw,fun w hS K hK=>by unfold Oper.wp;rw [hv w hS];exact hK _ _ hS rfl⟩,h⟩
theorem Det.skip {Z:Act→World→Prop} {o:Oper} {r:List Oper} {a:Act} (hw:Region.wanted o (yielded ops a.tmps)=false) (h:Det P ops S Z r (a.put o.dst undef)):Det P ops S Z (o::r) a :=
 ⟨undef,.inr ⟨hw,rfl⟩,h⟩
theorem Det.step {Z:Act→World→Prop} {o:Oper} {r:List Oper} {a:Act} (v:Value) (hw:Region.wanted o (yielded ops a.tmps)=true) (hv:∀ w,S w→∀ K:Act→World→Prop,Shut (∀ a' w',S w'→a'=a.put o.dst v→K a' w')→Oper.wp P o a w K NoExit) (h:Det P ops S Z r (a.put o.dst v)):Det P ops S Z (o::r) a :=
 ⟨v,.inl ⟨hw,hv⟩,h⟩
theorem Det.done {Z:Act→World→Prop} {a:Act} (h:∀ w,S w→Z a w):Det P ops S Z [] a:=h
end
/- A region that draws its order,in which some operations (calls,allocs) come to values that hang on the world,each with a law that lasts: walked once,in text order;over any program. -/
section
variable {P:Program} {ops:Array Oper} {G:Type} {S:World→Prop} {T:World→World→Prop} {Fs:Nat→Option ((G→Value) × (G→World→Prop))} {Q:Exit→Act→World→Prop}
def dep (ops:Array Oper):Nat→Nat→Nat→Bool
 | 0,_,_=>false
 | n+1,i,j=>match ops[i]? with
  | none=>false
  | some o=>o.after.any fun e=>Region.binds .any e && (e.on==j || dep ops n e.on j)
theorem dep_listed {listed:Array Bool} (hcl:∀ i o,ops[i]?=some o→listed.getD i false=true→∀ e∈o.after,Region.binds .any e=true→listed.getD e.on false=true) :
  ∀ n i j,(∀ o,ops[i]?=some o→∀ e∈o.after,Region.binds .any e=true→listed.getD e.on false=true)→dep ops n i j=true→listed.getD j false=true
 | 0,i,j,_,h=>by simp [dep] at h
 | n+1,i,j,hi,h=>by
  unfold dep at h
  cases ho:ops[i]? with
  | none=>rw [ho] at h;simp at h
  | some o =>
   rw [ho] at h
   obtain ⟨e,he,hb⟩:=Array.any_eq_true'.1 h
   simp only [Bool.and_eq_true,Bool.or_eq_true,beq_iff_eq] at hb
   have h1:=hi o ho e he hb.1
   rcases hb.2 with h2 | h2
   ·rw [← h2];exact h1
   ·exact dep_listed hcl n e.on j (fun o' ho'=>hcl _ o' ho' h1) h2
def Know (ops:Array Oper) (i:Nat) (Γ:List (Nat × (World→Prop))) (w:World):Prop:=∀ k Ψ,Γ.lookup k=some Ψ→dep ops 8 i k=true→Ψ w
def DetE (P:Program) (ops:Array Oper) (S:World→Prop) (T:World→World→Prop) (Fs:Nat→Option ((G→Value) × (G→World→Prop))) (Z:Act→World→Prop):List Oper→Nat→List (Nat × (World→Prop))→Act→Prop
 | [],_,Γ,a=>∀ w,S w→(∀ k Ψ,Γ.lookup k=some Ψ→Ψ w)→Z a w
 | o::r,i,Γ,a=>(Region.wanted o (yielded ops a.tmps)=false∧DetE P ops S T Fs Z r (i+1) Γ (a.put o.dst undef)) ∨
   (Region.wanted o (yielded ops a.tmps)=true∧match Fs i with
    | none=>∃ v,(∀ w,S w→Know ops i Γ w→(execOp a.eval o).run P w=.ok (.value v) w)∧DetE P ops S T Fs Z r (i+1) Γ (a.put o.dst v)
    | some (f,Φ)=>(∀ w,S w→Know ops i Γ w→∀ K:Act→World→Prop,(∀ x w',S w'→T w w'→Φ x w'→K (a.put o.dst (f x)) w')→Oper.wp P o a w K NoExit) ∧
      ∀ x,DetE P ops S T Fs Z r (i+1) ((i,Φ x)::Γ) (a.put o.dst (f x)))
def KnowG (ops:Array Oper) (Fs:Nat→Option ((G→Value) × (G→World→Prop))) (g:Nat→G) (ws:Nat→Bool) (lo i:Nat) (w:World):Prop :=
 ∀ k f Φ,Fs k=some (f,Φ)→lo≤k→k<i→ws k=true→dep ops 8 i k=true→Φ (g k) w
def ValsE2 (P:Program) (ops:Array Oper) (S:World→Prop) (T:World→World→Prop) (Fs:Nat→Option ((G→Value) × (G→World→Prop))) (Z:Act→World→Prop) (g:Nat→G) (l:List Oper) (i:Nat) (Γ:List (Nat × (World→Prop))) (a:Act) (vs:List Value) (ws:Nat→Bool):Prop :=
  vs.length=l.length ∧
   (∀ n o v,l[n]?=some o→vs[n]?=some v→Region.wanted o (yielded ops (runs (l.take n) (vs.take n) a).tmps)=ws (i+n)∧(ws (i+n)=false→v=undef) ∧
    (ws (i+n)=true→match Fs (i+n) with
     | none=>∀ w,S w→Know ops (i+n) Γ w→KnowG ops Fs g ws i (i+n) w→(execOp (runs (l.take n) (vs.take n) a).eval o).run P w=.ok (.value v) w
     | some (f,Φ)=>v=f (g (i+n))∧∀ w,S w→Know ops (i+n) Γ w→KnowG ops Fs g ws i (i+n) w→∀ K:Act→World→Prop,(∀ x w',S w'→T w w'→Φ x w'→K ((runs (l.take n) (vs.take n) a).put o.dst (f x)) w')→Oper.wp P o (runs (l.take n) (vs.take n) a) w K NoExit)) ∧
   ∀ w,S w→(∀ k Ψ,Γ.lookup k=some Ψ→Ψ w)→(∀ k f Φ,Fs k=some (f,Φ)→i≤k→k<i+l.length→ws k=true→Φ (g k) w)→Z (runs l vs a) w
def ValsE (P:Program) (ops:Array Oper) (S:World→Prop) (T:World→World→Prop) (Fs:Nat→Option ((G→Value) × (G→World→Prop))) (Z:Act→World→Prop) (g:Nat→G) (l:List Oper) (i:Nat) (Γ:List (Nat × (World→Prop))) (a:Act):Prop :=
  ∃ (vs:List Value) (ws:Nat→Bool),ValsE2 P ops S T Fs Z g l i Γ a vs ws
theorem DetE.vals {Z:Act→World→Prop} (g:Nat→G):∀ (l:List Oper) (i:Nat) (Γ:List (Nat × (World→Prop))) (a:Act),DetE P ops S T Fs Z l i Γ a→ValsE P ops S T Fs Z g l i Γ a
 | [],i,Γ,a,h=>⟨[],fun _=>false,rfl,fun n o v ho=>by simp at ho,fun w hS hΓ _=>h w hS hΓ⟩
 | o::r,i,Γ,a,h=>by
  have tail:∀ (Γ':List (Nat × (World→Prop))) (v:Value) (b:Bool),DetE P ops S T Fs Z r (i+1) Γ' (a.put o.dst v) →
    Region.wanted o (yielded ops a.tmps)=b→(b=false→v=undef) →
    (b=true→match Fs i with
     | none=>∀ w,S w→Know ops i Γ w→(execOp a.eval o).run P w=.ok (.value v) w
     | some (f,Φ)=>v=f (g i)∧∀ w,S w→Know ops i Γ w→∀ K:Act→World→Prop,(∀ x w',S w'→T w w'→Φ x w'→K (a.put o.dst (f x)) w')→Oper.wp P o a w K NoExit) →
    (∀ k Ψ,Γ'.lookup k=some Ψ→Γ.lookup k=some Ψ∨(k=i∧b=true∧∃ f Φ,Fs i=some (f,Φ)∧Ψ=Φ (g i)))→ValsE P ops S T Fs Z g (o::r) i Γ a:=by
   intro Γ' v b h' hb hv hs hΓ
   obtain ⟨vs,ws,hl,hi,hz⟩:=DetE.vals g r (i+1) Γ' _ h'
   refine ⟨v::vs,fun k=>if k=i then b else ws k,by simp [hl],fun n o' v' ho hv'=>?_,fun w hS hk hf=>?_⟩
   ·cases n with
    | zero =>
     simp at ho hv'
     subst ho hv'
     simp only [Nat.add_zero,List.take_zero,runs,if_true]
     refine ⟨hb,hv,fun hb1=>?_⟩
     have:=hs hb1
     cases hF:Fs i with
     | none=>rw [hF] at this;exact fun w hS hK _=>this w hS hK
     | some p =>
      obtain ⟨f,Φ⟩:=p
      rw [hF] at this
      exact ⟨this.1,fun w hS hK _=>this.2 w hS hK⟩
    | succ n =>
     simp at ho hv'
     have h1:=hi n o' v' ho hv'
     have e:i+1+n=i+(n+1):=by omega
     rw [e] at h1
     have hne:i+(n+1)≠i:=by omega
     simp only [hne,if_false,List.take_succ_cons,runs]
     refine ⟨h1.1,h1.2.1,fun hw=>?_⟩
     have h2:=h1.2.2 hw
     have know:∀ w,Know ops (i+(n+1)) Γ w→KnowG ops Fs g (fun k=>if k=i then b else ws k) i (i+(n+1)) w→Know ops (i+(n+1)) Γ' w∧KnowG ops Fs g ws (i+1) (i+(n+1)) w:=by
      intro w k1 k2
      refine ⟨fun k Ψ hk hd=>?_,fun k f Φ hF hlo hlt hwk hd=>k2 k f Φ hF (by omega) hlt (by simp only [show k≠i by omega,if_false];exact hwk) hd⟩
      rcases hΓ k Ψ hk with h3 | ⟨rfl,hb1,f,Φ,hF,rfl⟩
      ·exact k1 k Ψ h3 hd
      ·exact k2 k f Φ hF (Nat.le_refl _) (by omega) (by simp [hb1]) hd
     cases hF:Fs (i+(n+1)) with
     | none=>rw [hF] at h2;exact fun w hS k1 k2=>h2 w hS (know w k1 k2).1 (know w k1 k2).2
     | some p =>
      obtain ⟨f,Φ⟩:=p
      rw [hF] at h2
      exact ⟨h2.1,fun w hS k1 k2=>h2.2 w hS (know w k1 k2).1 (know w k1 k2).2⟩
   ·refine hz w hS (fun k Ψ hk'=>?_) (fun k f Φ hF hlo hlt hwk=>hf k f Φ hF (by omega) (by simp;omega) (by simp only [show k≠i by omega,if_false];exact hwk))
    rcases hΓ k Ψ hk' with h3 | ⟨rfl,hb1,f,Φ,hF,rfl⟩
    ·exact hk k Ψ h3
    ·exact hf k f Φ hF (Nat.le_refl _) (by simp) (by simp [hb1])
  rcases h with ⟨hw,h⟩ | ⟨hw,h⟩
  ·exact tail Γ undef false h hw (fun _=>rfl) (fun h=>by cases h) (fun k Ψ hk=>.inl hk)
  ·cases hF:Fs i with
   | none =>
    rw [hF] at h
    obtain ⟨v,hv,h⟩:=h
    exact tail Γ v true h hw (fun h=>by cases h) (fun _=>by rw [hF];exact hv) (fun k Ψ hk=>.inl hk)
   | some p =>
    obtain ⟨f,Φ⟩:=p
    rw [hF] at h
    refine tail ((i,Φ (g i))::Γ) (f (g i)) true (h.2 (g i)) hw (fun h=>by cases h) (fun _=>by rw [hF];exact ⟨rfl,h.1⟩) (fun k Ψ hk=>?_)
    rw [List.lookup_cons] at hk
    by_cases hki:k=i
    ·subst hki
     simp at hk
     exact .inr ⟨rfl,rfl,f,Φ,hF,hk.symm⟩
    ·have:(k==i)=false:=by simpa using hki
     rw [this] at hk
     exact .inl hk
theorem eff_wp {o:Oper} {f:G→Value} {R:G→World→Prop} {a b:Act} {w:World} (h:∀ K:Act→World→Prop,(∀ x w',R x w'→K (a.put o.dst (f x)) w')→Oper.wp P o a w K NoExit)
  (he:execOp b.eval o=execOp a.eval o) (hs:b.tmps.size=a.tmps.size) {K:Act→World→Prop} (hK:∀ x w',R x w'→K (b.put o.dst (f x)) w'):Oper.wp P o b w K Q:=by
 have h0:=h (fun a1 w1=>∃ x,a1=a.put o.dst (f x)∧R x w1) (fun x w' hR=>⟨x,rfl,hR⟩)
 unfold Oper.wp at h0 ⊢
 rw [he]
 generalize (execOp a.eval o).run P w=r at *
 cases r with
 | ok n w' =>
  cases n <;> simp only [Oper.upon] at h0 ⊢
  case value u=>obtain ⟨x,h1,h2⟩:=h0;rw [put_eq h1 hs];exact hK _ _ h2
  case skip=>obtain ⟨x,h1,h2⟩:=h0;rw [put_eq h1 hs];exact hK _ _ h2
  case defer d =>
   obtain ⟨x,h1,_⟩:=h0
   have h1:=congrArg (fun x:Act=>x.defers.length) h1
   cases ho:o.dst <;> simp [Act.put,ho] at h1
  case enter f args =>
   refine Calls.mono h0 fun e w'' hE=>?_
   cases e with
   | returned u=>obtain ⟨x,h1,h2⟩:=hE;show K (b.put o.dst u) w'';rw [put_eq h1 hs];exact hK _ _ h2
   | panicked c=>exact hE.elim
   | outgrown=>obtain ⟨_,_,hE⟩:=hE;exact hE.elim
  case row row args=>exact Rows.mono h0 fun u w'' hE=>by obtain ⟨x,h1,h2⟩:=hE;rw [put_eq h1 hs];exact hK _ _ h2
 | halt x w' =>
  cases x <;> simp only [Oper.upon] at h0
  exact h0.elim
theorem detE_main (hok:detOk ops=true) (a0:Act) (hst:∀ j f Φ x w w',Fs j=some (f,Φ)→S w→S w'→T w w'→Φ x w→Φ x w')
  (vs:(Nat→G)→List Value) (ws:(Nat→G)→Nat→Bool) (hv:∀ g,(vs g).length=ops.size)
  (hi:∀ g n o v,ops[n]?=some o→(vs g)[n]?=some v→Region.wanted o (yielded ops (runs (ops.toList.take n) ((vs g).take n) a0).tmps)=ws g n∧(ws g n=false→v=undef) ∧
    (ws g n=true→match Fs n with
     | none=>∀ w,S w→KnowG ops Fs g (ws g) 0 n w→(execOp (runs (ops.toList.take n) ((vs g).take n) a0).eval o).run P w=.ok (.value v) w
     | some (f,Φ)=>v=f (g n)∧∀ w,S w→KnowG ops Fs g (ws g) 0 n w→∀ K:Act→World→Prop,(∀ x w',S w'→T w w'→Φ x w'→K ((runs (ops.toList.take n) ((vs g).take n) a0).put o.dst (f x)) w')→Oper.wp P o (runs (ops.toList.take n) ((vs g).take n) a0) w K NoExit))
  (hz:∀ g w,S w→(∀ k f Φ,Fs k=some (f,Φ)→k<ops.size→ws g k=true→Φ (g k) w)→Q .normal (runs ops.toList (vs g) a0) w) :
  ∀ (fuel:Nat) (listed:Array Bool) (a:Act) (w:World) (g:Nat→G),listed.size=ops.size→listed.toList.count false≤fuel →
   (∀ i o,ops[i]?=some o→listed.getD i false=true→∀ e∈o.after,Region.binds .any e=true→listed.getD e.on false=true) →
   (∀ g',(∀ j,listed.getD j false=true→g' j=g j)→Agr ops (vs g') a0 (fun i=>listed.getD i false=true) a∧∀ j,listed.getD j false=true→ws g' j=ws g j) →
   (∀ j f Φ,Fs j=some (f,Φ)→listed.getD j false=true→ws g j=true→Φ (g j) w)→S w→wpAny P .any ops Q fuel listed a w:=by
 intro fuel
 have hend:∀ (listed:Array Bool) (a:Act) (w:World) (g:Nat→G),listed.size=ops.size→Agr ops (vs g) a0 (fun i=>listed.getD i false=true) a→S w→(∀ i,i<ops.size→listed.getD i false=true) →
   (∀ j f Φ,Fs j=some (f,Φ)→listed.getD j false=true→ws g j=true→Φ (g j) w)→Q .normal a w:=by
  intro listed a w g hsz hag hS hall hf
  have h1:Agr ops (vs g) a0 (fun j=>j<ops.size) (runs (ops.toList.take ops.size) ((vs g).take ops.size) a0):=agr_runs hok (vs g) (hv g) a0 ops.size (Nat.le_refl _)
  have e1:ops.toList.take ops.size=ops.toList:=List.take_of_length_le (by simp)
  have e2:(vs g).take ops.size=vs g:=List.take_of_length_le (by rw [hv];exact Nat.le_refl _)
  rw [e1,e2] at h1
  rw [hag.eq h1 (hv g) (fun j hj=>⟨fun _=>hj,fun _=>hall j hj⟩)]
  exact hz g w hS (fun k f Φ hF hk hw=>hf k f Φ hF (hall k hk) hw)
 have hready:∀ (listed:Array Bool),listed.size=ops.size→Region.ready .any ops listed=[]→∀ i,i<ops.size→listed.getD i false=true:=by
  intro listed hsz hr i
  induction i using Nat.strongRecOn with
  | _ i ih =>
   intro hi'
   cases hl:listed.getD i false with
   | true=>rfl
   | false =>
    exfalso
    have hm:i∈Region.ready .any ops listed:=by
     refine mem_ready.2 ⟨?_,ops[i],Array.getElem?_eq_getElem hi',fun e he hb=>ih e.on ((detOk_spec hok (Array.getElem?_eq_getElem hi')).1 e he hb) ?_⟩
     ·simp [hsz,hi'] at hl ⊢;exact hl
     ·have:=(detOk_spec hok (Array.getElem?_eq_getElem hi')).1 e he hb;omega
    rw [hr] at hm
    cases hm
 induction fuel with
 | zero =>
  intro listed a w g hsz hc hcl hag hf hS
  have hall:∀ i,i<ops.size→listed.getD i false=true:=fun i hi'=>by
   cases hl:listed.getD i false with
   | true=>rfl
   | false =>
    exfalso
    have:false∈listed.toList:=by
     simp [hsz,hi'] at hl
     rw [← hl];simp
    have:=List.count_pos_iff.2 this
    omega
  refine ⟨?_,hend listed a w g hsz (hag g fun _ _=>rfl).1 hS hall hf⟩
  cases hr:Region.ready .any ops listed with
  | nil=>rfl
  | cons i r =>
   have hm:i∈Region.ready .any ops listed:=by rw [hr];simp
   obtain ⟨hun,o,ho,_⟩:=mem_ready.1 hm
   have hlt:=(Array.getElem?_eq_some_iff.1 ho).1
   have:=hall i hlt
   simp [hsz,hlt] at this hun
   rw [this] at hun;cases hun
 | succ fuel ih =>
  intro listed a w g hsz hc hcl hag hf hS
  refine ⟨fun hr=>hend listed a w g hsz (hag g fun _ _=>rfl).1 hS (hready listed hsz hr) hf,fun i him=>?_⟩
  obtain ⟨hun,o,ho,hall⟩:=mem_ready.1 him
  have hlt:i<ops.size:=(Array.getElem?_eq_some_iff.1 ho).1
  have hlf:listed.getD i false=false:=by simp [hsz,hlt] at hun ⊢;exact hun
  obtain ⟨hord,hsel,hdj⟩:=detOk_spec hok ho
  have hsame:∀ g',(∀ j,listed.getD j false=true→g' j=g j)→execOp a.eval o=execOp (runs (ops.toList.take i) ((vs g').take i) a0).eval o ∧
    Region.wanted o (yielded ops a.tmps)=ws g' i∧a.tmps.size=(runs (ops.toList.take i) ((vs g').take i) a0).tmps.size:=by
   intro g' hg'
   have hag':=(hag g' hg').1
   have hpre:=agr_runs hok (vs g') (hv g') a0 i (by omega)
   have hlook:∀ x∈o.looksAt ops,a.tmps[x]?=(runs (ops.toList.take i) ((vs g').take i) a0).tmps[x]?:=fun x hx=>by
    refine hag'.same hpre (hv g') fun j p hp hd=>?_
    by_cases hij:i=j
    ·subst hij
     rw [hlf];simp
    ·rcases (hdj j p x hp hij hd).2 hx with hw | hw
     ·obtain ⟨e,he,hb⟩:=Array.any_eq_true'.1 hw
      simp only [Bool.and_eq_true,beq_iff_eq] at hb
      have h1:=hall e he hb.1
      have h2:=hord e he hb.1
      rw [hb.2] at h1 h2
      exact ⟨fun _=>h2,fun _=>h1⟩
     ·obtain ⟨e,he,hb⟩:=Array.any_eq_true'.1 hw
      simp only [Bool.and_eq_true,beq_iff_eq] at hb
      have h2:=(detOk_spec hok hp).1 e he hb.1
      refine ⟨fun hl=>?_,fun hl=>by omega⟩
      have:=hcl j p hp hl e he hb.1
      rw [hb.2,hlf] at this;cases this
   refine ⟨?_,?_,hag'.size.trans hpre.size.symm⟩
   ·refine execOp_congr o hsel fun x hx=>?_
    cases x with
    | tmp t =>
     have ht:=hlook t (List.mem_append_left _ (List.mem_filterMap.2 ⟨.tmp t,by simpa using hx,rfl⟩))
     simp only [Act.eval,Array.getD_eq_getD_getElem?,ht]
    | _=>rfl
   ·have hwn:Region.wanted o (yielded ops a.tmps)=Region.wanted o (yielded ops (runs (ops.toList.take i) ((vs g').take i) a0).tmps):=by
     unfold Region.wanted
     cases hg:o.guard with
     | none=>rfl
     | some gw =>
      obtain ⟨gd,want⟩:=gw
      have hy:yielded ops a.tmps gd=yielded ops (runs (ops.toList.take i) ((vs g').take i) a0).tmps gd:=by
       unfold yielded
       cases ht:(ops[gd]?).bind (·.dst) with
       | none=>rfl
       | some t =>
        have:=hlook t (by simp [Oper.looksAt,hg,ht])
        simp [this]
      simp only [hy]
    obtain ⟨v,hvi⟩:∃ v,(vs g')[i]?=some v:=⟨_,List.getElem?_eq_getElem (by rw [hv];exact hlt)⟩
    rw [hwn]
    exact (hi g' i o v ho hvi).1
  have hset:∀ j,(listed.setIfInBounds i true).getD j false=true ↔ (listed.getD j false=true∨j=i):=fun j=>by
   by_cases hji:j=i
   ·subst hji;simp [hsz,hlt]
   ·have:i≠j:=fun e=>hji e.symm
    simp only [Array.getD_eq_getD_getElem?,Array.getElem?_setIfInBounds_ne this]
    simp [hji]
  have hnext:∀ (v:Value) (x:Nat→G) (w':World),S w'→(∀ j,listed.getD j false=true→x j=g j) →
    (∀ g',(∀ j,(listed.setIfInBounds i true).getD j false=true→g' j=x j)→(vs g')[i]?=some v∧ws g' i=ws x i) →
    (∀ j f Φ,Fs j=some (f,Φ)→listed.getD j false=true→ws g j=true→Φ (g j) w') →
    (∀ f Φ,Fs i=some (f,Φ)→ws x i=true→Φ (x i) w')→wpAny P .any ops Q fuel (listed.setIfInBounds i true) (a.put o.dst v) w':=by
   intro v x w' hS' hx hvx hf1 hf2
   refine ih _ _ _ x (by simp [hsz]) ?_ ?_ ?_ ?_ hS'
   ·have h1:listed.toList[i]'(by simpa [hsz] using hlt)=false:=by
     simp [hsz,hlt] at hlf;simpa using hlf
    rw [Array.toList_setIfInBounds,List.count,List.countP_set (by simpa [hsz] using hlt)]
    rw [List.count] at hc
    simp only [h1]
    have hpos:0<listed.toList.countP (·==false):=List.countP_pos_iff.2 ⟨false,by rw [← h1];simp,rfl⟩
    simp only [beq_self_eq_true,if_true]
    have e1:(true==false)=false:=rfl
    rw [e1]
    simp only [Bool.false_eq_true,if_false]
    omega
   ·intro j p hp hl e he hb
    rcases (hset j).1 hl with hl | rfl
    ·exact (hset _).2 (.inl (hcl j p hp hl e he hb))
    ·rw [ho] at hp;cases hp
     exact (hset _).2 (.inl (hall e he hb))
   ·intro g' hg'
    have hgl:∀ j,listed.getD j false=true→g' j=g j:=fun j hj=>(hg' j ((hset j).2 (.inl hj))).trans (hx j hj)
    obtain ⟨h1,h2⟩:=hag g' hgl
    have h3:=h1.put hok ho (hvx g' hg').1
    refine ⟨⟨h3.defers,h3.size,fun j p d v' hp hd hl=>h3.at_ j p d v' hp hd ((hset j).1 hl),fun d hn=>h3.off d fun j p hp hl=>hn j p hp ((hset j).2 hl)⟩,fun j hj=>?_⟩
    rcases (hset j).1 hj with hj | rfl
    ·rw [h2 j hj]
     exact ((hag x hx).2 j hj).symm
    ·exact (hvx g' hg').2
   ·intro j f Φ hF hl hw
    rcases (hset j).1 hl with hl | rfl
    ·rw [hx j hl]
     refine hf1 j f Φ hF hl ?_
     rw [← (hag x hx).2 j hl];exact hw
    ·exact hf2 f Φ hF hw
  have hknow:∀ g',(∀ j,listed.getD j false=true→g' j=g j)→KnowG ops Fs g' (ws g') 0 i w:=by
   intro g' hg' k f Φ hF _ _ hwk hd
   have hl:=dep_listed hcl 8 i k (fun o' ho' e he hb=>by rw [ho] at ho';cases ho';exact hall e he hb) hd
   rw [hg' k hl]
   exact hf k f Φ hF hl (by rw [← (hag g' hg').2 k hl];exact hwk)
  have hws:∀ g',(∀ j,listed.getD j false=true→g' j=g j)→ws g' i=ws g i:=fun g' hg'=>(hsame g' hg').2.1.symm.trans (hsame g fun _ _=>rfl).2.1
  obtain ⟨v,hvi⟩:∃ v,(vs g)[i]?=some v:=⟨_,List.getElem?_eq_getElem (by rw [hv];exact hlt)⟩
  have hg0:=hi g i o v ho hvi
  obtain ⟨s1,s2,s3⟩:=hsame g fun _ _=>rfl
  have sub:∀ {x:Nat→G} {g':Nat→G},(∀ j,(listed.setIfInBounds i true).getD j false=true→g' j=x j)→(∀ j,listed.getD j false=true→x j=g j)→∀ j,listed.getD j false=true→g' j=g j :=
   fun h1 h2 j hj=>(h1 j ((hset j).2 (.inl hj))).trans (h2 j hj)
  unfold wpOp
  simp only [ho]
  cases hwb:ws g i with
  | false =>
   rw [s2,hwb]
   have hu:=hg0.2.1 hwb
   subst hu
   refine hnext undef g w hS (fun _ _=>rfl) (fun g' hg'=>?_) (fun j f Φ hF hl hw=>hf j f Φ hF hl hw) (fun f Φ _ h=>by rw [hwb] at h;cases h)
   have hgl:=sub hg' fun _ _=>rfl
   obtain ⟨v',hvi'⟩:∃ v,(vs g')[i]?=some v:=⟨_,List.getElem?_eq_getElem (by rw [hv];exact hlt)⟩
   have h1:=hi g' i o v' ho hvi'
   have h2:ws g' i=false:=(hws g' hgl).trans hwb
   rw [hvi',h1.2.1 h2]
   exact ⟨rfl,h2.trans hwb.symm⟩
  | true =>
   rw [s2,hwb,if_pos rfl]
   left
   have h0:=hg0.2.2 hwb
   cases hF:Fs i with
   | none =>
    rw [hF] at h0
    have hrun:=h0 w hS (hknow g fun _ _=>rfl)
    unfold Oper.wp
    rw [s1,hrun]
    show wpAny P .any ops Q fuel _ (a.put o.dst v) w
    refine hnext v g w hS (fun _ _=>rfl) (fun g' hg'=>?_) (fun j f Φ hF hl hw=>hf j f Φ hF hl hw) (fun f Φ h _=>by rw [hF] at h;cases h)
    have hgl:=sub hg' fun _ _=>rfl
    obtain ⟨v',hvi'⟩:∃ v,(vs g')[i]?=some v:=⟨_,List.getElem?_eq_getElem (by rw [hv];exact hlt)⟩
    have h1:=hi g' i o v' ho hvi'
    have h2:ws g' i=true:=(hws g' hgl).trans hwb
    have h3:=h1.2.2 h2
    rw [hF] at h3
    have hrun':=h3 w hS (hknow g' hgl)
    rw [← (hsame g' hgl).1,s1,hrun] at hrun'
    injection hrun' with e1
    injection e1 with e1
    rw [hvi',e1]
    exact ⟨rfl,h2.trans hwb.symm⟩
   | some p =>
    obtain ⟨f,Φ⟩:=p
    rw [hF] at h0
    refine eff_wp (R:=fun x w'=>S w'∧T w w'∧Φ x w') (f:=f) (fun K hK=>h0.2 w hS (hknow g fun _ _=>rfl) K fun x w' h1 h2 h3=>hK x w' ⟨h1,h2,h3⟩) s1 s3 ?_
    rintro x w' ⟨hS',hT,hΦ⟩
    have hxl:∀ j,listed.getD j false=true→(fun j=>if j=i then x else g j) j=g j:=fun j hj=>by
     have:j≠i:=fun e=>by rw [e,hlf] at hj;cases hj
     simp [this]
    refine hnext (f x) (fun j=>if j=i then x else g j) w' hS' hxl (fun g' hg'=>?_) (fun j f' Φ' hF' hl hw=>hst j f' Φ' _ _ _ hF' hS hS' hT (hf j f' Φ' hF' hl hw)) (fun f' Φ' h _=>by
     rw [hF] at h
     injection h with h
     injection h with h1 h2
     subst h1 h2
     simpa using hΦ)
    have hgl:=sub hg' hxl
    obtain ⟨v',hvi'⟩:∃ v,(vs g')[i]?=some v:=⟨_,List.getElem?_eq_getElem (by rw [hv];exact hlt)⟩
    have h1:=hi g' i o v' ho hvi'
    have h2:ws g' i=true:=(hws g' hgl).trans hwb
    have h3:=h1.2.2 h2
    rw [hF] at h3
    have h4:=hg' i ((hset i).2 (.inr rfl))
    simp only [if_true] at h4
    rw [hvi',h3.1,h4]
    exact ⟨rfl,h2.trans ((hws _ hxl).trans hwb).symm⟩
theorem wp_region_eff {id:Nat} {a:Act} {w:World} [Inhabited G] (hm:P.follows .mixedOrders=true) (hok:detOk ops=true) (hS:S w.drew)
  (hst:∀ j f Φ x w w',Fs j=some (f,Φ)→S w→S w'→T w w'→Φ x w→Φ x w')
  (h:DetE P ops S T Fs (Q .normal) ops.toList 0 [] a):(Code.region id ops true).wp P Q a w:=by
 obtain ⟨vs,ws,hall⟩:∃ (vs:(Nat→G)→List Value) (ws:(Nat→G)→Nat→Bool),∀ g,ValsE2 P ops S T Fs (Q .normal) g ops.toList 0 [] a (vs g) (ws g) :=
  ⟨fun g=>Classical.choose (DetE.vals g _ _ _ _ h),fun g=>Classical.choose (Classical.choose_spec (DetE.vals g _ _ _ _ h)),fun g=>Classical.choose_spec (Classical.choose_spec (DetE.vals g _ _ _ _ h))⟩
 have hf:∀ i,¬ (Array.replicate ops.size false).getD i false=true:=fun i hi=>by
  by_cases h:i<ops.size <;> simp [h] at hi
 refine wp_region_any hm (detE_main hok a hst vs ws (fun g=>by have:=(hall g).1;simpa using this) (fun g n o v ho hv=>?_) (fun g w hS hk=>?_) ops.size _ a _ (fun _=>default) (by simp) (by simp) ?_ ?_ ?_ hS)
 ·have h1:=(hall g).2.1 n o v (by simpa using ho) hv
  rw [Nat.zero_add] at h1
  refine ⟨h1.1,h1.2.1,fun hw=>?_⟩
  have h2:=h1.2.2 hw
  have hk:∀ w,Know ops n [] w:=fun w k Ψ hk=>by simp at hk
  cases hF:Fs n with
  | none=>rw [hF] at h2;exact fun w hS k2=>h2 w hS (hk w) k2
  | some p =>
   obtain ⟨f,Φ⟩:=p
   rw [hF] at h2
   exact ⟨h2.1,fun w hS k2=>h2.2 w hS (hk w) k2⟩
 ·exact (hall g).2.2 w hS (fun k Ψ hk=>by simp at hk) (fun k f Φ hF _ hlt hw=>hk k f Φ hF (by simpa using hlt) hw)
 ·intro i o _ hl
  exact absurd hl (hf i)
 ·intro g' _
  have:=Agr.start (ops:=ops) (vs g') a
  exact ⟨⟨this.defers,this.size,fun i o d v _ _ h=>absurd h (hf i),fun d _=>rfl⟩,fun j hj=>absurd hj (hf j)⟩
 ·intro j f Φ _ hl
  exact absurd hl (hf j)
theorem DetE.read {Z:Act→World→Prop} {o:Oper} {r:List Oper} {i:Nat} {Γ:List (Nat × (World→Prop))} {a:Act} {v:Value} (hF:Fs i=none) (hw:Region.wanted o (yielded ops a.tmps)=true)
  (hv:∀ w,S w→Know ops i Γ w→(execOp a.eval o).run P w=.ok (.value v) w) (h:DetE P ops S T Fs Z r (i+1) Γ (a.put o.dst v)):DetE P ops S T Fs Z (o::r) i Γ a:=by
 refine .inr ⟨hw,?_⟩
 rw [hF]
 exact ⟨v,hv,h⟩
theorem DetE.skip {Z:Act→World→Prop} {o:Oper} {r:List Oper} {i:Nat} {Γ:List (Nat × (World→Prop))} {a:Act} (hw:Region.wanted o (yielded ops a.tmps)=false) (h:DetE P ops S T Fs Z r (i+1) Γ (a.put o.dst undef)):DetE P ops S T Fs Z (o::r) i Γ a :=
 .inl ⟨hw,h⟩
theorem DetE.eff {Z:Act→World→Prop} {o:Oper} {r:List Oper} {i:Nat} {Γ:List (Nat × (World→Prop))} {a:Act} (f:G→Value) (Φ:G→World→Prop) (hF:Fs i=some (f,Φ)) (hw:Region.wanted o (yielded ops a.tmps)=true)
  (hv:∀ w,S w→Know ops i Γ w→∀ K:Act→World→Prop,Shut (∀ x w',S w'→T w w'→Φ x w'→∀ a',a'=a.put o.dst (f x)→K a' w')→Oper.wp P o a w K NoExit)
  (h:∀ x,DetE P ops S T Fs Z r (i+1) ((i,Φ x)::Γ) (a.put o.dst (f x))):DetE P ops S T Fs Z (o::r) i Γ a:=by
 refine .inr ⟨hw,?_⟩
 rw [hF]
 exact ⟨fun w hS hk K hK=>hv w hS hk K (show Shut _ from fun x w' h1 h2 h3 a' e=>by rw [e];exact hK x w' h1 h2 h3),h⟩
def effs (l:List (Nat × (G→Value) × (G→World→Prop))) (i:Nat):Option ((G→Value) × (G→World→Prop)):=l.lookup i
def Lasts (S:World→Prop) (T:World→World→Prop):List (Nat × (G→Value) × (G→World→Prop))→Prop
 | []=>True
 | p::r=>(∀ x w w',S w→S w'→T w w'→p.2.2 x w→p.2.2 x w')∧Lasts S T r
theorem Lasts.all:∀ (l:List (Nat × (G→Value) × (G→World→Prop))),Lasts S T l→∀ j f Φ x w w',effs l j=some (f,Φ)→S w→S w'→T w w'→Φ x w→Φ x w'
 | [],_,j,f,Φ,x,w,w',hF,_,_,_,_=>by simp [effs] at hF
 | p::r,h,j,f,Φ,x,w,w',hF,hS,hS',hT,hΦ=>by
  obtain ⟨i,q⟩:=p
  unfold effs at hF
  rw [List.lookup_cons] at hF
  by_cases hji:j=i
  ·subst hji
   simp at hF
   subst hF
   exact h.1 x w w' hS hS' hT hΦ
  ·have:(j==i)=false:=by simpa using hji
   rw [this] at hF
   exact Lasts.all r h.2 j f Φ x w w' hF hS hS' hT hΦ
theorem wp_region_below {id:Nat} {a:Act} {w:World} (l:List (Nat × (Option Addr × Nat→Value) × (Option Addr × Nat→World→Prop))) (hm:P.follows .mixedOrders=true) (hok:detOk ops=true)
  (hl:Lasts (fun w'=>Below w.heap.size w w') (fun wa wb=>Below wa.heap.size wa wb) l)
  (h:DetE P ops (fun w'=>Below w.heap.size w w') (fun wa wb=>Below wa.heap.size wa wb) (effs l) (Q .normal) ops.toList 0 [] a):(Code.region id ops true).wp P Q a w :=
 wp_region_eff hm hok (Below.refl _ _).drew (Lasts.all l hl) h
theorem DetE.done {Z:Act→World→Prop} {i:Nat} {Γ:List (Nat × (World→Prop))} {a:Act} (h:∀ w,S w→(∀ k Ψ,Γ.lookup k=some Ψ→Ψ w)→Z a w):DetE P ops S T Fs Z [] i Γ a:=h
end
end Go.Proofs.YtlnnjdibkbabiaaGreatDoor
