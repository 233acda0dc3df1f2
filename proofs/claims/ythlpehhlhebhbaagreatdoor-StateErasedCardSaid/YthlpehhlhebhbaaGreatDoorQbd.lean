/- Contracts and plain laws, joined: StL, StM, StEp, StR. -/
import Derived.Test.YthlpehhlhebhbaaGreatDoorQaz
import Derived.Test.YthlpehhlhebhbaaGreatDoorQbc
/- The texts of events and states,and how they are read: plain laws (layers 14,46). -/
set_option linter.unusedSimpArgs false
set_option linter.unusedVariables false
namespace Go.Proofs.YthlpehhlhebhbaaGreatDoor
open Go.RowKit
set_option maxRecDepth 100000
/-! An event. -/
abbrev rdN (s:RS):Int × RS:=rNum 59 0 s
abbrev rdI (s:RS):Int × RS:=rNum 59 (-9223372036854775808) s
abbrev rdIs (s:RS):List Int × RS:=rItems (rNum 59 (-9223372036854775808)) s
def textRaw (e:EvM):List UInt8 :=
 encN e.kind++encN e.author++encN e.seq++encL encI e.causes++encN e.group++encI e.target++encI e.quote++encI e.who++encN e.n++encN e.step++encL encI e.files++encT e.text.data.toList
def textE (e:EvM):List UInt8:=if rightE e=true then textRaw e else []
structure RawE where
 ev:EvM
 s:RS
def rawEv (s0:RS):RawE :=
 let k:=rdN s0
 let a:=rdN k.2
 let q:=rdN a.2
 let c:=rdIs q.2
 let g:=rdN c.2
 let t:=rdI g.2
 let u:=rdI t.2
 let h:=rdI u.2
 let n:=rdN h.2
 let p:=rdN n.2
 let f:=rdIs p.2
 let x:=rText f.2
 ⟨⟨a.1,q.1,c.1,k.1,g.1,t.1,u.1,h.1,n.1,bs x.1,f.1,p.1⟩,x.2⟩
def zEv:EvM:=⟨0,0,[],0,0,0,0,0,0,ByteArray.empty,[],0⟩
def readE (t:List UInt8):EvM × Int:=if rDone (rawEv ⟨t,false⟩).s=true∧rightE (rawEv ⟨t,false⟩).ev=true then ((rawEv ⟨t,false⟩).ev,0) else (zEv,2)
theorem filesGo_in:∀ (l pre:List Int),filesGo pre l=true→∀ x∈l,0≤x∧x<1073741825
 | [],_,_,x,hx=>by cases hx
 | n::r,pre,h,x,hx=>by
  simp only [filesGo,Bool.and_eq_true,belowB,decide_eq_true_eq] at h
  rcases List.mem_cons.1 hx with rfl | hx
  ·exact h.1
  ·exact filesGo_in r _ h.2.2 x hx
theorem causesGo_in:∀ (l:List Int) (p:Option Int),causesGo p l=true→∀ x∈l,0≤x∧x<100000
 | [],_,_,x,hx=>by cases hx
 | n::r,none,h,x,hx=>by
  simp only [causesGo,Bool.and_eq_true,belowB,decide_eq_true_eq] at h
  rcases List.mem_cons.1 hx with rfl | hx
  ·exact h.1
  ·exact causesGo_in r _ h.2 x hx
 | n::r,some p,h,x,hx=>by
  simp only [causesGo,Bool.and_eq_true,belowB,decide_eq_true_eq] at h
  rcases List.mem_cons.1 hx with rfl | hx
  ·exact h.1
  ·exact causesGo_in r _ h.2.2 x hx
theorem kind_facts {e:EvM} (h:fieldsB e=true):0≤e.kind∧e.kind≤9∧(hasN e.kind=true→0≤e.n∧e.n≤100)∧(hasW e.kind=true→-1≤e.who∧e.who<2000):=by
 unfold fieldsB at h
 simp only [hasN,hasW,Bool.or_eq_true,beq_iff_eq]
 split at h
 ·simp only [Bool.and_eq_true,maybeB,belowB,Bool.or_eq_true,beq_iff_eq,decide_eq_true_eq] at h
  omega
 split at h
 ·omega
 split at h
 ·simp only [belowB,Bool.and_eq_true,decide_eq_true_eq] at h
  omega
 split at h
 ·simp only [belowB,Bool.and_eq_true,decide_eq_true_eq] at h
  omega
 split at h
 ·simp only [belowB,Bool.and_eq_true,decide_eq_true_eq] at h
  omega
 ·simp only [Bool.or_eq_true,beq_iff_eq] at h
  omega
structure NumsE (e:EvM):Prop where
 kind:0≤e.kind∧e.kind≤9
 author:0≤e.author∧e.author<2000
 seq:0≤e.seq∧e.seq<100000
 group:0≤e.group∧e.group<500
 step:0≤e.step∧e.step<1073741825
 target:-1≤e.target∧e.target<100000
 quote:-1≤e.quote∧e.quote<100000
 who:-1≤e.who∧e.who<2000
 n:0≤e.n∧e.n≤100
 causes:∀ x∈e.causes,0≤x∧x<100000
 files:∀ x∈e.files,0≤x∧x<1073741825
 cl:e.causes.length≤8
 fl:e.files.length≤4
 text:e.text.size≤4000
theorem right_nums {e:EvM} (h:rightE e=true):NumsE e:=by
 have hr:=right_facts h
 unfold rightE headE at h
 simp only [Bool.and_eq_true,decide_eq_true_eq] at h
 obtain ⟨hc,⟨_,_,hg,hst⟩,_,hf,ht,hfi,hs⟩:=h
 have hsp:=(sameE_iff _ _).1 hs
 have hn:e.n=if hasN e.kind=true then e.n else 0:=congrArg EvM.n hsp
 have hw:e.who=if hasW e.kind=true then e.who else -1:=congrArg EvM.who hsp
 have hk:=kind_facts hf
 simp only [belowB,Bool.and_eq_true,decide_eq_true_eq] at hg hst
 refine ⟨⟨hk.1,hk.2.1⟩,hr.1,hr.2.1,hg,hst,hr.2.2.1,hr.2.2.2.1,?_,?_,causesGo_in _ _ hc,?_,hr.2.2.2.2.1,hr.2.2.2.2.2,ht⟩
 ·by_cases h:hasW e.kind=true
  ·exact hk.2.2.2 h
  ·rw [if_neg h] at hw;omega
 ·by_cases h:hasN e.kind=true
  ·exact hk.2.2.1 h
  ·rw [if_neg h] at hn;omega
 ·unfold filesB at hfi
  simp only [Bool.and_eq_true] at hfi
  exact filesGo_in _ _ hfi.1
theorem encN_pos {n:Int} (h:0≤n):encN n=encI n:=by unfold encN;rw [if_neg (by omega)]
theorem encN_len (n:Int) (hn:InInt n):(encN n).length≤22:=by
 unfold encN
 split
 ·simp
 ·exact encI_len n hn
theorem rdN_back {n:Int} (h:0≤n) (h2:n≤9223372036854775807) (tl:List UInt8):rdN ⟨encN n++tl,false⟩=(n,⟨tl,false⟩):=by
 rw [encN_pos h]
 exact rInt_back ⟨by omega,h2⟩ h tl
theorem rdI_back {n:Int} (h:InInt n) (tl:List UInt8):rdI ⟨encI n++tl,false⟩=(n,⟨tl,false⟩):=rInt_back h h.1 tl
theorem rdIs_back {l:List Int} (hl:l.length≤1000000) (h:∀ x∈l,InInt x) (tl:List UInt8):rdIs ⟨encL encI l++tl,false⟩=(l,⟨tl,false⟩) :=
 rItems_back _ encI l tl ⟨by omega,by omega⟩ fun x hx tl=>rdI_back (h x hx) tl
theorem rawEv_back {e:EvM} (h:rightE e=true) (tl:List UInt8):rawEv ⟨textRaw e++tl,false⟩=⟨e,⟨tl,false⟩⟩:=by
 have N:=right_nums h
 unfold rawEv textRaw
 simp only [List.append_assoc]
 rw [rdN_back N.kind.1 (by have:=N.kind.2;omega)]
 simp only
 rw [rdN_back N.author.1 (by have:=N.author.2;omega)]
 simp only
 rw [rdN_back N.seq.1 (by have:=N.seq.2;omega)]
 simp only
 rw [rdIs_back (by have:=N.cl;omega) (fun x hx=>by have:=N.causes x hx;exact ⟨by omega,by omega⟩)]
 simp only
 rw [rdN_back N.group.1 (by have:=N.group.2;omega)]
 simp only
 rw [rdI_back ⟨by have:=N.target;omega,by have:=N.target;omega⟩]
 simp only
 rw [rdI_back ⟨by have:=N.quote;omega,by have:=N.quote;omega⟩]
 simp only
 rw [rdI_back ⟨by have:=N.who;omega,by have:=N.who;omega⟩]
 simp only
 rw [rdN_back N.n.1 (by have:=N.n.2;omega)]
 simp only
 rw [rdN_back N.step.1 (by have:=N.step.2;omega)]
 simp only
 rw [rdIs_back (by have:=N.fl;omega) (fun x hx=>by have:=N.files x hx;exact ⟨by omega,by omega⟩)]
 simp only
 rw [rText_back _ _ (by have h1:=N.text;have h2:e.text.data.toList.length=e.text.size:=rfl;exact ⟨by omega,by omega⟩)]
 rfl
theorem readE_back {e:EvM} (h:rightE e=true):readE (textE e)=(e,0):=by
 have h1:=rawEv_back h []
 rw [List.append_nil] at h1
 unfold readE textE
 rw [if_pos h,h1,if_pos ⟨rfl,h⟩]
theorem textE_len (e:EvM):(textE e).length≤5000:=by
 unfold textE
 split
 ·rename_i h
  have N:=right_nums h
  have i1:=encI_len e.target ⟨by have:=N.target;omega,by have:=N.target;omega⟩
  have i2:=encI_len e.quote ⟨by have:=N.quote;omega,by have:=N.quote;omega⟩
  have i3:=encI_len e.who ⟨by have:=N.who;omega,by have:=N.who;omega⟩
  have n1:=encI_len e.kind ⟨by have:=N.kind;omega,by have:=N.kind;omega⟩
  have n2:=encI_len e.author ⟨by have:=N.author;omega,by have:=N.author;omega⟩
  have n3:=encI_len e.seq ⟨by have:=N.seq;omega,by have:=N.seq;omega⟩
  have n4:=encI_len e.group ⟨by have:=N.group;omega,by have:=N.group;omega⟩
  have n5:=encI_len e.n ⟨by have:=N.n;omega,by have:=N.n;omega⟩
  have n6:=encI_len e.step ⟨by have:=N.step;omega,by have:=N.step;omega⟩
  have l1:=flat_bound encI 22 e.causes (fun x hx=>encI_len x (by have:=N.causes x hx;exact ⟨by omega,by omega⟩))
  have l2:=flat_bound encI 22 e.files (fun x hx=>encI_len x (by have:=N.files x hx;exact ⟨by omega,by omega⟩))
  have k1:=Lib.itoa_length_le e.causes.length (by omega) (by have:=N.cl;omega)
  have k2:=Lib.itoa_length_le e.files.length (by omega) (by have:=N.fl;omega)
  have ht:e.text.data.toList.length=e.text.size:=rfl
  have t1:=encT_len e.text.data.toList ⟨by omega,by have:=N.text;omega⟩
  have:=N.cl
  have:=N.fl
  have:=N.text
  unfold textRaw
  rw [encN_pos N.kind.1,encN_pos N.author.1,encN_pos N.seq.1,encN_pos N.group.1,encN_pos N.n.1,encN_pos N.step.1]
  simp only [List.length_append,encL,List.length_cons,List.length_nil]
  omega
 ·simp
/-! Lists of a state. -/
def numsL (l:List Int):List UInt8:=l.flatMap encN
def lstE {T:Type} (one:T→List UInt8) (l:List T):List UInt8:=encN l.length++l.flatMap one
def rdGo {T:Type} (one:RS→T × RS):Nat→RS→List T→List T × RS
 | 0,s,out=>(out,s)
 | n+1,s,out=>if s.rest=[] then (out,s) else rdGo one n (one s).2 (out++[(one s).1])
def rdLs {T:Type} (one:RS→T × RS) (s:RS):List T × RS:=rdGo one (rdN s).1.toNat (rdN s).2 []
theorem rdGo_nil {T:Type} (one:RS→T × RS) (n:Nat) (s:RS) (out:List T) (h:s.rest=[]):rdGo one n s out=(out,s):=by
 cases n <;> simp [rdGo,h]
theorem rdGo_go {T:Type} (one:RS→T × RS) (n:Nat) (s:RS) (out:List T) (h:s.rest≠[]):rdGo one (n+1) s out=rdGo one n (one s).2 (out++[(one s).1]):=by
 simp [rdGo,h]
theorem rdGo_back {T:Type} (one:RS→T × RS) (enc:T→List UInt8):∀ (l:List T) (tl:List UInt8) (out:List T),(∀ x∈l,enc x≠[])→(∀ x∈l,∀ tl,one ⟨enc x++tl,false⟩=(x,⟨tl,false⟩)) →
  rdGo one l.length ⟨l.flatMap enc++tl,false⟩ out=(out++l,⟨tl,false⟩)
 | [],tl,out,_,_=>by simp [rdGo]
 | x::l,tl,out,hn,h=>by
  have h1:=h x (by simp) (l.flatMap enc++tl)
  have e:(x::l).flatMap enc++tl=enc x++(l.flatMap enc++tl):=by simp
  rw [List.length_cons,rdGo_go _ _ _ _ (by rw [e];simp [hn x (by simp)]),e,h1]
  simp only
  rw [rdGo_back one enc l tl _ (fun y hy=>hn y (by simp [hy])) (fun y hy=>h y (by simp [hy]))]
  simp
theorem rdLs_back {T:Type} (one:RS→T × RS) (enc:T→List UInt8) (l:List T) (tl:List UInt8) (hl:l.length≤9223372036854775807) (hn:∀ x∈l,enc x≠[]) (h:∀ x∈l,∀ tl,one ⟨enc x++tl,false⟩=(x,⟨tl,false⟩)) :
  rdLs one ⟨lstE enc l++tl,false⟩=(l,⟨tl,false⟩):=by
 unfold rdLs lstE
 rw [List.append_assoc,rdN_back (by omega) (by omega)]
 simp only [Int.toNat_natCast]
 rw [rdGo_back one enc l tl [] hn h]
 simp
def EatsN {T:Type} (one:RS→T × RS):Prop:=∀ s,s.rest≠[]→(one s).2.rest.length+1≤s.rest.length
theorem rNum_eatsN (e:UInt8) (m:Int) (s:RS) (h:s.rest≠[]):(rNum e m s).2.rest.length+1≤s.rest.length:=by
 have hl:0<s.rest.length:=List.length_pos_iff.2 h
 have h1:=indexByte_in (s.rest.take 21) e
 have h2:(s.rest.take 21).length≤s.rest.length:=by simp;omega
 unfold rNum RS.fail
 simp only
 split
 ·exact hl
 ·have h3:=h1 (by omega)
  split
  ·split
   ·show (s.rest.drop ((Lib.indexByte (s.rest.take 21) e).toNat+1)).length+1≤_
    rw [List.length_drop]
    omega
   ·exact hl
  ·exact hl
theorem rText_eatsN (s:RS) (h:s.rest≠[]):(rText s).2.rest.length+1≤s.rest.length:=by
 have h1:=rNum_eatsN 58 0 s h
 have h2:(rText s).2.rest.length≤(rNum 58 0 s).2.rest.length:=by
  have h2:=rClose_rest 44 ⟨(rNum 58 0 s).2.rest.drop (rNum 58 0 s).1.toNat,(rNum 58 0 s).2.bad⟩
  simp only [List.length_drop] at h2
  unfold rText
  simp only
  split
  ·simp [RS.fail]
  ·split
   ·show (rClose _ _).rest.length≤_;omega
   ·show (rClose _ _).rest.length≤_;omega
 omega
theorem rdGo_len {T:Type} {one:RS→T × RS} (h:EatsN one):∀ (n:Nat) (s:RS) (out:List T),(rdGo one n s out).1.length+(rdGo one n s out).2.rest.length≤out.length+s.rest.length
 | 0,s,out=>by simp [rdGo]
 | n+1,s,out=>by
  by_cases hs:s.rest=[]
  ·rw [rdGo_nil _ _ _ _ hs]
   exact Nat.le_refl _
  ·rw [rdGo_go _ _ _ _ hs]
   have h1:=rdGo_len h n (one s).2 (out++[(one s).1])
   have h2:=h s hs
   simp only [List.length_append,List.length_cons,List.length_nil] at h1
   omega
theorem rdLs_len {T:Type} {one:RS→T × RS} (h:EatsN one) (s:RS):(rdLs one s).1.length+(rdLs one s).2.rest.length≤s.rest.length:=by
 have h1:=rdGo_len h (rdN s).1.toNat (rdN s).2 []
 have h2:(rdN s).2.rest.length≤s.rest.length:=rNum_rest 59 0 s
 unfold rdLs
 simp only [List.length_nil] at h1
 omega
theorem rdGo_all {T:Type} (one:RS→T × RS) (p:T→Prop) (h:∀ s,p (one s).1):∀ (n:Nat) (s:RS) (out:List T),(∀ x∈out,p x)→∀ x∈(rdGo one n s out).1,p x
 | 0,s,out,ho=>by simpa [rdGo] using ho
 | n+1,s,out,ho=>by
  rw [rdGo]
  split
  ·exact ho
  ·refine rdGo_all one p h n _ _ fun x hx=>?_
   rcases List.mem_append.1 hx with hx | hx
   ·exact ho x hx
   ·simp only [List.mem_singleton] at hx;subst hx;exact h s
theorem rdLs_all {T:Type} (one:RS→T × RS) (p:T→Prop) (h:∀ s,p (one s).1) (s:RS):∀ x∈(rdLs one s).1,p x:=rdGo_all one p h _ _ _ (by simp)
theorem rdLs_rest {T:Type} {one:RS→T × RS} (h:EatsN one) (s:RS):(rdLs one s).2.rest.length≤s.rest.length:=by
 have:=rdLs_len h s
 omega
def one2 (s:RS):D2 × RS:=(⟨(rdN s).1,(rdN (rdN s).2).1⟩,(rdN (rdN s).2).2)
def one3 (s:RS):D3 × RS:=(⟨(rdN s).1,(rdN (rdN s).2).1,(rdN (rdN (rdN s).2).2).1⟩,(rdN (rdN (rdN s).2).2).2)
def one4 (s:RS):D4 × RS:=(⟨(rdN s).1,(rdN (rdN s).2).1,(rdN (rdN (rdN s).2).2).1,(rdN (rdN (rdN (rdN s).2).2).2).1⟩,(rdN (rdN (rdN (rdN s).2).2).2).2)
def oneH (s:RS):D4 × RS:=(⟨(rdN s).1,(rdN (rdN s).2).1,(rdN (rdN (rdN s).2).2).1,(rdI (rdN (rdN (rdN s).2).2).2).1⟩,(rdI (rdN (rdN (rdN s).2).2).2).2)
def oneB (s:RS):E3 × RS:=(⟨(rdN s).1,(rdN (rdN s).2).1,(rdN (rdN (rdN s).2).2).1==1⟩,(rdN (rdN (rdN s).2).2).2)
def one5 (s:RS):E5 × RS:=(⟨(rdN s).1,(rdN (rdN s).2).1,(rdN (rdN (rdN s).2).2).1,(rdN (rdN (rdN (rdN s).2).2).2).1,(rdN (rdN (rdN (rdN (rdN s).2).2).2).2).1==1⟩,(rdN (rdN (rdN (rdN (rdN s).2).2).2).2).2)
def oneE (s:RS):EvM × RS:=((readE (rText s).1).1,(rText s).2)
theorem eats_fst {s q r:RS} (h1:q.rest.length+1≤s.rest.length) (h2:r.rest.length≤q.rest.length):r.rest.length+1≤s.rest.length:=by omega
theorem one2_eats:EatsN one2:=fun s h=>eats_fst (rNum_eatsN 59 0 s h) (rNum_rest _ _ _)
theorem one3_eats:EatsN one3:=fun s h=>eats_fst (rNum_eatsN 59 0 s h) (Nat.le_trans (rNum_rest _ _ _) (rNum_rest _ _ _))
theorem one4_eats:EatsN one4:=fun s h=>eats_fst (rNum_eatsN 59 0 s h) (Nat.le_trans (rNum_rest _ _ _) (Nat.le_trans (rNum_rest _ _ _) (rNum_rest _ _ _)))
theorem oneH_eats:EatsN oneH:=fun s h=>eats_fst (rNum_eatsN 59 0 s h) (Nat.le_trans (rNum_rest _ _ _) (Nat.le_trans (rNum_rest _ _ _) (rNum_rest _ _ _)))
theorem oneB_eats:EatsN oneB:=fun s h=>eats_fst (rNum_eatsN 59 0 s h) (Nat.le_trans (rNum_rest _ _ _) (rNum_rest _ _ _))
theorem one5_eats:EatsN one5:=fun s h=>eats_fst (rNum_eatsN 59 0 s h) (Nat.le_trans (rNum_rest _ _ _) (Nat.le_trans (rNum_rest _ _ _) (Nat.le_trans (rNum_rest _ _ _) (rNum_rest _ _ _))))
theorem oneE_eats:EatsN oneE:=fun s h=>rText_eatsN s h
theorem rdL5_eats:EatsN (rdLs one5):=fun s h=>by
 have h1:(rdN s).2.rest.length+1≤s.rest.length:=rNum_eatsN 59 0 s h
 have h2:=rdGo_len one5_eats (rdN s).1.toNat (rdN s).2 []
 unfold rdLs
 simp only [List.length_nil] at h2
 show (rdGo one5 (rdN s).1.toNat (rdN s).2 []).2.rest.length+1≤_
 omega
/-! A state. -/
structure StP where
 step:Int
 events:List EvM
 queue:List D4
 sent:List D3
 refused:List D2
 pairs:List D4
 proofs:List D3
 notes:List (List E5)
 bad:List E3
 holds:List D4
 orders:List D4
 sealed:List D3
 debts:List D2
def StP.lift (p:StP):Stt:=⟨p.step,p.events.map (fun e=>⟨e,none,0,none,0⟩),p.queue,p.sent,p.refused,p.pairs,p.proofs,p.notes.map (fun l=>⟨l,none,0⟩),p.bad,p.holds,p.orders,p.sealed,p.debts⟩
def Stt.pl (s:Stt):StP:=⟨s.step,evsL s.events,s.queue,s.sent,s.refused,s.pairs,s.proofs,s.notes.map (·.l),s.bad,s.holds,s.orders,s.sealed,s.debts⟩
def stateP (p:StP):Bool:=stateB p.lift
theorem stateB_pl (s:Stt):stateB s=stateP s.pl:=by
 have h1:evsL (s.pl.lift.events)=evsL s.events:=by simp [StP.lift,Stt.pl,evsL,List.map_map,Function.comp_def]
 have h2:s.pl.lift.events.length=s.events.length:=by simp [StP.lift,Stt.pl]
 have h3:∀ P,s.pl.lift.notes.all (noteOk P)=s.notes.all (noteOk P):=fun P=>by
  simp only [StP.lift,Stt.pl,List.map_map,List.all_map]
  rfl
 have h4:s.pl.lift.notes.length=s.notes.length:=by simp [StP.lift,Stt.pl]
 unfold stateP stateB notedB
 rw [h1,h2,h3,h4]
 rfl
def encD2 (x:D2):List UInt8:=numsL [x.a,x.b]
def encD3 (x:D3):List UInt8:=numsL [x.a,x.b,x.c]
def encD4 (x:D4):List UInt8:=numsL [x.a,x.b,x.c,x.d]
def encH (x:D4):List UInt8:=numsL [x.a,x.b,x.c]++encI x.d
def encE3 (x:E3):List UInt8:=numsL [x.a,x.b,bitI x.t]
def encE5 (x:E5):List UInt8:=numsL [x.a,x.b,x.c,x.d,bitI x.t]
def encEv (e:EvM):List UInt8:=encT (textE e)
theorem numsL_len (l:List Int) (h:∀ x∈l,InInt x):(numsL l).length≤l.length * 22:=flat_bound encN 22 l (fun x hx=>encN_len x (h x hx))
theorem encEv_len (e:EvM):(encEv e).length≤5030:=by
 have h:=textE_len e
 have:=encT_len (textE e) ⟨by omega,by omega⟩
 unfold encEv
 omega
def partsP (p:StP):List (List UInt8):=[encN p.step,lstE encEv p.events,lstE encD4 p.queue,lstE encD3 p.sent,lstE encD2 p.refused,lstE encD4 p.pairs,lstE encD3 p.proofs,lstE (lstE encE5) p.notes,lstE encE3 p.bad,lstE encH p.holds,lstE encD4 p.orders,lstE encD3 p.sealed,lstE encD2 p.debts]
def bodyP (p:StP):List UInt8:=(partsP p).flatMap id
def textP (p:StP):List UInt8:=if stateP p=true then bodyP p else []
def rawP (s0:RS):StP × RS :=
 let a:=rdN s0
 let e:=rdLs oneE a.2
 let q:=rdLs one4 e.2
 let s:=rdLs one3 q.2
 let r:=rdLs one2 s.2
 let p:=rdLs one4 r.2
 let f:=rdLs one3 p.2
 let n:=rdLs (rdLs one5) f.2
 let b:=rdLs oneB n.2
 let h:=rdLs oneH b.2
 let o:=rdLs one4 h.2
 let x:=rdLs one3 o.2
 let d:=rdLs one2 x.2
 (⟨a.1,e.1,q.1,s.1,r.1,p.1,f.1,n.1,b.1,h.1,o.1,x.1,d.1⟩,d.2)
def zStP:StP:=⟨0,[],[],[],[],[],[],[],[],[],[],[],[]⟩
def readP (t:List UInt8):StP × Int:=if rDone (rawP ⟨t,false⟩).2=true∧t≠[]∧textP (rawP ⟨t,false⟩).1=t then ((rawP ⟨t,false⟩).1,0) else (zStP,2)
structure NumsP (p:StP):Prop where
 ev:p.events.length≤1000000
 sealed:∀ x∈p.sealed,x.c≤9223372036854775807
 holds:∀ x∈p.holds,x.a≤9223372036854775807∧x.b≤9223372036854775807
 l1:p.queue.length≤1000000
 l2:p.sent.length≤1000000
 l3:p.refused.length≤1000000
 l4:p.pairs.length≤1000000
 l5:p.proofs.length≤1000000
 l6:p.notes.length≤1000000
 l7:p.bad.length≤1000000
 l8:p.holds.length≤1000000
 l9:p.orders.length≤1000000
 la:p.sealed.length≤1000000
 lb:p.debts.length≤1000000
/- What is written of a state is read back: the plain law (layer 46). -/
theorem openGo_right:∀ (l L:List EvM),openGo L l=0→∀ e∈l,rightE e=true
 | [],_,_,e,he=>by cases he
 | x::r,L,h,e,he=>by
  rw [openGo] at h
  by_cases h0:stepC L x≠0
  ·rw [if_pos h0] at h;exact absurd h h0
  ·rw [if_neg h0] at h
   rcases List.mem_cons.1 he with rfl | he
   ·cases hr:rightE e with
    | true=>rfl
    | false=>exact absurd (by unfold stepC;rw [if_pos hr];decide) h0
   ·exact openGo_right r _ h e he
theorem toB_iff {n a b:Int}:toB n a b=true ↔ a≤n∧n≤b:=by simp [toB]
structure RightP (p:StP):Prop where
 ev:∀ e∈p.events,rightE e=true
 step:0≤p.step∧p.step≤1073741824
 queue:∀ x∈p.queue,okc1 (idB p.events.length) x=true
 sent:∀ x∈p.sent,okc2 (idB p.events.length) x=true
 refused:∀ x∈p.refused,okc3 (idB p.events.length) x=true
 pairs:∀ x∈p.pairs,validP (prD x)=true
 proofs:∀ x∈p.proofs,okn1 x=true
 notes:∀ l∈p.notes,l.length≤1000∧∀ x∈l,okn3 (idB p.events.length) x=true
 bad:∀ x∈p.bad,toB x.a 0 1073741824=true∧toB x.b 0 1073741824=true
 holds:∀ x∈p.holds,hoOk x=true
 orders:∀ x∈p.orders,oka1 (idB p.events.length) x=true
 sealed:∀ x∈p.sealed,oka2 (idB p.events.length) x=true
 debts:∀ x∈p.debts,okc3 (idB p.events.length) x=true
theorem rightGo_valid:∀ (l pre:List Pair),rightGo pre l=true→∀ x∈l,validP x=true
 | [],_,_,x,hx=>by cases hx
 | y::r,pre,h,x,hx=>by
  simp only [rightGo,Bool.and_eq_true] at h
  rcases List.mem_cons.1 hx with rfl | hx
  ·exact h.1.1
  ·exact rightGo_valid r _ h.2 x hx
theorem stateP_right {p:StP} (h:stateP p=true):RightP p:=by
 unfold stateP stateB carriedB notedB askedB badB holdsB debtsB at h
 have e1:evsL p.lift.events=p.events:=by simp [StP.lift,evsL,List.map_map,Function.comp_def]
 have e2:p.lift.events.length=p.events.length:=by simp [StP.lift]
 rw [e1,e2] at h
 simp only [Bool.and_eq_true,beq_iff_eq,toB_iff] at h
 obtain ⟨h1,h2,⟨h3,h4,h5,_⟩,h6,⟨h7,h8,⟨h9,_⟩,_⟩,⟨h10,_⟩,h11,h12,h13,_⟩:=h
 refine ⟨openGo_right _ _ h1,h2,List.all_eq_true.1 h3,List.all_eq_true.1 h4,List.all_eq_true.1 h5,fun x hx=>?_,List.all_eq_true.1 h7,fun l hl=>?_,fun x hx=>?_,List.all_eq_true.1 h10,List.all_eq_true.1 h11,List.all_eq_true.1 h12,List.all_eq_true.1 h13⟩
 ·exact rightGo_valid _ _ h6 _ (List.mem_map.2 ⟨x,hx,rfl⟩)
 ·have:=List.all_eq_true.1 h8 ⟨l,none,0⟩ (List.mem_map.2 ⟨l,hl,rfl⟩)
  unfold noteOk at this
  simp only [Bool.and_eq_true,decide_eq_true_eq] at this
  exact ⟨this.1,List.all_eq_true.1 this.2⟩
 ·have:=List.all_eq_true.1 h9 x hx
  simpa using this
theorem encN_ne {n:Int} (h:0≤n) (r:List UInt8):encN n++r≠[]:=by rw [encN_pos h];simp [encI]
theorem numsL_cons (n:Int) (l:List Int):numsL (n::l)=encN n++numsL l:=rfl
theorem numsL_nil:numsL []=[]:=rfl
theorem idB_iff {n:Nat} {i:Int}:idB n i=true ↔ 0≤i∧i<n:=by
 unfold idB
 rw [toB_iff]
 omega
theorem back_queue {n:Nat} (hn:n≤1000000000000) {x:D4} (h:okc1 (idB n) x=true):encD4 x≠[]∧∀ tl,one4 ⟨encD4 x++tl,false⟩=(x,⟨tl,false⟩):=by
 simp only [okc1,Bool.and_eq_true,toB_iff,idB_iff] at h
 have g0:0≤x.a∧x.a≤9223372036854775807:=by omega
 have g1:0≤x.b∧x.b≤9223372036854775807:=by omega
 have g2:0≤x.c∧x.c≤9223372036854775807:=by omega
 have g3:0≤x.d∧x.d≤9223372036854775807:=by omega
 obtain ⟨a,b,c,d⟩:=x
 simp only at g0 g1 g2 g3
 unfold encD4
 simp only [numsL_cons,numsL_nil,List.append_assoc,List.append_nil,List.nil_append]
 refine ⟨encN_ne g0.1 _,fun tl=>?_⟩
 unfold one4
 rw [rdN_back g0.1 g0.2]
 simp only
 rw [rdN_back g1.1 g1.2]
 simp only
 rw [rdN_back g2.1 g2.2]
 simp only
 rw [rdN_back g3.1 g3.2]
theorem back_sent {n:Nat} (hn:n≤1000000000000) {x:D3} (h:okc2 (idB n) x=true):encD3 x≠[]∧∀ tl,one3 ⟨encD3 x++tl,false⟩=(x,⟨tl,false⟩):=by
 simp only [okc2,Bool.and_eq_true,toB_iff,idB_iff] at h
 have g0:0≤x.a∧x.a≤9223372036854775807:=by omega
 have g1:0≤x.b∧x.b≤9223372036854775807:=by omega
 have g2:0≤x.c∧x.c≤9223372036854775807:=by omega
 obtain ⟨a,b,c⟩:=x
 simp only at g0 g1 g2
 unfold encD3
 simp only [numsL_cons,numsL_nil,List.append_assoc,List.append_nil,List.nil_append]
 refine ⟨encN_ne g0.1 _,fun tl=>?_⟩
 unfold one3
 rw [rdN_back g0.1 g0.2]
 simp only
 rw [rdN_back g1.1 g1.2]
 simp only
 rw [rdN_back g2.1 g2.2]
theorem back_debt {n:Nat} (hn:n≤1000000000000) {x:D2} (h:okc3 (idB n) x=true):encD2 x≠[]∧∀ tl,one2 ⟨encD2 x++tl,false⟩=(x,⟨tl,false⟩):=by
 simp only [okc3,Bool.and_eq_true,toB_iff,idB_iff] at h
 have g0:0≤x.a∧x.a≤9223372036854775807:=by omega
 have g1:0≤x.b∧x.b≤9223372036854775807:=by omega
 obtain ⟨a,b⟩:=x
 simp only at g0 g1
 unfold encD2
 simp only [numsL_cons,numsL_nil,List.append_assoc,List.append_nil,List.nil_append]
 refine ⟨encN_ne g0.1 _,fun tl=>?_⟩
 unfold one2
 rw [rdN_back g0.1 g0.2]
 simp only
 rw [rdN_back g1.1 g1.2]
theorem back_pair {n:Nat} (hn:n≤1000000000000) {x:D4} (h:validP (prD x)=true):encD4 x≠[]∧∀ tl,one4 ⟨encD4 x++tl,false⟩=(x,⟨tl,false⟩):=by
 obtain ⟨⟨⟨⟨h0,_⟩,h1,h2⟩,h3,h4⟩,h5,h6⟩:(((0≤x.a∧x.a≤11)∧(0≤x.b∧x.b≤1099511627776))∧(0≤x.c∧x.c≤99999))∧(0≤x.d∧x.d≤99):=by
  have h':(inB x.a 11 && inB x.b 1099511627776 && inB x.c 99999 && inB x.d 99)=true:=h
  simpa only [inB,Bool.and_eq_true,decide_eq_true_eq] using h'
 have g0:0≤x.a∧x.a≤9223372036854775807:=by omega
 have g1:0≤x.b∧x.b≤9223372036854775807:=by omega
 have g2:0≤x.c∧x.c≤9223372036854775807:=by omega
 have g3:0≤x.d∧x.d≤9223372036854775807:=by omega
 obtain ⟨a,b,c,d⟩:=x
 simp only at g0 g1 g2 g3
 unfold encD4
 simp only [numsL_cons,numsL_nil,List.append_assoc,List.append_nil,List.nil_append]
 refine ⟨encN_ne g0.1 _,fun tl=>?_⟩
 unfold one4
 rw [rdN_back g0.1 g0.2]
 simp only
 rw [rdN_back g1.1 g1.2]
 simp only
 rw [rdN_back g2.1 g2.2]
 simp only
 rw [rdN_back g3.1 g3.2]
theorem back_proof {n:Nat} (hn:n≤1000000000000) {x:D3} (h:okn1 x=true):encD3 x≠[]∧∀ tl,one3 ⟨encD3 x++tl,false⟩=(x,⟨tl,false⟩):=by
 simp only [okn1,Bool.and_eq_true,toB_iff] at h
 have g0:0≤x.a∧x.a≤9223372036854775807:=by omega
 have g1:0≤x.b∧x.b≤9223372036854775807:=by omega
 have g2:0≤x.c∧x.c≤9223372036854775807:=by omega
 obtain ⟨a,b,c⟩:=x
 simp only at g0 g1 g2
 unfold encD3
 simp only [numsL_cons,numsL_nil,List.append_assoc,List.append_nil,List.nil_append]
 refine ⟨encN_ne g0.1 _,fun tl=>?_⟩
 unfold one3
 rw [rdN_back g0.1 g0.2]
 simp only
 rw [rdN_back g1.1 g1.2]
 simp only
 rw [rdN_back g2.1 g2.2]
theorem back_note {n:Nat} (hn:n≤1000000000000) {x:E5} (h:okn3 (idB n) x=true):encE5 x≠[]∧∀ tl,one5 ⟨encE5 x++tl,false⟩=(x,⟨tl,false⟩):=by
 simp only [okn3,Bool.and_eq_true,toB_iff,idB_iff] at h
 have g0:0≤x.a∧x.a≤9223372036854775807:=by omega
 have g1:0≤x.b∧x.b≤9223372036854775807:=by omega
 have g2:0≤x.c∧x.c≤9223372036854775807:=by omega
 have g3:0≤x.d∧x.d≤9223372036854775807:=by omega
 obtain ⟨a,b,c,d,t⟩:=x
 simp only at g0 g1 g2 g3
 unfold encE5
 simp only [numsL_cons,numsL_nil,List.append_assoc,List.append_nil,List.nil_append]
 refine ⟨encN_ne g0.1 _,fun tl=>?_⟩
 unfold one5
 rw [rdN_back g0.1 g0.2]
 simp only
 rw [rdN_back g1.1 g1.2]
 simp only
 rw [rdN_back g2.1 g2.2]
 simp only
 rw [rdN_back g3.1 g3.2]
 simp only
 rw [rdN_back (by cases t <;> decide) (by cases t <;> decide)]
 cases t <;> rfl
theorem back_bad {n:Nat} (hn:n≤1000000000000) {x:E3} (h:toB x.a 0 1073741824=true∧toB x.b 0 1073741824=true):encE3 x≠[]∧∀ tl,oneB ⟨encE3 x++tl,false⟩=(x,⟨tl,false⟩):=by
 simp only [toB_iff] at h
 have g0:0≤x.a∧x.a≤9223372036854775807:=by omega
 have g1:0≤x.b∧x.b≤9223372036854775807:=by omega
 obtain ⟨a,b,t⟩:=x
 simp only at g0 g1
 unfold encE3
 simp only [numsL_cons,numsL_nil,List.append_assoc,List.append_nil,List.nil_append]
 refine ⟨encN_ne g0.1 _,fun tl=>?_⟩
 unfold oneB
 rw [rdN_back g0.1 g0.2]
 simp only
 rw [rdN_back g1.1 g1.2]
 simp only
 rw [rdN_back (by cases t <;> decide) (by cases t <;> decide)]
 cases t <;> rfl
theorem back_order {n:Nat} (hn:n≤1000000000000) {x:D4} (h:oka1 (idB n) x=true):encD4 x≠[]∧∀ tl,one4 ⟨encD4 x++tl,false⟩=(x,⟨tl,false⟩):=by
 simp only [oka1,Bool.and_eq_true,toB_iff,idB_iff] at h
 have g0:0≤x.a∧x.a≤9223372036854775807:=by omega
 have g1:0≤x.b∧x.b≤9223372036854775807:=by omega
 have g2:0≤x.c∧x.c≤9223372036854775807:=by omega
 have g3:0≤x.d∧x.d≤9223372036854775807:=by omega
 obtain ⟨a,b,c,d⟩:=x
 simp only at g0 g1 g2 g3
 unfold encD4
 simp only [numsL_cons,numsL_nil,List.append_assoc,List.append_nil,List.nil_append]
 refine ⟨encN_ne g0.1 _,fun tl=>?_⟩
 unfold one4
 rw [rdN_back g0.1 g0.2]
 simp only
 rw [rdN_back g1.1 g1.2]
 simp only
 rw [rdN_back g2.1 g2.2]
 simp only
 rw [rdN_back g3.1 g3.2]
theorem back_sealed {n:Nat} (hn:n≤1000000000000) {x:D3} (h:oka2 (idB n) x=true) (hc:x.c≤9223372036854775807):encD3 x≠[]∧∀ tl,one3 ⟨encD3 x++tl,false⟩=(x,⟨tl,false⟩):=by
 simp only [oka2,Bool.and_eq_true,toB_iff,idB_iff,decide_eq_true_eq] at h
 have g0:0≤x.a∧x.a≤9223372036854775807:=by omega
 have g1:0≤x.b∧x.b≤9223372036854775807:=by omega
 have g2:0≤x.c∧x.c≤9223372036854775807:=by omega
 obtain ⟨a,b,c⟩:=x
 simp only at g0 g1 g2
 unfold encD3
 simp only [numsL_cons,numsL_nil,List.append_assoc,List.append_nil,List.nil_append]
 refine ⟨encN_ne g0.1 _,fun tl=>?_⟩
 unfold one3
 rw [rdN_back g0.1 g0.2]
 simp only
 rw [rdN_back g1.1 g1.2]
 simp only
 rw [rdN_back g2.1 g2.2]
theorem back_hold {n:Nat} (hn:n≤1000000000000) {x:D4} (h:hoOk x=true) (hc:x.a≤9223372036854775807∧x.b≤9223372036854775807):encH x≠[]∧∀ tl,oneH ⟨encH x++tl,false⟩=(x,⟨tl,false⟩):=by
 have h0:(0≤x.a∧0≤x.b)∧(0≤x.c∧x.c≤1073741824)∧(x.d=-1∨(0≤x.d∧x.d≤1073741824)):=by
  unfold hoOk toB at h
  simp only [Bool.and_eq_true,Bool.not_eq_true',Bool.or_eq_false_iff,Bool.and_eq_false_iff,bne_eq_false_iff_eq,decide_eq_false_iff_not,Bool.not_eq_false',Bool.and_eq_true,decide_eq_true_eq] at h
  omega
 have g0:0≤x.a∧x.a≤9223372036854775807:=by omega
 have g1:0≤x.b∧x.b≤9223372036854775807:=by omega
 have g2:0≤x.c∧x.c≤9223372036854775807:=by omega
 have g3:InInt x.d:=⟨by omega,by omega⟩
 obtain ⟨a,b,c,d⟩:=x
 simp only at g0 g1 g2 g3
 unfold encH
 simp only [numsL_cons,numsL_nil,List.append_assoc,List.append_nil,List.nil_append]
 refine ⟨encN_ne g0.1 _,fun tl=>?_⟩
 unfold oneH
 rw [rdN_back g0.1 g0.2]
 simp only
 rw [rdN_back g1.1 g1.2]
 simp only
 rw [rdN_back g2.1 g2.2]
 simp only
 rw [rdI_back g3]
theorem back_ev {e:EvM} (h:rightE e=true):encEv e≠[]∧∀ tl,oneE ⟨encEv e++tl,false⟩=(e,⟨tl,false⟩):=by
 have hl:=textE_len e
 refine ⟨by simp [encEv,encT],fun tl=>?_⟩
 unfold oneE encEv
 rw [rText_back _ _ ⟨by omega,by omega⟩]
 simp only
 rw [readE_back h]
theorem lst_ne {T:Type} (one:T→List UInt8) (l:List T):lstE one l≠[]:=encN_ne (by omega) _
set_option maxHeartbeats 4000000 in
theorem rawP_back {p:StP} (h:stateP p=true) (N:NumsP p):rawP ⟨bodyP p,false⟩=(p,⟨[],false⟩):=by
 have R:=stateP_right h
 have hn:p.events.length≤1000000000000:=by have:=N.ev;omega
 have big:∀ k:Nat,k≤1000000→k≤9223372036854775807:=fun k h=>by omega
 have e:bodyP p=encN p.step++(lstE encEv p.events++(lstE encD4 p.queue++(lstE encD3 p.sent++(lstE encD2 p.refused++(lstE encD4 p.pairs++(lstE encD3 p.proofs++(lstE (lstE encE5) p.notes++(lstE encE3 p.bad++(lstE encH p.holds++(lstE encD4 p.orders++(lstE encD3 p.sealed++(lstE encD2 p.debts++[])))))))))))):=by
  simp only [bodyP,partsP,List.flatMap_cons,List.flatMap_nil,id]
 rw [e]
 unfold rawP
 rw [rdN_back R.step.1 (by have:=R.step.2;omega)]
 simp only
 rw [rdLs_back oneE encEv _ _ (big _ N.ev) (fun x hx=>(back_ev (R.ev x hx)).1) (fun x hx=>(back_ev (R.ev x hx)).2)]
 simp only
 rw [rdLs_back one4 encD4 _ _ (big _ N.l1) (fun x hx=>(back_queue hn (R.queue x hx)).1) (fun x hx=>(back_queue hn (R.queue x hx)).2)]
 simp only
 rw [rdLs_back one3 encD3 _ _ (big _ N.l2) (fun x hx=>(back_sent hn (R.sent x hx)).1) (fun x hx=>(back_sent hn (R.sent x hx)).2)]
 simp only
 rw [rdLs_back one2 encD2 _ _ (big _ N.l3) (fun x hx=>(back_debt hn (R.refused x hx)).1) (fun x hx=>(back_debt hn (R.refused x hx)).2)]
 simp only
 rw [rdLs_back one4 encD4 _ _ (big _ N.l4) (fun x hx=>(back_pair hn (R.pairs x hx)).1) (fun x hx=>(back_pair hn (R.pairs x hx)).2)]
 simp only
 rw [rdLs_back one3 encD3 _ _ (big _ N.l5) (fun x hx=>(back_proof hn (R.proofs x hx)).1) (fun x hx=>(back_proof hn (R.proofs x hx)).2)]
 simp only
 rw [rdLs_back (rdLs one5) (lstE encE5) _ _ (big _ N.l6) (fun x _=>lst_ne _ x) (fun l hl tl=>rdLs_back one5 encE5 l tl (big _ (by have:=(R.notes l hl).1;omega)) (fun x hx=>(back_note hn ((R.notes l hl).2 x hx)).1) (fun x hx=>(back_note hn ((R.notes l hl).2 x hx)).2))]
 simp only
 rw [rdLs_back oneB encE3 _ _ (big _ N.l7) (fun x hx=>(back_bad hn (R.bad x hx)).1) (fun x hx=>(back_bad hn (R.bad x hx)).2)]
 simp only
 rw [rdLs_back oneH encH _ _ (big _ N.l8) (fun x hx=>(back_hold hn (R.holds x hx) (N.holds x hx)).1) (fun x hx=>(back_hold hn (R.holds x hx) (N.holds x hx)).2)]
 simp only
 rw [rdLs_back one4 encD4 _ _ (big _ N.l9) (fun x hx=>(back_order hn (R.orders x hx)).1) (fun x hx=>(back_order hn (R.orders x hx)).2)]
 simp only
 rw [rdLs_back one3 encD3 _ _ (big _ N.la) (fun x hx=>(back_sealed hn (R.sealed x hx) (N.sealed x hx)).1) (fun x hx=>(back_sealed hn (R.sealed x hx) (N.sealed x hx)).2)]
 simp only
 rw [rdLs_back one2 encD2 _ _ (big _ N.lb) (fun x hx=>(back_debt hn (R.debts x hx)).1) (fun x hx=>(back_debt hn (R.debts x hx)).2)]
theorem bodyP_ne {p:StP} (h:stateP p=true):bodyP p≠[]:=by
 have R:=stateP_right h
 simp only [bodyP,partsP,List.flatMap_cons,id]
 exact encN_ne R.step.1 _
theorem textP_ne {p:StP}:textP p≠[] ↔ stateP p=true:=by
 constructor
 ·intro h
  cases hs:stateP p with
  | true=>rfl
  | false=>unfold textP at h;rw [hs] at h;exact absurd rfl h
 ·intro h
  unfold textP
  rw [if_pos h]
  exact bodyP_ne h
theorem readP_back {p:StP} (h:stateP p=true) (N:NumsP p):readP (textP p)=(p,0):=by
 have h1:textP p=bodyP p:=by unfold textP;rw [if_pos h]
 have h2:=rawP_back h N
 unfold readP
 rw [h1,h2,if_pos ⟨rfl,bodyP_ne h,h1⟩]
/- The plain law of StateErased (layer 46). -/
def hitE (k:Int) (i:Nat) (e:EvM):Bool:=((i:Int)==k) || ((e.kind==1) && (e.target==k))
def eraseGo (k:Int):Nat→List EvM→List EvM
 | _,[]=>[]
 | i,e::r=>(if hitE k i e=true then bareE e else e)::eraseGo k (i+1) r
theorem eraseGo_len (k:Int):∀ (l:List EvM) (i:Nat),(eraseGo k i l).length=l.length
 | [],_=>rfl
 | e::r,i=>by simp [eraseGo,eraseGo_len k r (i+1)]
theorem eraseGo_get (k:Int):∀ (l:List EvM) (i j:Nat) (h:j<l.length) (h2:j<(eraseGo k i l).length),(eraseGo k i l)[j]=if hitE k (i+j) l[j]=true then bareE l[j] else l[j]
 | [],_,_,h,_=>absurd h (Nat.not_lt_zero _)
 | e::r,i,0,_,_=>by simp [eraseGo]
 | e::r,i,j+1,h,h2=>by
  have h3:=eraseGo_get k r (i+1) j (by simpa using h) (by simpa [eraseGo] using h2)
  simp only [eraseGo,List.getElem_cons_succ]
  rw [h3,show i+1+j=i+(j+1) by omega]
def BareR (e f:EvM):Prop:=f=e∨f=bareE e
theorem bareR_same {e f:EvM} (h:BareR e f):f.author=e.author∧f.seq=e.seq∧f.causes=e.causes∧f.kind=e.kind∧f.group=e.group∧f.target=e.target∧f.quote=e.quote:=by
 rcases h with rfl | rfl
 ·exact ⟨rfl,rfl,rfl,rfl,rfl,rfl,rfl⟩
 ·unfold bareE
  split <;> exact ⟨rfl,rfl,rfl,rfl,rfl,rfl,rfl⟩
theorem right_bare {e:EvM} (h:rightE e=true):rightE (bareE e)=true:=by
 unfold bareE
 split
 ·rename_i hk
  unfold rightE at h ⊢
  simp only [Bool.and_eq_true] at h
  obtain ⟨h1,h2,h3,h4,h5,h6,h7⟩:=h
  have h7:=(sameE_iff _ _).1 h7
  have hx:hasX e.kind=true:=by
   unfold hasX
   rcases hk with hk | hk <;> rw [hk] <;> rfl
  have g4:fieldsB {e with text:=ByteArray.empty,files:=[]}=true:=h4
  have g2:headE {e with text:=ByteArray.empty,files:=[]}=true:=h2
  have g7:sameE {e with text:=ByteArray.empty,files:=[]} (spareE {e with text:=ByteArray.empty,files:=[]})=true:=by
   rw [sameE_iff]
   have q:e={e with target:=if hasT e.kind=true then e.target else -1,quote:=if hasQ e.kind=true then e.quote else -1,who:=if hasW e.kind=true then e.who else -1,n:=if hasN e.kind=true then e.n else 0,text:=if hasX e.kind=true then e.text else ByteArray.empty,files:=if hasX e.kind=true then e.files else []}:=h7
   have qt:=congrArg EvM.target q
   have qq:=congrArg EvM.quote q
   have qw:=congrArg EvM.who q
   have qn:=congrArg EvM.n q
   simp only at qt qq qw qn
   unfold spareE
   simp only [hx,if_true]
   rw [← qt,← qq,← qw,← qn]
  simp only [Bool.and_eq_true]
  exact ⟨h1,g2,h3,g4,rfl,rfl,g7⟩
 ·exact h
theorem right_bareR {e f:EvM} (h:BareR e f) (hr:rightE e=true):rightE f=true:=by
 rcases h with rfl | rfl
 ·exact hr
 ·exact right_bare hr
inductive BareL:List EvM→List EvM→Prop
 | nil:BareL [] []
 | cons {e f:EvM} {r q:List EvM}:BareR e f→BareL r q→BareL (e::r) (f::q)
theorem BareL.length_eq {L M:List EvM} (h:BareL L M):L.length=M.length:=by
 induction h with
 | nil=>rfl
 | cons _ _ ih=>simp [ih]
theorem bareR_of {L M:List EvM} (hl:M.length=L.length) (h:∀ j (h1:j<L.length) (h2:j<M.length),BareR L[j] M[j]):BareL L M:=by
 induction L generalizing M with
 | nil=>cases M with
  | nil=>exact .nil
  | cons _ _=>simp at hl
 | cons x r ih=>cases M with
  | nil=>simp at hl
  | cons y q =>
   refine .cons (h 0 (by simp) (by simp)) (ih (by simpa using hl) (fun j h1 h2=>?_))
   have:=h (j+1) (by simpa using h1) (by simpa using h2)
   simpa using this
theorem ofGo_bare {L M:List EvM} (h:BareL L M):∀ (a:Int) (i:Nat),ofGo a i M=ofGo a i L:=by
 induction h with
 | nil=>intro a i;rfl
 | cons h1 _ ih =>
  intro a i
  have:=(bareR_same h1).1
  simp only [ofGo,this,ih]
theorem delB_bare {L M:List EvM} (h:BareL L M) (k:Int):delB M k=delB L k:=by
 unfold delB
 induction h with
 | nil=>rfl
 | cons h1 _ ih =>
  have h2:=bareR_same h1
  simp only [List.any_cons,h2.2.2.2.1,h2.2.2.2.2.2.1,ih]
theorem refOk_bare {L M:List EvM} (h:BareL L M) (g k:Int):refOk M g k=refOk L g k:=by
 unfold refOk
 congr 1
 generalize k.toNat=n
 induction h generalizing n with
 | nil=>rfl
 | cons h1 _ ih =>
  cases n with
  | zero =>
   have h2:=bareR_same h1
   simp only [List.getElem?_cons_zero,h2.2.2.2.1,h2.2.2.2.2.1]
  | succ n=>simpa using ih n
theorem stepC_bare {L M:List EvM} (h:BareL L M) {e f:EvM} (hf:BareR e f) (h0:stepC L e=0):stepC M f=0:=by
 have hl:M.length=L.length:=h.length_eq.symm
 have hs:=bareR_same hf
 unfold stepC at h0 ⊢
 have hr:rightE e=true:=by
  cases hr:rightE e with
  | true=>rfl
  | false=>simp [hr] at h0
 have hm:missB M.length f=missB L.length e:=by
  unfold missB
  rw [hl,hs.2.2.1,hs.2.2.2.2.2.1,hs.2.2.2.2.2.2]
 have ho:ofL M f.author=ofL L e.author:=by
  unfold ofL
  rw [hs.1,ofGo_bare h]
 rw [hr] at h0
 rw [right_bareR hf hr,ho,hm,hs.2.1,hs.2.2.2.2.1,hs.2.2.2.2.2.1,hs.2.2.2.2.2.2,refOk_bare h,refOk_bare h,delB_bare h,delB_bare h,hl]
 exact h0
theorem openGo_bare:∀ {l m:List EvM},BareL l m→∀ {L M:List EvM},BareL L M→openGo L l=0→openGo M m=0:=by
 intro l m h
 induction h with
 | nil=>intro L M _ _;rfl
 | @cons e f r q h1 h2 ih =>
  intro L M hL h0
  simp only [openGo] at h0 ⊢
  by_cases hs:stepC L e=0
  ·rw [if_neg (by simp [hs])] at h0
   rw [if_neg (by simp [stepC_bare hL h1 hs])]
   exact ih (by
    have:∀ {A B:List EvM},BareL A B→BareL (A++[e]) (B++[f]):=by
     intro A B hab
     induction hab with
     | nil=>exact .cons h1 .nil
     | cons a _ ih=>exact .cons a ih
    exact this hL) h0
  ·rw [if_pos hs] at h0
   exact absurd h0 hs
theorem open_erase {l:List EvM} (k:Int) (h:openC l=0):openC (eraseGo k 0 l)=0:=by
 refine openGo_bare (bareR_of (eraseGo_len k l 0) (fun j h1 h2=>?_)) .nil h
 rw [eraseGo_get k l 0 j h1 h2]
 split
 ·exact .inr rfl
 ·exact .inl rfl
def EditR (k:Int) (i:Nat) (e f:EvM):Prop:=f.author=e.author∧f.seq=e.seq∧f.causes=e.causes∧f.kind=e.kind∧f.group=e.group∧f.target=e.target∧f.quote=e.quote∧f.who=e.who∧f.n=e.n∧f.step=e.step∧(hitE k i e=false→f=e)
theorem erase_same {k:Nat} {l m:List EvM} (hl:m.length=l.length) (hk:k<l.length) (hp:l[k].kind=0) (h:∀ j (h1:j<l.length) (h2:j<m.length),EditR k j l[j] m[j]):eraseGo k 0 m=eraseGo k 0 l:=by
 refine List.ext_getElem (by rw [eraseGo_len,eraseGo_len,hl]) (fun j h1 h2=>?_)
 have h1':j<m.length:=by rwa [eraseGo_len] at h1
 have h2':j<l.length:=by rwa [eraseGo_len] at h2
 rw [eraseGo_get _ _ _ _ h1' h1,eraseGo_get _ _ _ _ h2' h2]
 obtain ⟨e1,e2,e3,e4,e5,e6,e7,e8,e9,e10,e11⟩:=h j h2' h1'
 rw [Nat.zero_add]
 have hh:hitE k j m[j]=hitE k j l[j]:=by unfold hitE;rw [e4,e6]
 rw [hh]
 cases hq:hitE k j l[j] with
 | false=>rw [e11 hq]
 | true =>
  have hb:l[j].kind=0∨l[j].kind=1:=by
   unfold hitE at hq
   simp only [Bool.or_eq_true,Bool.and_eq_true,beq_iff_eq] at hq
   rcases hq with hq | hq
   ·have:j=k:=by omega
    subst this
    exact .inl hp
   ·exact .inr hq.1
  simp only [if_true]
  have g:∀ e:EvM,e.kind=0∨e.kind=1→bareE e={e with text:=ByteArray.empty,files:=[]}:=fun e he=>by unfold bareE;rw [if_pos he]
  rw [g _ hb,g _ (by rw [e4];exact hb)]
  generalize l[j]=x at *
  generalize m[j]=y at *
  cases x
  cases y
  simp only at e1 e2 e3 e4 e5 e6 e7 e8 e9 e10
  subst e1 e2 e3 e4 e5 e6 e7 e8 e9 e10
  rfl
theorem stateB_erase {p:StP} (k:Int) (h:stateP p=true):stateP {p with events:=eraseGo k 0 p.events}=true:=by
 have hlen:(eraseGo k 0 p.events).length=p.events.length:=eraseGo_len k p.events 0
 have hev:∀ q:StP,evsL q.lift.events=q.events:=fun q=>by simp [StP.lift,evsL,Function.comp_def]
 have hle:∀ q:StP,q.lift.events.length=q.events.length:=fun q=>by simp [StP.lift]
 unfold stateP stateB at h ⊢
 rw [hev,hle] at *
 simp only [hlen]
 simp only [Bool.and_eq_true] at h ⊢
 obtain ⟨h1,h2⟩:=h
 refine ⟨?_,h2⟩
 have h0:openC p.events=0:=by simpa using h1
 simpa using open_erase k h0
/- A state that is being read,or written list by list (layer 46;written by genstr.py). -/
def okEv (w:World) (x:EvL):Prop:=EvLOk w w.heap.size x∧∀ i,x.at_ i→i<w.heap.size
def NL.at_ (x:NL) (i:Nat):Prop:=slBlk x.A=some i
def okNL (w:World) (x:NL):Prop:=(RdL 5 E5.cs w w.heap.size x.A x.l∧x.l.length≤9223372036854775807∧x.l.length≤x.c)∧∀ i,x.at_ i→i<w.heap.size
theorem okEv.frame {w w':World} {x:EvL} (h:okEv w x) (hb:∀ i,x.at_ i→w'.heap[i]?=w.heap[i]?) (hs:w.heap.size≤w'.heap.size):okEv w' x :=
 ⟨h.1.turn (fun i hi _=>hb i hi) hs,fun i hi=>Nat.lt_of_lt_of_le (h.2 i hi) hs⟩
theorem okNL.frame {w w':World} {x:NL} (h:okNL w x) (hb:∀ i,x.at_ i→w'.heap[i]?=w.heap[i]?) (hs:w.heap.size≤w'.heap.size):okNL w' x :=
 ⟨⟨h.1.1.turn (fun i hi _=>hb i hi) hs,h.1.2⟩,fun i hi=>Nat.lt_of_lt_of_le (h.2 i hi) hs⟩
structure HeldL {T:Type} (sz:Nat) (enc:T→List Value) (w:World) (lo:Nat) (A:Option Addr × Nat) (xs:List T):Prop where
 rd:RdL sz enc w w.heap.size A.1 xs
 len:xs.length≤9223372036854775807
 cap:xs.length≤A.2
 lo:∀ i,slBlk A.1=some i→lo≤i
theorem HeldL.turn {T:Type} {sz:Nat} {enc:T→List Value} {w w':World} {lo:Nat} {A:Option Addr × Nat} {xs:List T} {F:Nat→Prop} (h:HeldL sz enc w lo A xs) (t:Turn F w w') (hF:∀ i,F i→i<lo):HeldL sz enc w' lo A xs :=
 ⟨h.rd.turn (fun i hi hl=>t.block i hl (fun hf=>by have:=hF i hf;have:=h.lo i hi;omega)) t.size,h.len,h.cap,h.lo⟩
theorem HeldL.nil_ {T:Type} {sz:Nat} {enc:T→List Value} {w:World} {lo:Nat}:HeldL sz enc w lo (none,0) ([]:List T):=⟨RdL.nil_,by simp,by simp,fun i hi=>by cases hi⟩
structure RdSt (w:World) (lo:Nat) (s:Stt) (a:StAd):Prop where
 ke:HeldL 12 EvL.cs w lo a.ke s.events
 kq:HeldL 4 D4.cs w lo a.kq s.queue
 ks:HeldL 3 D3.cs w lo a.ks s.sent
 kr:HeldL 2 D2.cs w lo a.kr s.refused
 kp:HeldL 4 D4.cs w lo a.kp s.pairs
 kf:HeldL 3 D3.cs w lo a.kf s.proofs
 kn:HeldL 1 NL.cs w lo a.kn s.notes
 kb:HeldL 3 E3.cs w lo a.kb s.bad
 kh:HeldL 4 D4.cs w lo a.kh s.holds
 ko:HeldL 4 D4.cs w lo a.ko s.orders
 kx:HeldL 3 D3.cs w lo a.kx s.sealed
 kd:HeldL 2 D2.cs w lo a.kd s.debts
 evs:∀ x∈s.events,okEv w x∧∀ i,x.at_ i→lo≤i
 nos:∀ x∈s.notes,okNL w x∧∀ i,x.at_ i→lo≤i
theorem RdSt.ok {w:World} {lo:Nat} {s:Stt} {a:StAd} (h:RdSt w lo s a):StOk w w.heap.size s a :=
 ⟨h.ke.rd,h.kq.rd,h.ks.rd,h.kr.rd,h.kp.rd,h.kf.rd,h.kn.rd,h.kb.rd,h.kh.rd,h.ko.rd,h.kx.rd,h.kd.rd,fun x hx=>(h.evs x hx).1.1,fun x hx=>(h.nos x hx).1.1,h.ke.len,h.ke.cap,h.kq.len,h.kq.cap,h.ks.len,h.ks.cap,h.kr.len,h.kr.cap,h.kp.len,h.kp.cap,h.kf.len,h.kf.cap,h.kn.len,h.kn.cap,h.kb.len,h.kb.cap,h.kh.len,h.kh.cap,h.ko.len,h.ko.cap,h.kx.len,h.kx.cap,h.kd.len,h.kd.cap⟩
theorem RdSt.turn {w w':World} {lo:Nat} {s:Stt} {a:StAd} {F:Nat→Prop} (h:RdSt w lo s a) (t:Turn F w w') (hF:∀ i,F i→i<lo):RdSt w' lo s a :=
 ⟨h.ke.turn t hF,h.kq.turn t hF,h.ks.turn t hF,h.kr.turn t hF,h.kp.turn t hF,h.kf.turn t hF,h.kn.turn t hF,h.kb.turn t hF,h.kh.turn t hF,h.ko.turn t hF,h.kx.turn t hF,h.kd.turn t hF,
  fun x hx=>⟨(h.evs x hx).1.frame (fun i hi=>t.block i ((h.evs x hx).1.2 i hi) (fun hf=>by have:=hF i hf;have:=(h.evs x hx).2 i hi;omega)) t.size,(h.evs x hx).2⟩,
  fun x hx=>⟨(h.nos x hx).1.frame (fun i hi=>t.block i ((h.nos x hx).1.2 i hi) (fun hf=>by have:=hF i hf;have:=(h.nos x hx).2 i hi;omega)) t.size,(h.nos x hx).2⟩⟩
def sttZ (n:Int):Stt:=⟨n,[],[],[],[],[],[],[],[],[],[],[],[]⟩
def adZ:StAd:=⟨(none,0),(none,0),(none,0),(none,0),(none,0),(none,0),(none,0),(none,0),(none,0),(none,0),(none,0),(none,0)⟩
theorem RdSt.zero (w:World) (lo:Nat) (n:Int):RdSt w lo (sttZ n) adZ :=
 ⟨HeldL.nil_,HeldL.nil_,HeldL.nil_,HeldL.nil_,HeldL.nil_,HeldL.nil_,HeldL.nil_,HeldL.nil_,HeldL.nil_,HeldL.nil_,HeldL.nil_,HeldL.nil_,fun x hx=>(nomatch hx),fun x hx=>(nomatch hx)⟩
section
variable {w:World} {lo b:Nat} {s:Stt} {a:StAd}
theorem RdSt.events (h:RdSt w lo s a) {xs:List EvL} {A:Option Addr} {c:Nat} (hx:HeldL 12 EvL.cs w lo (A,c) xs) (he:∀ x∈xs,okEv w x∧∀ i,x.at_ i→lo≤i):RdSt w lo {s with events:=xs} {a with ke:=(A,c)} :=
 ⟨hx,h.kq,h.ks,h.kr,h.kp,h.kf,h.kn,h.kb,h.kh,h.ko,h.kx,h.kd,he,h.nos⟩
theorem StBox.set_ke (h:StBox b s a w) (xs:List EvL) (A:Option Addr) (c:Nat):StBox b {s with events:=xs} {a with ke:=(A,c)} (w.setCell ⟨b,1,none⟩ (.slice A xs.length c)):=heap_setCell_same w b 1 _ _ _ h
theorem RdSt.queue (h:RdSt w lo s a) {xs:List D4} {A:Option Addr} {c:Nat} (hx:HeldL 4 D4.cs w lo (A,c) xs):RdSt w lo {s with queue:=xs} {a with kq:=(A,c)} :=
 ⟨h.ke,hx,h.ks,h.kr,h.kp,h.kf,h.kn,h.kb,h.kh,h.ko,h.kx,h.kd,h.evs,h.nos⟩
theorem StBox.set_kq (h:StBox b s a w) (xs:List D4) (A:Option Addr) (c:Nat):StBox b {s with queue:=xs} {a with kq:=(A,c)} (w.setCell ⟨b,2,none⟩ (.slice A xs.length c)):=heap_setCell_same w b 2 _ _ _ h
theorem RdSt.sent (h:RdSt w lo s a) {xs:List D3} {A:Option Addr} {c:Nat} (hx:HeldL 3 D3.cs w lo (A,c) xs):RdSt w lo {s with sent:=xs} {a with ks:=(A,c)} :=
 ⟨h.ke,h.kq,hx,h.kr,h.kp,h.kf,h.kn,h.kb,h.kh,h.ko,h.kx,h.kd,h.evs,h.nos⟩
theorem StBox.set_ks (h:StBox b s a w) (xs:List D3) (A:Option Addr) (c:Nat):StBox b {s with sent:=xs} {a with ks:=(A,c)} (w.setCell ⟨b,3,none⟩ (.slice A xs.length c)):=heap_setCell_same w b 3 _ _ _ h
theorem RdSt.refused (h:RdSt w lo s a) {xs:List D2} {A:Option Addr} {c:Nat} (hx:HeldL 2 D2.cs w lo (A,c) xs):RdSt w lo {s with refused:=xs} {a with kr:=(A,c)} :=
 ⟨h.ke,h.kq,h.ks,hx,h.kp,h.kf,h.kn,h.kb,h.kh,h.ko,h.kx,h.kd,h.evs,h.nos⟩
theorem StBox.set_kr (h:StBox b s a w) (xs:List D2) (A:Option Addr) (c:Nat):StBox b {s with refused:=xs} {a with kr:=(A,c)} (w.setCell ⟨b,4,none⟩ (.slice A xs.length c)):=heap_setCell_same w b 4 _ _ _ h
theorem RdSt.pairs (h:RdSt w lo s a) {xs:List D4} {A:Option Addr} {c:Nat} (hx:HeldL 4 D4.cs w lo (A,c) xs):RdSt w lo {s with pairs:=xs} {a with kp:=(A,c)} :=
 ⟨h.ke,h.kq,h.ks,h.kr,hx,h.kf,h.kn,h.kb,h.kh,h.ko,h.kx,h.kd,h.evs,h.nos⟩
theorem StBox.set_kp (h:StBox b s a w) (xs:List D4) (A:Option Addr) (c:Nat):StBox b {s with pairs:=xs} {a with kp:=(A,c)} (w.setCell ⟨b,5,none⟩ (.slice A xs.length c)):=heap_setCell_same w b 5 _ _ _ h
theorem RdSt.proofs (h:RdSt w lo s a) {xs:List D3} {A:Option Addr} {c:Nat} (hx:HeldL 3 D3.cs w lo (A,c) xs):RdSt w lo {s with proofs:=xs} {a with kf:=(A,c)} :=
 ⟨h.ke,h.kq,h.ks,h.kr,h.kp,hx,h.kn,h.kb,h.kh,h.ko,h.kx,h.kd,h.evs,h.nos⟩
theorem StBox.set_kf (h:StBox b s a w) (xs:List D3) (A:Option Addr) (c:Nat):StBox b {s with proofs:=xs} {a with kf:=(A,c)} (w.setCell ⟨b,6,none⟩ (.slice A xs.length c)):=heap_setCell_same w b 6 _ _ _ h
theorem RdSt.notes (h:RdSt w lo s a) {xs:List NL} {A:Option Addr} {c:Nat} (hx:HeldL 1 NL.cs w lo (A,c) xs) (he:∀ x∈xs,okNL w x∧∀ i,x.at_ i→lo≤i):RdSt w lo {s with notes:=xs} {a with kn:=(A,c)} :=
 ⟨h.ke,h.kq,h.ks,h.kr,h.kp,h.kf,hx,h.kb,h.kh,h.ko,h.kx,h.kd,h.evs,he⟩
theorem StBox.set_kn (h:StBox b s a w) (xs:List NL) (A:Option Addr) (c:Nat):StBox b {s with notes:=xs} {a with kn:=(A,c)} (w.setCell ⟨b,7,none⟩ (.slice A xs.length c)):=heap_setCell_same w b 7 _ _ _ h
theorem RdSt.bad (h:RdSt w lo s a) {xs:List E3} {A:Option Addr} {c:Nat} (hx:HeldL 3 E3.cs w lo (A,c) xs):RdSt w lo {s with bad:=xs} {a with kb:=(A,c)} :=
 ⟨h.ke,h.kq,h.ks,h.kr,h.kp,h.kf,h.kn,hx,h.kh,h.ko,h.kx,h.kd,h.evs,h.nos⟩
theorem StBox.set_kb (h:StBox b s a w) (xs:List E3) (A:Option Addr) (c:Nat):StBox b {s with bad:=xs} {a with kb:=(A,c)} (w.setCell ⟨b,8,none⟩ (.slice A xs.length c)):=heap_setCell_same w b 8 _ _ _ h
theorem RdSt.holds (h:RdSt w lo s a) {xs:List D4} {A:Option Addr} {c:Nat} (hx:HeldL 4 D4.cs w lo (A,c) xs):RdSt w lo {s with holds:=xs} {a with kh:=(A,c)} :=
 ⟨h.ke,h.kq,h.ks,h.kr,h.kp,h.kf,h.kn,h.kb,hx,h.ko,h.kx,h.kd,h.evs,h.nos⟩
theorem StBox.set_kh (h:StBox b s a w) (xs:List D4) (A:Option Addr) (c:Nat):StBox b {s with holds:=xs} {a with kh:=(A,c)} (w.setCell ⟨b,9,none⟩ (.slice A xs.length c)):=heap_setCell_same w b 9 _ _ _ h
theorem RdSt.orders (h:RdSt w lo s a) {xs:List D4} {A:Option Addr} {c:Nat} (hx:HeldL 4 D4.cs w lo (A,c) xs):RdSt w lo {s with orders:=xs} {a with ko:=(A,c)} :=
 ⟨h.ke,h.kq,h.ks,h.kr,h.kp,h.kf,h.kn,h.kb,h.kh,hx,h.kx,h.kd,h.evs,h.nos⟩
theorem StBox.set_ko (h:StBox b s a w) (xs:List D4) (A:Option Addr) (c:Nat):StBox b {s with orders:=xs} {a with ko:=(A,c)} (w.setCell ⟨b,10,none⟩ (.slice A xs.length c)):=heap_setCell_same w b 10 _ _ _ h
theorem RdSt.sealed (h:RdSt w lo s a) {xs:List D3} {A:Option Addr} {c:Nat} (hx:HeldL 3 D3.cs w lo (A,c) xs):RdSt w lo {s with sealed:=xs} {a with kx:=(A,c)} :=
 ⟨h.ke,h.kq,h.ks,h.kr,h.kp,h.kf,h.kn,h.kb,h.kh,h.ko,hx,h.kd,h.evs,h.nos⟩
theorem StBox.set_kx (h:StBox b s a w) (xs:List D3) (A:Option Addr) (c:Nat):StBox b {s with sealed:=xs} {a with kx:=(A,c)} (w.setCell ⟨b,11,none⟩ (.slice A xs.length c)):=heap_setCell_same w b 11 _ _ _ h
theorem RdSt.debts (h:RdSt w lo s a) {xs:List D2} {A:Option Addr} {c:Nat} (hx:HeldL 2 D2.cs w lo (A,c) xs):RdSt w lo {s with debts:=xs} {a with kd:=(A,c)} :=
 ⟨h.ke,h.kq,h.ks,h.kr,h.kp,h.kf,h.kn,h.kb,h.kh,h.ko,h.kx,hx,h.evs,h.nos⟩
theorem StBox.set_kd (h:StBox b s a w) (xs:List D2) (A:Option Addr) (c:Nat):StBox b {s with debts:=xs} {a with kd:=(A,c)} (w.setCell ⟨b,12,none⟩ (.slice A xs.length c)):=heap_setCell_same w b 12 _ _ _ h
theorem StBox.set_st (h:StBox b s a w) (n:Int):StBox b {s with step:=n} a (w.setCell ⟨b,0,none⟩ (.int .i64 n)):=heap_setCell_same w b 0 _ _ _ h
theorem RdSt.step (h:RdSt w lo s a) (n:Int):RdSt w lo {s with step:=n} a:=⟨h.ke,h.kq,h.ks,h.kr,h.kp,h.kf,h.kn,h.kb,h.kh,h.ko,h.kx,h.kd,h.evs,h.nos⟩
theorem StBox.zero (w:World):StBox w.heap.size (sttZ 0) adZ (w.alloc (.cells ((sttZ 0).arr adZ) 34)):=(MapKept.heap_alloc w _).1
end
end Go.Proofs.YthlpehhlhebhbaaGreatDoor
