/- Contracts and plain laws, joined: StL, StR, StT. -/
import Derived.Test.YthlpehhlhebhbaaGreatDoorQay
import Derived.Test.YthlpehhlhebhbaaGreatDoorQbc
/- The texts of events and states,and how they are read: plain laws (layers 14,46). -/
set_option linter.unusedSimpArgs false
set_option linter.unusedVariables false
namespace Go.Proofs.YthlpehhlhebhbaaGreatDoor
set_option maxHeartbeats 2000000
open Lib (hid)
open Go.RowKit
set_option maxRecDepth 100000
/-! An event. -/
abbrev rdN (s:RS):Int × RS:=rNum 59 0 s
abbrev rdI (s:RS):Int × RS:=rNum 59 (-9223372036854775808) s
abbrev rdIs (s:RS):List Int × RS:=rItems (rNum 59 (-9223372036854775808)) s
def textRaw (e:EvM):List UInt8 :=
 encN e.kind++encN e.author++encN e.seq++encL encI e.causes++encN e.group++encI e.target++encI e.quote++encI e.who++encN e.n++encN e.step++encL encI e.files++encT e.text.data.toList
def textE (e:EvM):List UInt8:=if rightE e=true then textRaw e else []
structure RawE where
 ev:EvM
 s:RS
def rawEv (s0:RS):RawE :=
 let k:=rdN s0
 let a:=rdN k.2
 let q:=rdN a.2
 let c:=rdIs q.2
 let g:=rdN c.2
 let t:=rdI g.2
 let u:=rdI t.2
 let h:=rdI u.2
 let n:=rdN h.2
 let p:=rdN n.2
 let f:=rdIs p.2
 let x:=rText f.2
 ⟨⟨a.1,q.1,c.1,k.1,g.1,t.1,u.1,h.1,n.1,bs x.1,f.1,p.1⟩,x.2⟩
def zEv:EvM:=⟨0,0,[],0,0,0,0,0,0,ByteArray.empty,[],0⟩
def readE (t:List UInt8):EvM × Int:=if rDone (rawEv ⟨t,false⟩).s=true∧rightE (rawEv ⟨t,false⟩).ev=true then ((rawEv ⟨t,false⟩).ev,0) else (zEv,2)
theorem filesGo_in:∀ (l pre:List Int),filesGo pre l=true→∀ x∈l,0≤x∧x<1073741825
 | [],_,_,x,hx=>by cases hx
 | n::r,pre,h,x,hx=>by
  simp only [filesGo,Bool.and_eq_true,belowB,decide_eq_true_eq] at h
  rcases List.mem_cons.1 hx with rfl | hx
  ·exact h.1
  ·exact filesGo_in r _ h.2.2 x hx
theorem causesGo_in:∀ (l:List Int) (p:Option Int),causesGo p l=true→∀ x∈l,0≤x∧x<100000
 | [],_,_,x,hx=>by cases hx
 | n::r,none,h,x,hx=>by
  simp only [causesGo,Bool.and_eq_true,belowB,decide_eq_true_eq] at h
  rcases List.mem_cons.1 hx with rfl | hx
  ·exact h.1
  ·exact causesGo_in r _ h.2 x hx
 | n::r,some p,h,x,hx=>by
  simp only [causesGo,Bool.and_eq_true,belowB,decide_eq_true_eq] at h
  rcases List.mem_cons.1 hx with rfl | hx
  ·exact h.1
  ·exact causesGo_in r _ h.2.2 x hx
theorem kind_facts {e:EvM} (h:fieldsB e=true):0≤e.kind∧e.kind≤9∧(hasN e.kind=true→0≤e.n∧e.n≤100)∧(hasW e.kind=true→-1≤e.who∧e.who<2000):=by
 unfold fieldsB at h
 simp only [hasN,hasW,Bool.or_eq_true,beq_iff_eq]
 split at h
 ·simp only [Bool.and_eq_true,maybeB,belowB,Bool.or_eq_true,beq_iff_eq,decide_eq_true_eq] at h
  omega
 split at h
 ·omega
 split at h
 ·simp only [belowB,Bool.and_eq_true,decide_eq_true_eq] at h
  omega
 split at h
 ·simp only [belowB,Bool.and_eq_true,decide_eq_true_eq] at h
  omega
 split at h
 ·simp only [belowB,Bool.and_eq_true,decide_eq_true_eq] at h
  omega
 ·simp only [Bool.or_eq_true,beq_iff_eq] at h
  omega
structure NumsE (e:EvM):Prop where
 kind:0≤e.kind∧e.kind≤9
 author:0≤e.author∧e.author<2000
 seq:0≤e.seq∧e.seq<100000
 group:0≤e.group∧e.group<500
 step:0≤e.step∧e.step<1073741825
 target:-1≤e.target∧e.target<100000
 quote:-1≤e.quote∧e.quote<100000
 who:-1≤e.who∧e.who<2000
 n:0≤e.n∧e.n≤100
 causes:∀ x∈e.causes,0≤x∧x<100000
 files:∀ x∈e.files,0≤x∧x<1073741825
 cl:e.causes.length≤8
 fl:e.files.length≤4
 text:e.text.size≤4000
theorem right_nums {e:EvM} (h:rightE e=true):NumsE e:=by
 have hr:=right_facts h
 unfold rightE headE at h
 simp only [Bool.and_eq_true,decide_eq_true_eq] at h
 obtain ⟨hc,⟨_,_,hg,hst⟩,_,hf,ht,hfi,hs⟩:=h
 have hsp:=(sameE_iff _ _).1 hs
 have hn:e.n=if hasN e.kind=true then e.n else 0:=congrArg EvM.n hsp
 have hw:e.who=if hasW e.kind=true then e.who else -1:=congrArg EvM.who hsp
 have hk:=kind_facts hf
 simp only [belowB,Bool.and_eq_true,decide_eq_true_eq] at hg hst
 refine ⟨⟨hk.1,hk.2.1⟩,hr.1,hr.2.1,hg,hst,hr.2.2.1,hr.2.2.2.1,?_,?_,causesGo_in _ _ hc,?_,hr.2.2.2.2.1,hr.2.2.2.2.2,ht⟩
 ·by_cases h:hasW e.kind=true
  ·exact hk.2.2.2 h
  ·rw [if_neg h] at hw;omega
 ·by_cases h:hasN e.kind=true
  ·exact hk.2.2.1 h
  ·rw [if_neg h] at hn;omega
 ·unfold filesB at hfi
  simp only [Bool.and_eq_true] at hfi
  exact filesGo_in _ _ hfi.1
theorem encN_pos {n:Int} (h:0≤n):encN n=encI n:=by unfold encN;rw [if_neg (by omega)]
theorem encN_len (n:Int) (hn:InInt n):(encN n).length≤22:=by
 unfold encN
 split
 ·simp
 ·exact encI_len n hn
theorem rdN_back {n:Int} (h:0≤n) (h2:n≤9223372036854775807) (tl:List UInt8):rdN ⟨encN n++tl,false⟩=(n,⟨tl,false⟩):=by
 rw [encN_pos h]
 exact rInt_back ⟨by omega,h2⟩ h tl
theorem rdI_back {n:Int} (h:InInt n) (tl:List UInt8):rdI ⟨encI n++tl,false⟩=(n,⟨tl,false⟩):=rInt_back h h.1 tl
theorem rdIs_back {l:List Int} (hl:l.length≤1000000) (h:∀ x∈l,InInt x) (tl:List UInt8):rdIs ⟨encL encI l++tl,false⟩=(l,⟨tl,false⟩) :=
 rItems_back _ encI l tl ⟨by omega,by omega⟩ fun x hx tl=>rdI_back (h x hx) tl
theorem rawEv_back {e:EvM} (h:rightE e=true) (tl:List UInt8):rawEv ⟨textRaw e++tl,false⟩=⟨e,⟨tl,false⟩⟩:=by
 have N:=right_nums h
 unfold rawEv textRaw
 simp only [List.append_assoc]
 rw [rdN_back N.kind.1 (by have:=N.kind.2;omega)]
 simp only
 rw [rdN_back N.author.1 (by have:=N.author.2;omega)]
 simp only
 rw [rdN_back N.seq.1 (by have:=N.seq.2;omega)]
 simp only
 rw [rdIs_back (by have:=N.cl;omega) (fun x hx=>by have:=N.causes x hx;exact ⟨by omega,by omega⟩)]
 simp only
 rw [rdN_back N.group.1 (by have:=N.group.2;omega)]
 simp only
 rw [rdI_back ⟨by have:=N.target;omega,by have:=N.target;omega⟩]
 simp only
 rw [rdI_back ⟨by have:=N.quote;omega,by have:=N.quote;omega⟩]
 simp only
 rw [rdI_back ⟨by have:=N.who;omega,by have:=N.who;omega⟩]
 simp only
 rw [rdN_back N.n.1 (by have:=N.n.2;omega)]
 simp only
 rw [rdN_back N.step.1 (by have:=N.step.2;omega)]
 simp only
 rw [rdIs_back (by have:=N.fl;omega) (fun x hx=>by have:=N.files x hx;exact ⟨by omega,by omega⟩)]
 simp only
 rw [rText_back _ _ (by have h1:=N.text;have h2:e.text.data.toList.length=e.text.size:=rfl;exact ⟨by omega,by omega⟩)]
 rfl
theorem readE_back {e:EvM} (h:rightE e=true):readE (textE e)=(e,0):=by
 have h1:=rawEv_back h []
 rw [List.append_nil] at h1
 unfold readE textE
 rw [if_pos h,h1,if_pos ⟨rfl,h⟩]
theorem textE_len (e:EvM):(textE e).length≤5000:=by
 unfold textE
 split
 ·rename_i h
  have N:=right_nums h
  have i1:=encI_len e.target ⟨by have:=N.target;omega,by have:=N.target;omega⟩
  have i2:=encI_len e.quote ⟨by have:=N.quote;omega,by have:=N.quote;omega⟩
  have i3:=encI_len e.who ⟨by have:=N.who;omega,by have:=N.who;omega⟩
  have n1:=encI_len e.kind ⟨by have:=N.kind;omega,by have:=N.kind;omega⟩
  have n2:=encI_len e.author ⟨by have:=N.author;omega,by have:=N.author;omega⟩
  have n3:=encI_len e.seq ⟨by have:=N.seq;omega,by have:=N.seq;omega⟩
  have n4:=encI_len e.group ⟨by have:=N.group;omega,by have:=N.group;omega⟩
  have n5:=encI_len e.n ⟨by have:=N.n;omega,by have:=N.n;omega⟩
  have n6:=encI_len e.step ⟨by have:=N.step;omega,by have:=N.step;omega⟩
  have l1:=flat_bound encI 22 e.causes (fun x hx=>encI_len x (by have:=N.causes x hx;exact ⟨by omega,by omega⟩))
  have l2:=flat_bound encI 22 e.files (fun x hx=>encI_len x (by have:=N.files x hx;exact ⟨by omega,by omega⟩))
  have k1:=Lib.itoa_length_le e.causes.length (by omega) (by have:=N.cl;omega)
  have k2:=Lib.itoa_length_le e.files.length (by omega) (by have:=N.fl;omega)
  have ht:e.text.data.toList.length=e.text.size:=rfl
  have t1:=encT_len e.text.data.toList ⟨by omega,by have:=N.text;omega⟩
  have:=N.cl
  have:=N.fl
  have:=N.text
  unfold textRaw
  rw [encN_pos N.kind.1,encN_pos N.author.1,encN_pos N.seq.1,encN_pos N.group.1,encN_pos N.n.1,encN_pos N.step.1]
  simp only [List.length_append,encL,List.length_cons,List.length_nil]
  omega
 ·simp
/-! Lists of a state. -/
def numsL (l:List Int):List UInt8:=l.flatMap encN
def lstE {T:Type} (one:T→List UInt8) (l:List T):List UInt8:=encN l.length++l.flatMap one
def rdGo {T:Type} (one:RS→T × RS):Nat→RS→List T→List T × RS
 | 0,s,out=>(out,s)
 | n+1,s,out=>if s.rest=[] then (out,s) else rdGo one n (one s).2 (out++[(one s).1])
def rdLs {T:Type} (one:RS→T × RS) (s:RS):List T × RS:=rdGo one (rdN s).1.toNat (rdN s).2 []
theorem rdGo_nil {T:Type} (one:RS→T × RS) (n:Nat) (s:RS) (out:List T) (h:s.rest=[]):rdGo one n s out=(out,s):=by
 cases n <;> simp [rdGo,h]
theorem rdGo_go {T:Type} (one:RS→T × RS) (n:Nat) (s:RS) (out:List T) (h:s.rest≠[]):rdGo one (n+1) s out=rdGo one n (one s).2 (out++[(one s).1]):=by
 simp [rdGo,h]
theorem rdGo_back {T:Type} (one:RS→T × RS) (enc:T→List UInt8):∀ (l:List T) (tl:List UInt8) (out:List T),(∀ x∈l,enc x≠[])→(∀ x∈l,∀ tl,one ⟨enc x++tl,false⟩=(x,⟨tl,false⟩)) →
  rdGo one l.length ⟨l.flatMap enc++tl,false⟩ out=(out++l,⟨tl,false⟩)
 | [],tl,out,_,_=>by simp [rdGo]
 | x::l,tl,out,hn,h=>by
  have h1:=h x (by simp) (l.flatMap enc++tl)
  have e:(x::l).flatMap enc++tl=enc x++(l.flatMap enc++tl):=by simp
  rw [List.length_cons,rdGo_go _ _ _ _ (by rw [e];simp [hn x (by simp)]),e,h1]
  simp only
  rw [rdGo_back one enc l tl _ (fun y hy=>hn y (by simp [hy])) (fun y hy=>h y (by simp [hy]))]
  simp
theorem rdLs_back {T:Type} (one:RS→T × RS) (enc:T→List UInt8) (l:List T) (tl:List UInt8) (hl:l.length≤9223372036854775807) (hn:∀ x∈l,enc x≠[]) (h:∀ x∈l,∀ tl,one ⟨enc x++tl,false⟩=(x,⟨tl,false⟩)) :
  rdLs one ⟨lstE enc l++tl,false⟩=(l,⟨tl,false⟩):=by
 unfold rdLs lstE
 rw [List.append_assoc,rdN_back (by omega) (by omega)]
 simp only [Int.toNat_natCast]
 rw [rdGo_back one enc l tl [] hn h]
 simp
def EatsN {T:Type} (one:RS→T × RS):Prop:=∀ s,s.rest≠[]→(one s).2.rest.length+1≤s.rest.length
theorem rNum_eatsN (e:UInt8) (m:Int) (s:RS) (h:s.rest≠[]):(rNum e m s).2.rest.length+1≤s.rest.length:=by
 have hl:0<s.rest.length:=List.length_pos_iff.2 h
 have h1:=indexByte_in (s.rest.take 21) e
 have h2:(s.rest.take 21).length≤s.rest.length:=by simp;omega
 unfold rNum RS.fail
 simp only
 split
 ·exact hl
 ·have h3:=h1 (by omega)
  split
  ·split
   ·show (s.rest.drop ((Lib.indexByte (s.rest.take 21) e).toNat+1)).length+1≤_
    rw [List.length_drop]
    omega
   ·exact hl
  ·exact hl
theorem rText_eatsN (s:RS) (h:s.rest≠[]):(rText s).2.rest.length+1≤s.rest.length:=by
 have h1:=rNum_eatsN 58 0 s h
 have h2:(rText s).2.rest.length≤(rNum 58 0 s).2.rest.length:=by
  have h2:=rClose_rest 44 ⟨(rNum 58 0 s).2.rest.drop (rNum 58 0 s).1.toNat,(rNum 58 0 s).2.bad⟩
  simp only [List.length_drop] at h2
  unfold rText
  simp only
  split
  ·simp [RS.fail]
  ·split
   ·show (rClose _ _).rest.length≤_;omega
   ·show (rClose _ _).rest.length≤_;omega
 omega
theorem rdGo_len {T:Type} {one:RS→T × RS} (h:EatsN one):∀ (n:Nat) (s:RS) (out:List T),(rdGo one n s out).1.length+(rdGo one n s out).2.rest.length≤out.length+s.rest.length
 | 0,s,out=>by simp [rdGo]
 | n+1,s,out=>by
  by_cases hs:s.rest=[]
  ·rw [rdGo_nil _ _ _ _ hs]
   exact Nat.le_refl _
  ·rw [rdGo_go _ _ _ _ hs]
   have h1:=rdGo_len h n (one s).2 (out++[(one s).1])
   have h2:=h s hs
   simp only [List.length_append,List.length_cons,List.length_nil] at h1
   omega
theorem rdLs_len {T:Type} {one:RS→T × RS} (h:EatsN one) (s:RS):(rdLs one s).1.length+(rdLs one s).2.rest.length≤s.rest.length:=by
 have h1:=rdGo_len h (rdN s).1.toNat (rdN s).2 []
 have h2:(rdN s).2.rest.length≤s.rest.length:=rNum_rest 59 0 s
 unfold rdLs
 simp only [List.length_nil] at h1
 omega
theorem rdGo_all {T:Type} (one:RS→T × RS) (p:T→Prop) (h:∀ s,p (one s).1):∀ (n:Nat) (s:RS) (out:List T),(∀ x∈out,p x)→∀ x∈(rdGo one n s out).1,p x
 | 0,s,out,ho=>by simpa [rdGo] using ho
 | n+1,s,out,ho=>by
  rw [rdGo]
  split
  ·exact ho
  ·refine rdGo_all one p h n _ _ fun x hx=>?_
   rcases List.mem_append.1 hx with hx | hx
   ·exact ho x hx
   ·simp only [List.mem_singleton] at hx;subst hx;exact h s
theorem rdLs_all {T:Type} (one:RS→T × RS) (p:T→Prop) (h:∀ s,p (one s).1) (s:RS):∀ x∈(rdLs one s).1,p x:=rdGo_all one p h _ _ _ (by simp)
theorem rdLs_rest {T:Type} {one:RS→T × RS} (h:EatsN one) (s:RS):(rdLs one s).2.rest.length≤s.rest.length:=by
 have:=rdLs_len h s
 omega
def one2 (s:RS):D2 × RS:=(⟨(rdN s).1,(rdN (rdN s).2).1⟩,(rdN (rdN s).2).2)
def one3 (s:RS):D3 × RS:=(⟨(rdN s).1,(rdN (rdN s).2).1,(rdN (rdN (rdN s).2).2).1⟩,(rdN (rdN (rdN s).2).2).2)
def one4 (s:RS):D4 × RS:=(⟨(rdN s).1,(rdN (rdN s).2).1,(rdN (rdN (rdN s).2).2).1,(rdN (rdN (rdN (rdN s).2).2).2).1⟩,(rdN (rdN (rdN (rdN s).2).2).2).2)
def oneH (s:RS):D4 × RS:=(⟨(rdN s).1,(rdN (rdN s).2).1,(rdN (rdN (rdN s).2).2).1,(rdI (rdN (rdN (rdN s).2).2).2).1⟩,(rdI (rdN (rdN (rdN s).2).2).2).2)
def oneB (s:RS):E3 × RS:=(⟨(rdN s).1,(rdN (rdN s).2).1,(rdN (rdN (rdN s).2).2).1==1⟩,(rdN (rdN (rdN s).2).2).2)
def one5 (s:RS):E5 × RS:=(⟨(rdN s).1,(rdN (rdN s).2).1,(rdN (rdN (rdN s).2).2).1,(rdN (rdN (rdN (rdN s).2).2).2).1,(rdN (rdN (rdN (rdN (rdN s).2).2).2).2).1==1⟩,(rdN (rdN (rdN (rdN (rdN s).2).2).2).2).2)
def oneE (s:RS):EvM × RS:=((readE (rText s).1).1,(rText s).2)
theorem eats_fst {s q r:RS} (h1:q.rest.length+1≤s.rest.length) (h2:r.rest.length≤q.rest.length):r.rest.length+1≤s.rest.length:=by omega
theorem one2_eats:EatsN one2:=fun s h=>eats_fst (rNum_eatsN 59 0 s h) (rNum_rest _ _ _)
theorem one3_eats:EatsN one3:=fun s h=>eats_fst (rNum_eatsN 59 0 s h) (Nat.le_trans (rNum_rest _ _ _) (rNum_rest _ _ _))
theorem one4_eats:EatsN one4:=fun s h=>eats_fst (rNum_eatsN 59 0 s h) (Nat.le_trans (rNum_rest _ _ _) (Nat.le_trans (rNum_rest _ _ _) (rNum_rest _ _ _)))
theorem oneH_eats:EatsN oneH:=fun s h=>eats_fst (rNum_eatsN 59 0 s h) (Nat.le_trans (rNum_rest _ _ _) (Nat.le_trans (rNum_rest _ _ _) (rNum_rest _ _ _)))
theorem oneB_eats:EatsN oneB:=fun s h=>eats_fst (rNum_eatsN 59 0 s h) (Nat.le_trans (rNum_rest _ _ _) (rNum_rest _ _ _))
theorem one5_eats:EatsN one5:=fun s h=>eats_fst (rNum_eatsN 59 0 s h) (Nat.le_trans (rNum_rest _ _ _) (Nat.le_trans (rNum_rest _ _ _) (Nat.le_trans (rNum_rest _ _ _) (rNum_rest _ _ _))))
theorem oneE_eats:EatsN oneE:=fun s h=>rText_eatsN s h
theorem rdL5_eats:EatsN (rdLs one5):=fun s h=>by
 have h1:(rdN s).2.rest.length+1≤s.rest.length:=rNum_eatsN 59 0 s h
 have h2:=rdGo_len one5_eats (rdN s).1.toNat (rdN s).2 []
 unfold rdLs
 simp only [List.length_nil] at h2
 show (rdGo one5 (rdN s).1.toNat (rdN s).2 []).2.rest.length+1≤_
 omega
/-! A state. -/
structure StP where
 step:Int
 events:List EvM
 queue:List D4
 sent:List D3
 refused:List D2
 pairs:List D4
 proofs:List D3
 notes:List (List E5)
 bad:List E3
 holds:List D4
 orders:List D4
 sealed:List D3
 debts:List D2
def StP.lift (p:StP):Stt:=⟨p.step,p.events.map (fun e=>⟨e,none,0,none,0⟩),p.queue,p.sent,p.refused,p.pairs,p.proofs,p.notes.map (fun l=>⟨l,none,0⟩),p.bad,p.holds,p.orders,p.sealed,p.debts⟩
def Stt.pl (s:Stt):StP:=⟨s.step,evsL s.events,s.queue,s.sent,s.refused,s.pairs,s.proofs,s.notes.map (·.l),s.bad,s.holds,s.orders,s.sealed,s.debts⟩
def stateP (p:StP):Bool:=stateB p.lift
theorem stateB_pl (s:Stt):stateB s=stateP s.pl:=by
 have h1:evsL (s.pl.lift.events)=evsL s.events:=by simp [StP.lift,Stt.pl,evsL,List.map_map,Function.comp_def]
 have h2:s.pl.lift.events.length=s.events.length:=by simp [StP.lift,Stt.pl]
 have h3:∀ P,s.pl.lift.notes.all (noteOk P)=s.notes.all (noteOk P):=fun P=>by
  simp only [StP.lift,Stt.pl,List.map_map,List.all_map]
  rfl
 have h4:s.pl.lift.notes.length=s.notes.length:=by simp [StP.lift,Stt.pl]
 unfold stateP stateB notedB
 rw [h1,h2,h3,h4]
 rfl
def encD2 (x:D2):List UInt8:=numsL [x.a,x.b]
def encD3 (x:D3):List UInt8:=numsL [x.a,x.b,x.c]
def encD4 (x:D4):List UInt8:=numsL [x.a,x.b,x.c,x.d]
def encH (x:D4):List UInt8:=numsL [x.a,x.b,x.c]++encI x.d
def encE3 (x:E3):List UInt8:=numsL [x.a,x.b,bitI x.t]
def encE5 (x:E5):List UInt8:=numsL [x.a,x.b,x.c,x.d,bitI x.t]
def encEv (e:EvM):List UInt8:=encT (textE e)
theorem numsL_len (l:List Int) (h:∀ x∈l,InInt x):(numsL l).length≤l.length * 22:=flat_bound encN 22 l (fun x hx=>encN_len x (h x hx))
theorem encEv_len (e:EvM):(encEv e).length≤5030:=by
 have h:=textE_len e
 have:=encT_len (textE e) ⟨by omega,by omega⟩
 unfold encEv
 omega
def partsP (p:StP):List (List UInt8):=[encN p.step,lstE encEv p.events,lstE encD4 p.queue,lstE encD3 p.sent,lstE encD2 p.refused,lstE encD4 p.pairs,lstE encD3 p.proofs,lstE (lstE encE5) p.notes,lstE encE3 p.bad,lstE encH p.holds,lstE encD4 p.orders,lstE encD3 p.sealed,lstE encD2 p.debts]
def bodyP (p:StP):List UInt8:=(partsP p).flatMap id
def textP (p:StP):List UInt8:=if stateP p=true then bodyP p else []
def rawP (s0:RS):StP × RS :=
 let a:=rdN s0
 let e:=rdLs oneE a.2
 let q:=rdLs one4 e.2
 let s:=rdLs one3 q.2
 let r:=rdLs one2 s.2
 let p:=rdLs one4 r.2
 let f:=rdLs one3 p.2
 let n:=rdLs (rdLs one5) f.2
 let b:=rdLs oneB n.2
 let h:=rdLs oneH b.2
 let o:=rdLs one4 h.2
 let x:=rdLs one3 o.2
 let d:=rdLs one2 x.2
 (⟨a.1,e.1,q.1,s.1,r.1,p.1,f.1,n.1,b.1,h.1,o.1,x.1,d.1⟩,d.2)
def zStP:StP:=⟨0,[],[],[],[],[],[],[],[],[],[],[],[]⟩
def readP (t:List UInt8):StP × Int:=if rDone (rawP ⟨t,false⟩).2=true∧t≠[]∧textP (rawP ⟨t,false⟩).1=t then ((rawP ⟨t,false⟩).1,0) else (zStP,2)
structure NumsP (p:StP):Prop where
 ev:p.events.length≤1000000
 sealed:∀ x∈p.sealed,x.c≤9223372036854775807
 holds:∀ x∈p.holds,x.a≤9223372036854775807∧x.b≤9223372036854775807
 l1:p.queue.length≤1000000
 l2:p.sent.length≤1000000
 l3:p.refused.length≤1000000
 l4:p.pairs.length≤1000000
 l5:p.proofs.length≤1000000
 l6:p.notes.length≤1000000
 l7:p.bad.length≤1000000
 l8:p.holds.length≤1000000
 l9:p.orders.length≤1000000
 la:p.sealed.length≤1000000
 lb:p.debts.length≤1000000
/- A state that is being read,or written list by list (layer 46;written by genstr.py). -/
def okEv (w:World) (x:EvL):Prop:=EvLOk w w.heap.size x∧∀ i,x.at_ i→i<w.heap.size
def NL.at_ (x:NL) (i:Nat):Prop:=slBlk x.A=some i
def okNL (w:World) (x:NL):Prop:=(RdL 5 E5.cs w w.heap.size x.A x.l∧x.l.length≤9223372036854775807∧x.l.length≤x.c)∧∀ i,x.at_ i→i<w.heap.size
theorem okEv.frame {w w':World} {x:EvL} (h:okEv w x) (hb:∀ i,x.at_ i→w'.heap[i]?=w.heap[i]?) (hs:w.heap.size≤w'.heap.size):okEv w' x :=
 ⟨h.1.turn (fun i hi _=>hb i hi) hs,fun i hi=>Nat.lt_of_lt_of_le (h.2 i hi) hs⟩
theorem okNL.frame {w w':World} {x:NL} (h:okNL w x) (hb:∀ i,x.at_ i→w'.heap[i]?=w.heap[i]?) (hs:w.heap.size≤w'.heap.size):okNL w' x :=
 ⟨⟨h.1.1.turn (fun i hi _=>hb i hi) hs,h.1.2⟩,fun i hi=>Nat.lt_of_lt_of_le (h.2 i hi) hs⟩
structure HeldL {T:Type} (sz:Nat) (enc:T→List Value) (w:World) (lo:Nat) (A:Option Addr × Nat) (xs:List T):Prop where
 rd:RdL sz enc w w.heap.size A.1 xs
 len:xs.length≤9223372036854775807
 cap:xs.length≤A.2
 lo:∀ i,slBlk A.1=some i→lo≤i
theorem HeldL.turn {T:Type} {sz:Nat} {enc:T→List Value} {w w':World} {lo:Nat} {A:Option Addr × Nat} {xs:List T} {F:Nat→Prop} (h:HeldL sz enc w lo A xs) (t:Turn F w w') (hF:∀ i,F i→i<lo):HeldL sz enc w' lo A xs :=
 ⟨h.rd.turn (fun i hi hl=>t.block i hl (fun hf=>by have:=hF i hf;have:=h.lo i hi;omega)) t.size,h.len,h.cap,h.lo⟩
theorem HeldL.nil_ {T:Type} {sz:Nat} {enc:T→List Value} {w:World} {lo:Nat}:HeldL sz enc w lo (none,0) ([]:List T):=⟨RdL.nil_,by simp,by simp,fun i hi=>by cases hi⟩
structure RdSt (w:World) (lo:Nat) (s:Stt) (a:StAd):Prop where
 ke:HeldL 12 EvL.cs w lo a.ke s.events
 kq:HeldL 4 D4.cs w lo a.kq s.queue
 ks:HeldL 3 D3.cs w lo a.ks s.sent
 kr:HeldL 2 D2.cs w lo a.kr s.refused
 kp:HeldL 4 D4.cs w lo a.kp s.pairs
 kf:HeldL 3 D3.cs w lo a.kf s.proofs
 kn:HeldL 1 NL.cs w lo a.kn s.notes
 kb:HeldL 3 E3.cs w lo a.kb s.bad
 kh:HeldL 4 D4.cs w lo a.kh s.holds
 ko:HeldL 4 D4.cs w lo a.ko s.orders
 kx:HeldL 3 D3.cs w lo a.kx s.sealed
 kd:HeldL 2 D2.cs w lo a.kd s.debts
 evs:∀ x∈s.events,okEv w x∧∀ i,x.at_ i→lo≤i
 nos:∀ x∈s.notes,okNL w x∧∀ i,x.at_ i→lo≤i
theorem RdSt.ok {w:World} {lo:Nat} {s:Stt} {a:StAd} (h:RdSt w lo s a):StOk w w.heap.size s a :=
 ⟨h.ke.rd,h.kq.rd,h.ks.rd,h.kr.rd,h.kp.rd,h.kf.rd,h.kn.rd,h.kb.rd,h.kh.rd,h.ko.rd,h.kx.rd,h.kd.rd,fun x hx=>(h.evs x hx).1.1,fun x hx=>(h.nos x hx).1.1,h.ke.len,h.ke.cap,h.kq.len,h.kq.cap,h.ks.len,h.ks.cap,h.kr.len,h.kr.cap,h.kp.len,h.kp.cap,h.kf.len,h.kf.cap,h.kn.len,h.kn.cap,h.kb.len,h.kb.cap,h.kh.len,h.kh.cap,h.ko.len,h.ko.cap,h.kx.len,h.kx.cap,h.kd.len,h.kd.cap⟩
theorem RdSt.turn {w w':World} {lo:Nat} {s:Stt} {a:StAd} {F:Nat→Prop} (h:RdSt w lo s a) (t:Turn F w w') (hF:∀ i,F i→i<lo):RdSt w' lo s a :=
 ⟨h.ke.turn t hF,h.kq.turn t hF,h.ks.turn t hF,h.kr.turn t hF,h.kp.turn t hF,h.kf.turn t hF,h.kn.turn t hF,h.kb.turn t hF,h.kh.turn t hF,h.ko.turn t hF,h.kx.turn t hF,h.kd.turn t hF,
  fun x hx=>⟨(h.evs x hx).1.frame (fun i hi=>t.block i ((h.evs x hx).1.2 i hi) (fun hf=>by have:=hF i hf;have:=(h.evs x hx).2 i hi;omega)) t.size,(h.evs x hx).2⟩,
  fun x hx=>⟨(h.nos x hx).1.frame (fun i hi=>t.block i ((h.nos x hx).1.2 i hi) (fun hf=>by have:=hF i hf;have:=(h.nos x hx).2 i hi;omega)) t.size,(h.nos x hx).2⟩⟩
def sttZ (n:Int):Stt:=⟨n,[],[],[],[],[],[],[],[],[],[],[],[]⟩
def adZ:StAd:=⟨(none,0),(none,0),(none,0),(none,0),(none,0),(none,0),(none,0),(none,0),(none,0),(none,0),(none,0),(none,0)⟩
theorem RdSt.zero (w:World) (lo:Nat) (n:Int):RdSt w lo (sttZ n) adZ :=
 ⟨HeldL.nil_,HeldL.nil_,HeldL.nil_,HeldL.nil_,HeldL.nil_,HeldL.nil_,HeldL.nil_,HeldL.nil_,HeldL.nil_,HeldL.nil_,HeldL.nil_,HeldL.nil_,fun x hx=>(nomatch hx),fun x hx=>(nomatch hx)⟩
section
variable {w:World} {lo b:Nat} {s:Stt} {a:StAd}
theorem RdSt.events (h:RdSt w lo s a) {xs:List EvL} {A:Option Addr} {c:Nat} (hx:HeldL 12 EvL.cs w lo (A,c) xs) (he:∀ x∈xs,okEv w x∧∀ i,x.at_ i→lo≤i):RdSt w lo {s with events:=xs} {a with ke:=(A,c)} :=
 ⟨hx,h.kq,h.ks,h.kr,h.kp,h.kf,h.kn,h.kb,h.kh,h.ko,h.kx,h.kd,he,h.nos⟩
theorem StBox.set_ke (h:StBox b s a w) (xs:List EvL) (A:Option Addr) (c:Nat):StBox b {s with events:=xs} {a with ke:=(A,c)} (w.setCell ⟨b,1,none⟩ (.slice A xs.length c)):=heap_setCell_same w b 1 _ _ _ h
theorem RdSt.queue (h:RdSt w lo s a) {xs:List D4} {A:Option Addr} {c:Nat} (hx:HeldL 4 D4.cs w lo (A,c) xs):RdSt w lo {s with queue:=xs} {a with kq:=(A,c)} :=
 ⟨h.ke,hx,h.ks,h.kr,h.kp,h.kf,h.kn,h.kb,h.kh,h.ko,h.kx,h.kd,h.evs,h.nos⟩
theorem StBox.set_kq (h:StBox b s a w) (xs:List D4) (A:Option Addr) (c:Nat):StBox b {s with queue:=xs} {a with kq:=(A,c)} (w.setCell ⟨b,2,none⟩ (.slice A xs.length c)):=heap_setCell_same w b 2 _ _ _ h
theorem RdSt.sent (h:RdSt w lo s a) {xs:List D3} {A:Option Addr} {c:Nat} (hx:HeldL 3 D3.cs w lo (A,c) xs):RdSt w lo {s with sent:=xs} {a with ks:=(A,c)} :=
 ⟨h.ke,h.kq,hx,h.kr,h.kp,h.kf,h.kn,h.kb,h.kh,h.ko,h.kx,h.kd,h.evs,h.nos⟩
theorem StBox.set_ks (h:StBox b s a w) (xs:List D3) (A:Option Addr) (c:Nat):StBox b {s with sent:=xs} {a with ks:=(A,c)} (w.setCell ⟨b,3,none⟩ (.slice A xs.length c)):=heap_setCell_same w b 3 _ _ _ h
theorem RdSt.refused (h:RdSt w lo s a) {xs:List D2} {A:Option Addr} {c:Nat} (hx:HeldL 2 D2.cs w lo (A,c) xs):RdSt w lo {s with refused:=xs} {a with kr:=(A,c)} :=
 ⟨h.ke,h.kq,h.ks,hx,h.kp,h.kf,h.kn,h.kb,h.kh,h.ko,h.kx,h.kd,h.evs,h.nos⟩
theorem StBox.set_kr (h:StBox b s a w) (xs:List D2) (A:Option Addr) (c:Nat):StBox b {s with refused:=xs} {a with kr:=(A,c)} (w.setCell ⟨b,4,none⟩ (.slice A xs.length c)):=heap_setCell_same w b 4 _ _ _ h
theorem RdSt.pairs (h:RdSt w lo s a) {xs:List D4} {A:Option Addr} {c:Nat} (hx:HeldL 4 D4.cs w lo (A,c) xs):RdSt w lo {s with pairs:=xs} {a with kp:=(A,c)} :=
 ⟨h.ke,h.kq,h.ks,h.kr,hx,h.kf,h.kn,h.kb,h.kh,h.ko,h.kx,h.kd,h.evs,h.nos⟩
theorem StBox.set_kp (h:StBox b s a w) (xs:List D4) (A:Option Addr) (c:Nat):StBox b {s with pairs:=xs} {a with kp:=(A,c)} (w.setCell ⟨b,5,none⟩ (.slice A xs.length c)):=heap_setCell_same w b 5 _ _ _ h
theorem RdSt.proofs (h:RdSt w lo s a) {xs:List D3} {A:Option Addr} {c:Nat} (hx:HeldL 3 D3.cs w lo (A,c) xs):RdSt w lo {s with proofs:=xs} {a with kf:=(A,c)} :=
 ⟨h.ke,h.kq,h.ks,h.kr,h.kp,hx,h.kn,h.kb,h.kh,h.ko,h.kx,h.kd,h.evs,h.nos⟩
theorem StBox.set_kf (h:StBox b s a w) (xs:List D3) (A:Option Addr) (c:Nat):StBox b {s with proofs:=xs} {a with kf:=(A,c)} (w.setCell ⟨b,6,none⟩ (.slice A xs.length c)):=heap_setCell_same w b 6 _ _ _ h
theorem RdSt.notes (h:RdSt w lo s a) {xs:List NL} {A:Option Addr} {c:Nat} (hx:HeldL 1 NL.cs w lo (A,c) xs) (he:∀ x∈xs,okNL w x∧∀ i,x.at_ i→lo≤i):RdSt w lo {s with notes:=xs} {a with kn:=(A,c)} :=
 ⟨h.ke,h.kq,h.ks,h.kr,h.kp,h.kf,hx,h.kb,h.kh,h.ko,h.kx,h.kd,h.evs,he⟩
theorem StBox.set_kn (h:StBox b s a w) (xs:List NL) (A:Option Addr) (c:Nat):StBox b {s with notes:=xs} {a with kn:=(A,c)} (w.setCell ⟨b,7,none⟩ (.slice A xs.length c)):=heap_setCell_same w b 7 _ _ _ h
theorem RdSt.bad (h:RdSt w lo s a) {xs:List E3} {A:Option Addr} {c:Nat} (hx:HeldL 3 E3.cs w lo (A,c) xs):RdSt w lo {s with bad:=xs} {a with kb:=(A,c)} :=
 ⟨h.ke,h.kq,h.ks,h.kr,h.kp,h.kf,h.kn,hx,h.kh,h.ko,h.kx,h.kd,h.evs,h.nos⟩
theorem StBox.set_kb (h:StBox b s a w) (xs:List E3) (A:Option Addr) (c:Nat):StBox b {s with bad:=xs} {a with kb:=(A,c)} (w.setCell ⟨b,8,none⟩ (.slice A xs.length c)):=heap_setCell_same w b 8 _ _ _ h
theorem RdSt.holds (h:RdSt w lo s a) {xs:List D4} {A:Option Addr} {c:Nat} (hx:HeldL 4 D4.cs w lo (A,c) xs):RdSt w lo {s with holds:=xs} {a with kh:=(A,c)} :=
 ⟨h.ke,h.kq,h.ks,h.kr,h.kp,h.kf,h.kn,h.kb,hx,h.ko,h.kx,h.kd,h.evs,h.nos⟩
theorem StBox.set_kh (h:StBox b s a w) (xs:List D4) (A:Option Addr) (c:Nat):StBox b {s with holds:=xs} {a with kh:=(A,c)} (w.setCell ⟨b,9,none⟩ (.slice A xs.length c)):=heap_setCell_same w b 9 _ _ _ h
theorem RdSt.orders (h:RdSt w lo s a) {xs:List D4} {A:Option Addr} {c:Nat} (hx:HeldL 4 D4.cs w lo (A,c) xs):RdSt w lo {s with orders:=xs} {a with ko:=(A,c)} :=
 ⟨h.ke,h.kq,h.ks,h.kr,h.kp,h.kf,h.kn,h.kb,h.kh,hx,h.kx,h.kd,h.evs,h.nos⟩
theorem StBox.set_ko (h:StBox b s a w) (xs:List D4) (A:Option Addr) (c:Nat):StBox b {s with orders:=xs} {a with ko:=(A,c)} (w.setCell ⟨b,10,none⟩ (.slice A xs.length c)):=heap_setCell_same w b 10 _ _ _ h
theorem RdSt.sealed (h:RdSt w lo s a) {xs:List D3} {A:Option Addr} {c:Nat} (hx:HeldL 3 D3.cs w lo (A,c) xs):RdSt w lo {s with sealed:=xs} {a with kx:=(A,c)} :=
 ⟨h.ke,h.kq,h.ks,h.kr,h.kp,h.kf,h.kn,h.kb,h.kh,h.ko,hx,h.kd,h.evs,h.nos⟩
theorem StBox.set_kx (h:StBox b s a w) (xs:List D3) (A:Option Addr) (c:Nat):StBox b {s with sealed:=xs} {a with kx:=(A,c)} (w.setCell ⟨b,11,none⟩ (.slice A xs.length c)):=heap_setCell_same w b 11 _ _ _ h
theorem RdSt.debts (h:RdSt w lo s a) {xs:List D2} {A:Option Addr} {c:Nat} (hx:HeldL 2 D2.cs w lo (A,c) xs):RdSt w lo {s with debts:=xs} {a with kd:=(A,c)} :=
 ⟨h.ke,h.kq,h.ks,h.kr,h.kp,h.kf,h.kn,h.kb,h.kh,h.ko,h.kx,hx,h.evs,h.nos⟩
theorem StBox.set_kd (h:StBox b s a w) (xs:List D2) (A:Option Addr) (c:Nat):StBox b {s with debts:=xs} {a with kd:=(A,c)} (w.setCell ⟨b,12,none⟩ (.slice A xs.length c)):=heap_setCell_same w b 12 _ _ _ h
theorem StBox.set_st (h:StBox b s a w) (n:Int):StBox b {s with step:=n} a (w.setCell ⟨b,0,none⟩ (.int .i64 n)):=heap_setCell_same w b 0 _ _ _ h
theorem RdSt.step (h:RdSt w lo s a) (n:Int):RdSt w lo {s with step:=n} a:=⟨h.ke,h.kq,h.ks,h.kr,h.kp,h.kf,h.kn,h.kb,h.kh,h.ko,h.kx,h.kd,h.evs,h.nos⟩
theorem StBox.zero (w:World):StBox w.heap.size (sttZ 0) adZ (w.alloc (.cells ((sttZ 0).arr adZ) 34)):=(MapKept.heap_alloc w _).1
end
/- Contracts of state.nums,state.list and the closures of state.Text (layer 46;written by genstt.py). -/
structure FunS {T:Type} (w:World) (f:FV) (xs:List T) (vx:T→Value) (one:T→List UInt8):Prop where
 ent:∀ args w',(callFunc f.n args).run Tryz.prog w'=.ok (.enter f.n args) w'
 run:∀ x∈xs,∀ w',Below w.heap.size w w'→Calls Tryz.prog f.n (f.bnd++#[vx x]++f.cap) w' fun e w''=>e=.returned (.string (bs (one x)))∧Below w'.heap.size w' w''
theorem FunS.now {T:Type} {w w':World} {f:FV} {xs:List T} {vx:T→Value} {one:T→List UInt8} (h:FunS w f xs vx one) (hb:Below w.heap.size w w'):FunS w' f xs vx one :=
 ⟨h.ent,fun x hx w2 h2=>h.run x hx w2 (hb.trans (h2.mono hb.size))⟩
theorem stNums_any {B:Nat} (xs:List Int) (A:Option Addr) (c:Nat) (w:World) (hV:Vs B w) (hr:RdL 1 intE w w.heap.size A xs) (hx:∀ x∈xs,InInt x) (hn:xs.length≤1000000000) :
  Calls Tryz.prog 89 #[.slice A xs.length c] w fun e w'=>e=.returned (.string (bs (numsL xs)))∧Below w.heap.size w w':=by
 have HV:=hid hV
 have HR:=hid hr
 have HX:=hid hx
 have HFl:=hid (flat_le encN xs)
 have HL:Hid ((xs.flatMap encN).length≤22000000000):=hid (by have:=flat_bound encN 22 xs (fun x h=>encN_len x (hx x h));omega)
 clear hr hx
 unfold numsL
 go_enter Tryz.func89,Tryz.ntmps89
 go_wp2_with fail
 have hB0:=bld_new w
 have hw0:=(Below.refl w.heap.size w).alloc (Nat.le_refl _) (.cells #[.pointer none,.slice none 0 0] 236)
 obtain ⟨w0,hw0e⟩:∃ x,x=w.alloc (.cells #[.pointer none,.slice none 0 0] 236):=⟨_,rfl⟩
 rw [← hw0e] at hB0 hw0 ⊢
 clear hw0e
 have HB0:=hid hB0
 have HW0:=hid hw0
 clear hB0 hw0
 go_loopw [5,8] (fun _ i wr=>∃ k:Nat,k≤xs.length∧i=.int .i64 k∧Bld w.heap.size w.heap.size ((xs.take k).flatMap encN) wr∧Below w.heap.size w wr) (fun _ i _=>xs.length - (intOf i).toNat)
 case atStart=>exact ⟨0,Nat.zero_le _,rfl,by simpa using HB0.out,HW0.out⟩
 case round =>
  obtain ⟨k,hk,rfl,hbd,hb⟩:=hrel
  have HB:=hid hb
  have HD:=hid hbd
  clear hbd HB0 HW0
  by_cases hlt:k<xs.length
  ·obtain ⟨b,off,hA,hc⟩:=rd_int (HR.out.now hb) hlt
   subst hA
   have HXk:=hid (HX.out _ (List.getElem_mem hlt))
   have HSt:=hid (flat_succ encN xs k hlt)
   generalize xs[k]=x at *
   clear hb
   go_wp2_with fail
   refine (wNum_any x _ (HV.out.on (HB.out.mono HV.out.le)) HXk.out).mono ?_
   rintro e w3 ⟨rfl,hb3⟩
   have HD3:=hid (HD.out.now hb3)
   have HB3:=hid (HB.out.trans (hb3.mono HB.out.size))
   clear hb3
   go_wp2_with fail
   refine (bld_write HD3.out (by have:=HFl.out (k+1);have:=HL.out;rw [HSt.out] at *;simp only [List.length_append,List.length_cons,List.length_nil] at *;omega) HB3.out.size).mono ?_
   rintro e w4 ⟨rfl,hB4,hb4⟩
   have HB4:=hid hB4
   have HW4:=hid (HB3.out.trans hb4)
   clear hB4 hb4
   go_wp2_with fail
   go_roundw
   case rel=>exact ⟨k+1,by omega,by go_num,by rw [HSt.out];exact HB4.out,HW4.out⟩
   case measure=>simp [intOf];omega
  ·skip
   have hke:xs.take k=xs:=List.take_of_length_le (by omega)
   have hD2:=HD.out
   rw [hke] at hD2
   have HD2:=hid hD2
   clear hD2 HD hke
   go_wp2_with fail
   refine (bld_string HD2.out HB.out.size).mono ?_
   rintro e w5 ⟨rfl,hB5,hb5⟩
   have HW5:=hid (HB.out.trans hb5)
   clear hB5 hb5
   go_wp2_with fail
   go_ret
   exact ⟨rfl,HW5.out⟩
theorem liEvent_any {B:Nat} (xs:List EvL) (one:EvL→List UInt8) (f:FV) (A:Option Addr) (c:Nat) (w:World) (hV:Vs B w) (hr:RdL 12 EvL.cs w w.heap.size A xs) (hn:xs.length≤1000000000000) (hlen:(xs.flatMap one).length≤10000000000000) (hf:FunS w f xs EvL.v one) :
  Calls Tryz.prog 92 #[.slice A xs.length c,.func (.func f.n) f.bnd f.cap] w fun e w'=>e=.returned (.string (bs (lstE one xs)))∧Below w.heap.size w w':=by
 have HV:=hid hV
 have HR:=hid hr
 have HF:=hid hf
 have HFl:=hid (flat_le one xs)
 have HL:=hid hlen
 have hl22:=encN_len xs.length ⟨by omega,by omega⟩
 have HL2:=hid hl22
 clear hr hf hlen hl22
 unfold lstE
 go_enter Tryz.func92,Tryz.ntmps92
 go_wp2_with fail
 have hB0:=bld_new w
 have hw0:=(Below.refl w.heap.size w).alloc (Nat.le_refl _) (.cells #[.pointer none,.slice none 0 0] 236)
 obtain ⟨w0,hw0e⟩:∃ x,x=w.alloc (.cells #[.pointer none,.slice none 0 0] 236):=⟨_,rfl⟩
 rw [← hw0e] at hB0 hw0 ⊢
 clear hw0e
 refine (wNum_any xs.length w0 (HV.out.on (hw0.mono HV.out.le)) ⟨by omega,by omega⟩).mono ?_
 rintro e w1 ⟨rfl,hb1⟩
 have hB1:=hid (hB0.now hb1)
 have hw1:=hid (hw0.trans (hb1.mono hw0.size))
 clear hB0 hw0 hb1
 go_wp2_with fail
 refine (bld_write hB1.out (by have:=HL2.out;simp;omega) hw1.out.size).mono ?_
 rintro e w2 ⟨rfl,hB2,hb2⟩
 have HB2:=hid hB2
 have HW2:=hid (hw1.out.trans hb2)
 clear hB1 hw1 hB2 hb2
 go_wp2_with fail
 go_loopw [7,14] (fun _ i wr=>∃ k:Nat,k≤xs.length∧i=.int .i64 k∧Bld w.heap.size w.heap.size (encN xs.length++(xs.take k).flatMap one) wr∧Below w.heap.size w wr) (fun _ i _=>xs.length - (intOf i).toNat)
 case atStart=>exact ⟨0,Nat.zero_le _,rfl,by simpa using HB2.out,HW2.out⟩
 case round =>
  obtain ⟨k,hk,rfl,hbd,hb⟩:=hrel
  have HB:=hid hb
  have HD:=hid hbd
  clear hbd HB2 HW2
  by_cases hlt:k<xs.length
  ·obtain ⟨b,off,rfl,hbB,hcc⟩:=(HR.out.now hb).at_ hlt
   have HSt:=hid (flat_succ one xs k hlt)
   have HC:=hid (HF.out.run xs[k] (List.getElem_mem hlt))
   have HE:=hid HF.out.ent
   have HCc:Hid (wr.rangeAt b (off+k * 12) xs[k].cs):=hid (fun j v hj=>hcc j v hj)
   clear hcc hb
   generalize xs[k]=x at *
   go_upto_region 6 with (first
    | ((with_reducible show wpList _ _ _ (Oper.mk _ (Op.load 56 _) _ _ _ _::_) _ _);refine wpList_load_g rfl 56 (.tmp 16) rfl b (off+k * 12) rfl (x.ev.cs x.cA x.cc x.fA x.fc).toList _ HCc.out Tryz.underlying56 rfl (by kernel_rfl) ?_)
    | fail)
   change Code.wp _ _ _ _ (wr.alloc (.cells (x.ev.cs x.cA x.cc x.fA x.fc) 56))
   have hb1:Below wr.heap.size wr (wr.alloc (.cells (x.ev.cs x.cA x.cc x.fA x.fc) 56)):=(Below.refl _ _).alloc (Nat.le_refl _) _
   have hr3:(wr.alloc (.cells (x.ev.cs x.cA x.cc x.fA x.fc) 56)).rangeAt wr.heap.size 0 (x.ev.cs x.cA x.cc x.fA x.fc).toList:=range_block (MapKept.heap_alloc wr _).1 rfl
   have HB1:=hid hb1
   have HR3:=hid hr3
   clear hb1 hr3
   generalize wr.alloc (.cells (x.ev.cs x.cA x.cc x.fA x.fc) 56)=wv at *
   go_wp2_with (first
    | ((with_reducible show wpList _ _ _ (Oper.mk _ (Op.load 56 _) _ _ _ _::_) _ _);refine wpList_load_g rfl 56 (.tmp 7) rfl wr.heap.size 0 rfl (x.ev.cs x.cA x.cc x.fA x.fc).toList _ HR3.out Tryz.underlying56 rfl (by kernel_rfl) ?_)
    | fail)
   rw [HE.out,Oper.upon_enter]
   refine (HC.out wv (HB.out.trans (HB1.out.mono HB.out.size))).mono ?_
   rintro e w3 ⟨rfl,hb3⟩
   have hb4:Below wr.heap.size wr w3:=(HB1.out.trans (hb3.mono HB1.out.size))
   have HD3:=hid (HD.out.now hb4)
   have HB3:=hid (HB.out.trans (hb4.mono HB.out.size))
   clear hb3 hb4
   go_wp2_with fail
   refine (bld_write HD3.out (by have:=HFl.out (k+1);have:=HL.out;have:=HL2.out;rw [HSt.out] at *;simp only [List.length_append,List.length_cons,List.length_nil] at *;omega) HB3.out.size).mono ?_
   rintro e w4 ⟨rfl,hB4,hb4⟩
   have HB4:=hid hB4
   have HW4:=hid (HB3.out.trans hb4)
   clear hB4 hb4
   go_wp2_with fail
   go_roundw
   case rel=>exact ⟨k+1,by omega,by go_num,by rw [HSt.out,← List.append_assoc];exact HB4.out,HW4.out⟩
   case measure=>simp [intOf];omega
  ·skip
   have hke:xs.take k=xs:=List.take_of_length_le (by omega)
   have hD2:=HD.out
   rw [hke] at hD2
   have HD2:=hid hD2
   clear hD2 HD hke
   go_wp2_with fail
   refine (bld_string HD2.out HB.out.size).mono ?_
   rintro e w5 ⟨rfl,hB5,hb5⟩
   have HW5:=hid (HB.out.trans hb5)
   clear hB5 hb5
   go_wp2_with fail
   go_ret
   exact ⟨rfl,HW5.out⟩
theorem liWaiting_any {B:Nat} (xs:List D4) (one:D4→List UInt8) (f:FV) (A:Option Addr) (c:Nat) (w:World) (hV:Vs B w) (hr:RdL 4 D4.cs w w.heap.size A xs) (hn:xs.length≤1000000000000) (hlen:(xs.flatMap one).length≤10000000000000) (hf:FunS w f xs D4.v one) :
  Calls Tryz.prog 96 #[.slice A xs.length c,.func (.func f.n) f.bnd f.cap] w fun e w'=>e=.returned (.string (bs (lstE one xs)))∧Below w.heap.size w w':=by
 have HV:=hid hV
 have HR:=hid hr
 have HF:=hid hf
 have HFl:=hid (flat_le one xs)
 have HL:=hid hlen
 have hl22:=encN_len xs.length ⟨by omega,by omega⟩
 have HL2:=hid hl22
 clear hr hf hlen hl22
 unfold lstE
 go_enter Tryz.func96,Tryz.ntmps96
 go_wp2_with fail
 have hB0:=bld_new w
 have hw0:=(Below.refl w.heap.size w).alloc (Nat.le_refl _) (.cells #[.pointer none,.slice none 0 0] 236)
 obtain ⟨w0,hw0e⟩:∃ x,x=w.alloc (.cells #[.pointer none,.slice none 0 0] 236):=⟨_,rfl⟩
 rw [← hw0e] at hB0 hw0 ⊢
 clear hw0e
 refine (wNum_any xs.length w0 (HV.out.on (hw0.mono HV.out.le)) ⟨by omega,by omega⟩).mono ?_
 rintro e w1 ⟨rfl,hb1⟩
 have hB1:=hid (hB0.now hb1)
 have hw1:=hid (hw0.trans (hb1.mono hw0.size))
 clear hB0 hw0 hb1
 go_wp2_with fail
 refine (bld_write hB1.out (by have:=HL2.out;simp;omega) hw1.out.size).mono ?_
 rintro e w2 ⟨rfl,hB2,hb2⟩
 have HB2:=hid hB2
 have HW2:=hid (hw1.out.trans hb2)
 clear hB1 hw1 hB2 hb2
 go_wp2_with fail
 go_loopw [7,14] (fun _ i wr=>∃ k:Nat,k≤xs.length∧i=.int .i64 k∧Bld w.heap.size w.heap.size (encN xs.length++(xs.take k).flatMap one) wr∧Below w.heap.size w wr) (fun _ i _=>xs.length - (intOf i).toNat)
 case atStart=>exact ⟨0,Nat.zero_le _,rfl,by simpa using HB2.out,HW2.out⟩
 case round =>
  obtain ⟨k,hk,rfl,hbd,hb⟩:=hrel
  have HB:=hid hb
  have HD:=hid hbd
  clear hbd HB2 HW2
  by_cases hlt:k<xs.length
  ·obtain ⟨b,off,rfl,hbB,c0,c1,c2,c3⟩:=rdD4 (HR.out.now hb) hlt
   have HSt:=hid (flat_succ one xs k hlt)
   have HC:=hid (HF.out.run xs[k] (List.getElem_mem hlt))
   have HE:=hid HF.out.ent
   clear hb
   generalize xs[k]=x at *
   go_wp2_with fail
   rw [HE.out,Oper.upon_enter]
   refine (HC.out _ (by have hb:=HB.out;have hs:=hb.size;repeat (first | with_reducible exact Below.refl _ _ | with_reducible assumption | with_reducible refine Below.drew ?_ | with_reducible refine Below.alloc ?_ (by first | omega | (simp;done) | (simp;omega)) _))).mono ?_
   rintro e w3 ⟨rfl,hb3⟩
   have hb4:Below wr.heap.size wr w3:=((show Below wr.heap.size wr (wr.alloc _) from (Below.refl _ _).alloc (Nat.le_refl _) _).trans (hb3.mono (by simp)))
   have HD3:=hid (HD.out.now hb4)
   have HB3:=hid (HB.out.trans (hb4.mono HB.out.size))
   clear hb3 hb4
   go_wp2_with fail
   refine (bld_write HD3.out (by have:=HFl.out (k+1);have:=HL.out;have:=HL2.out;rw [HSt.out] at *;simp only [List.length_append,List.length_cons,List.length_nil] at *;omega) HB3.out.size).mono ?_
   rintro e w4 ⟨rfl,hB4,hb4⟩
   have HB4:=hid hB4
   have HW4:=hid (HB3.out.trans hb4)
   clear hB4 hb4
   go_wp2_with fail
   go_roundw
   case rel=>exact ⟨k+1,by omega,by go_num,by rw [HSt.out,← List.append_assoc];exact HB4.out,HW4.out⟩
   case measure=>simp [intOf];omega
  ·skip
   have hke:xs.take k=xs:=List.take_of_length_le (by omega)
   have hD2:=HD.out
   rw [hke] at hD2
   have HD2:=hid hD2
   clear hD2 HD hke
   go_wp2_with fail
   refine (bld_string HD2.out HB.out.size).mono ?_
   rintro e w5 ⟨rfl,hB5,hb5⟩
   have HW5:=hid (HB.out.trans hb5)
   clear hB5 hb5
   go_wp2_with fail
   go_ret
   exact ⟨rfl,HW5.out⟩
theorem liSent_any {B:Nat} (xs:List D3) (one:D3→List UInt8) (f:FV) (A:Option Addr) (c:Nat) (w:World) (hV:Vs B w) (hr:RdL 3 D3.cs w w.heap.size A xs) (hn:xs.length≤1000000000000) (hlen:(xs.flatMap one).length≤10000000000000) (hf:FunS w f xs D3.v one) :
  Calls Tryz.prog 98 #[.slice A xs.length c,.func (.func f.n) f.bnd f.cap] w fun e w'=>e=.returned (.string (bs (lstE one xs)))∧Below w.heap.size w w':=by
 have HV:=hid hV
 have HR:=hid hr
 have HF:=hid hf
 have HFl:=hid (flat_le one xs)
 have HL:=hid hlen
 have hl22:=encN_len xs.length ⟨by omega,by omega⟩
 have HL2:=hid hl22
 clear hr hf hlen hl22
 unfold lstE
 go_enter Tryz.func98,Tryz.ntmps98
 go_wp2_with fail
 have hB0:=bld_new w
 have hw0:=(Below.refl w.heap.size w).alloc (Nat.le_refl _) (.cells #[.pointer none,.slice none 0 0] 236)
 obtain ⟨w0,hw0e⟩:∃ x,x=w.alloc (.cells #[.pointer none,.slice none 0 0] 236):=⟨_,rfl⟩
 rw [← hw0e] at hB0 hw0 ⊢
 clear hw0e
 refine (wNum_any xs.length w0 (HV.out.on (hw0.mono HV.out.le)) ⟨by omega,by omega⟩).mono ?_
 rintro e w1 ⟨rfl,hb1⟩
 have hB1:=hid (hB0.now hb1)
 have hw1:=hid (hw0.trans (hb1.mono hw0.size))
 clear hB0 hw0 hb1
 go_wp2_with fail
 refine (bld_write hB1.out (by have:=HL2.out;simp;omega) hw1.out.size).mono ?_
 rintro e w2 ⟨rfl,hB2,hb2⟩
 have HB2:=hid hB2
 have HW2:=hid (hw1.out.trans hb2)
 clear hB1 hw1 hB2 hb2
 go_wp2_with fail
 go_loopw [7,14] (fun _ i wr=>∃ k:Nat,k≤xs.length∧i=.int .i64 k∧Bld w.heap.size w.heap.size (encN xs.length++(xs.take k).flatMap one) wr∧Below w.heap.size w wr) (fun _ i _=>xs.length - (intOf i).toNat)
 case atStart=>exact ⟨0,Nat.zero_le _,rfl,by simpa using HB2.out,HW2.out⟩
 case round =>
  obtain ⟨k,hk,rfl,hbd,hb⟩:=hrel
  have HB:=hid hb
  have HD:=hid hbd
  clear hbd HB2 HW2
  by_cases hlt:k<xs.length
  ·obtain ⟨b,off,rfl,hbB,c0,c1,c2⟩:=rdD3 (HR.out.now hb) hlt
   have HSt:=hid (flat_succ one xs k hlt)
   have HC:=hid (HF.out.run xs[k] (List.getElem_mem hlt))
   have HE:=hid HF.out.ent
   clear hb
   generalize xs[k]=x at *
   go_wp2_with fail
   rw [HE.out,Oper.upon_enter]
   refine (HC.out _ (by have hb:=HB.out;have hs:=hb.size;repeat (first | with_reducible exact Below.refl _ _ | with_reducible assumption | with_reducible refine Below.drew ?_ | with_reducible refine Below.alloc ?_ (by first | omega | (simp;done) | (simp;omega)) _))).mono ?_
   rintro e w3 ⟨rfl,hb3⟩
   have hb4:Below wr.heap.size wr w3:=((show Below wr.heap.size wr (wr.alloc _) from (Below.refl _ _).alloc (Nat.le_refl _) _).trans (hb3.mono (by simp)))
   have HD3:=hid (HD.out.now hb4)
   have HB3:=hid (HB.out.trans (hb4.mono HB.out.size))
   clear hb3 hb4
   go_wp2_with fail
   refine (bld_write HD3.out (by have:=HFl.out (k+1);have:=HL.out;have:=HL2.out;rw [HSt.out] at *;simp only [List.length_append,List.length_cons,List.length_nil] at *;omega) HB3.out.size).mono ?_
   rintro e w4 ⟨rfl,hB4,hb4⟩
   have HB4:=hid hB4
   have HW4:=hid (HB3.out.trans hb4)
   clear hB4 hb4
   go_wp2_with fail
   go_roundw
   case rel=>exact ⟨k+1,by omega,by go_num,by rw [HSt.out,← List.append_assoc];exact HB4.out,HW4.out⟩
   case measure=>simp [intOf];omega
  ·skip
   have hke:xs.take k=xs:=List.take_of_length_le (by omega)
   have hD2:=HD.out
   rw [hke] at hD2
   have HD2:=hid hD2
   clear hD2 HD hke
   go_wp2_with fail
   refine (bld_string HD2.out HB.out.size).mono ?_
   rintro e w5 ⟨rfl,hB5,hb5⟩
   have HW5:=hid (HB.out.trans hb5)
   clear hB5 hb5
   go_wp2_with fail
   go_ret
   exact ⟨rfl,HW5.out⟩
theorem liDebt_any {B:Nat} (xs:List D2) (one:D2→List UInt8) (f:FV) (A:Option Addr) (c:Nat) (w:World) (hV:Vs B w) (hr:RdL 2 D2.cs w w.heap.size A xs) (hn:xs.length≤1000000000000) (hlen:(xs.flatMap one).length≤10000000000000) (hf:FunS w f xs D2.v one) :
  Calls Tryz.prog 100 #[.slice A xs.length c,.func (.func f.n) f.bnd f.cap] w fun e w'=>e=.returned (.string (bs (lstE one xs)))∧Below w.heap.size w w':=by
 have HV:=hid hV
 have HR:=hid hr
 have HF:=hid hf
 have HFl:=hid (flat_le one xs)
 have HL:=hid hlen
 have hl22:=encN_len xs.length ⟨by omega,by omega⟩
 have HL2:=hid hl22
 clear hr hf hlen hl22
 unfold lstE
 go_enter Tryz.func100,Tryz.ntmps100
 go_wp2_with fail
 have hB0:=bld_new w
 have hw0:=(Below.refl w.heap.size w).alloc (Nat.le_refl _) (.cells #[.pointer none,.slice none 0 0] 236)
 obtain ⟨w0,hw0e⟩:∃ x,x=w.alloc (.cells #[.pointer none,.slice none 0 0] 236):=⟨_,rfl⟩
 rw [← hw0e] at hB0 hw0 ⊢
 clear hw0e
 refine (wNum_any xs.length w0 (HV.out.on (hw0.mono HV.out.le)) ⟨by omega,by omega⟩).mono ?_
 rintro e w1 ⟨rfl,hb1⟩
 have hB1:=hid (hB0.now hb1)
 have hw1:=hid (hw0.trans (hb1.mono hw0.size))
 clear hB0 hw0 hb1
 go_wp2_with fail
 refine (bld_write hB1.out (by have:=HL2.out;simp;omega) hw1.out.size).mono ?_
 rintro e w2 ⟨rfl,hB2,hb2⟩
 have HB2:=hid hB2
 have HW2:=hid (hw1.out.trans hb2)
 clear hB1 hw1 hB2 hb2
 go_wp2_with fail
 go_loopw [7,14] (fun _ i wr=>∃ k:Nat,k≤xs.length∧i=.int .i64 k∧Bld w.heap.size w.heap.size (encN xs.length++(xs.take k).flatMap one) wr∧Below w.heap.size w wr) (fun _ i _=>xs.length - (intOf i).toNat)
 case atStart=>exact ⟨0,Nat.zero_le _,rfl,by simpa using HB2.out,HW2.out⟩
 case round =>
  obtain ⟨k,hk,rfl,hbd,hb⟩:=hrel
  have HB:=hid hb
  have HD:=hid hbd
  clear hbd HB2 HW2
  by_cases hlt:k<xs.length
  ·obtain ⟨b,off,rfl,hbB,c0,c1⟩:=rdD2 (HR.out.now hb) hlt
   have HSt:=hid (flat_succ one xs k hlt)
   have HC:=hid (HF.out.run xs[k] (List.getElem_mem hlt))
   have HE:=hid HF.out.ent
   clear hb
   generalize xs[k]=x at *
   go_wp2_with fail
   rw [HE.out,Oper.upon_enter]
   refine (HC.out _ (by have hb:=HB.out;have hs:=hb.size;repeat (first | with_reducible exact Below.refl _ _ | with_reducible assumption | with_reducible refine Below.drew ?_ | with_reducible refine Below.alloc ?_ (by first | omega | (simp;done) | (simp;omega)) _))).mono ?_
   rintro e w3 ⟨rfl,hb3⟩
   have hb4:Below wr.heap.size wr w3:=((show Below wr.heap.size wr (wr.alloc _) from (Below.refl _ _).alloc (Nat.le_refl _) _).trans (hb3.mono (by simp)))
   have HD3:=hid (HD.out.now hb4)
   have HB3:=hid (HB.out.trans (hb4.mono HB.out.size))
   clear hb3 hb4
   go_wp2_with fail
   refine (bld_write HD3.out (by have:=HFl.out (k+1);have:=HL.out;have:=HL2.out;rw [HSt.out] at *;simp only [List.length_append,List.length_cons,List.length_nil] at *;omega) HB3.out.size).mono ?_
   rintro e w4 ⟨rfl,hB4,hb4⟩
   have HB4:=hid hB4
   have HW4:=hid (HB3.out.trans hb4)
   clear hB4 hb4
   go_wp2_with fail
   go_roundw
   case rel=>exact ⟨k+1,by omega,by go_num,by rw [HSt.out,← List.append_assoc];exact HB4.out,HW4.out⟩
   case measure=>simp [intOf];omega
  ·skip
   have hke:xs.take k=xs:=List.take_of_length_le (by omega)
   have hD2:=HD.out
   rw [hke] at hD2
   have HD2:=hid hD2
   clear hD2 HD hke
   go_wp2_with fail
   refine (bld_string HD2.out HB.out.size).mono ?_
   rintro e w5 ⟨rfl,hB5,hb5⟩
   have HW5:=hid (HB.out.trans hb5)
   clear hB5 hb5
   go_wp2_with fail
   go_ret
   exact ⟨rfl,HW5.out⟩
theorem liPair_any {B:Nat} (xs:List D4) (one:D4→List UInt8) (f:FV) (A:Option Addr) (c:Nat) (w:World) (hV:Vs B w) (hr:RdL 4 D4.cs w w.heap.size A xs) (hn:xs.length≤1000000000000) (hlen:(xs.flatMap one).length≤10000000000000) (hf:FunS w f xs D4.v one) :
  Calls Tryz.prog 101 #[.slice A xs.length c,.func (.func f.n) f.bnd f.cap] w fun e w'=>e=.returned (.string (bs (lstE one xs)))∧Below w.heap.size w w':=by
 have HV:=hid hV
 have HR:=hid hr
 have HF:=hid hf
 have HFl:=hid (flat_le one xs)
 have HL:=hid hlen
 have hl22:=encN_len xs.length ⟨by omega,by omega⟩
 have HL2:=hid hl22
 clear hr hf hlen hl22
 unfold lstE
 go_enter Tryz.func101,Tryz.ntmps101
 go_wp2_with fail
 have hB0:=bld_new w
 have hw0:=(Below.refl w.heap.size w).alloc (Nat.le_refl _) (.cells #[.pointer none,.slice none 0 0] 236)
 obtain ⟨w0,hw0e⟩:∃ x,x=w.alloc (.cells #[.pointer none,.slice none 0 0] 236):=⟨_,rfl⟩
 rw [← hw0e] at hB0 hw0 ⊢
 clear hw0e
 refine (wNum_any xs.length w0 (HV.out.on (hw0.mono HV.out.le)) ⟨by omega,by omega⟩).mono ?_
 rintro e w1 ⟨rfl,hb1⟩
 have hB1:=hid (hB0.now hb1)
 have hw1:=hid (hw0.trans (hb1.mono hw0.size))
 clear hB0 hw0 hb1
 go_wp2_with fail
 refine (bld_write hB1.out (by have:=HL2.out;simp;omega) hw1.out.size).mono ?_
 rintro e w2 ⟨rfl,hB2,hb2⟩
 have HB2:=hid hB2
 have HW2:=hid (hw1.out.trans hb2)
 clear hB1 hw1 hB2 hb2
 go_wp2_with fail
 go_loopw [7,14] (fun _ i wr=>∃ k:Nat,k≤xs.length∧i=.int .i64 k∧Bld w.heap.size w.heap.size (encN xs.length++(xs.take k).flatMap one) wr∧Below w.heap.size w wr) (fun _ i _=>xs.length - (intOf i).toNat)
 case atStart=>exact ⟨0,Nat.zero_le _,rfl,by simpa using HB2.out,HW2.out⟩
 case round =>
  obtain ⟨k,hk,rfl,hbd,hb⟩:=hrel
  have HB:=hid hb
  have HD:=hid hbd
  clear hbd HB2 HW2
  by_cases hlt:k<xs.length
  ·obtain ⟨b,off,rfl,hbB,c0,c1,c2,c3⟩:=rdD4 (HR.out.now hb) hlt
   have HSt:=hid (flat_succ one xs k hlt)
   have HC:=hid (HF.out.run xs[k] (List.getElem_mem hlt))
   have HE:=hid HF.out.ent
   clear hb
   generalize xs[k]=x at *
   go_wp2_with fail
   rw [HE.out,Oper.upon_enter]
   refine (HC.out _ (by have hb:=HB.out;have hs:=hb.size;repeat (first | with_reducible exact Below.refl _ _ | with_reducible assumption | with_reducible refine Below.drew ?_ | with_reducible refine Below.alloc ?_ (by first | omega | (simp;done) | (simp;omega)) _))).mono ?_
   rintro e w3 ⟨rfl,hb3⟩
   have hb4:Below wr.heap.size wr w3:=((show Below wr.heap.size wr (wr.alloc _) from (Below.refl _ _).alloc (Nat.le_refl _) _).trans (hb3.mono (by simp)))
   have HD3:=hid (HD.out.now hb4)
   have HB3:=hid (HB.out.trans (hb4.mono HB.out.size))
   clear hb3 hb4
   go_wp2_with fail
   refine (bld_write HD3.out (by have:=HFl.out (k+1);have:=HL.out;have:=HL2.out;rw [HSt.out] at *;simp only [List.length_append,List.length_cons,List.length_nil] at *;omega) HB3.out.size).mono ?_
   rintro e w4 ⟨rfl,hB4,hb4⟩
   have HB4:=hid hB4
   have HW4:=hid (HB3.out.trans hb4)
   clear hB4 hb4
   go_wp2_with fail
   go_roundw
   case rel=>exact ⟨k+1,by omega,by go_num,by rw [HSt.out,← List.append_assoc];exact HB4.out,HW4.out⟩
   case measure=>simp [intOf];omega
  ·skip
   have hke:xs.take k=xs:=List.take_of_length_le (by omega)
   have hD2:=HD.out
   rw [hke] at hD2
   have HD2:=hid hD2
   clear hD2 HD hke
   go_wp2_with fail
   refine (bld_string HD2.out HB.out.size).mono ?_
   rintro e w5 ⟨rfl,hB5,hb5⟩
   have HW5:=hid (HB.out.trans hb5)
   clear hB5 hb5
   go_wp2_with fail
   go_ret
   exact ⟨rfl,HW5.out⟩
theorem liProof_any {B:Nat} (xs:List D3) (one:D3→List UInt8) (f:FV) (A:Option Addr) (c:Nat) (w:World) (hV:Vs B w) (hr:RdL 3 D3.cs w w.heap.size A xs) (hn:xs.length≤1000000000000) (hlen:(xs.flatMap one).length≤10000000000000) (hf:FunS w f xs D3.v one) :
  Calls Tryz.prog 103 #[.slice A xs.length c,.func (.func f.n) f.bnd f.cap] w fun e w'=>e=.returned (.string (bs (lstE one xs)))∧Below w.heap.size w w':=by
 have HV:=hid hV
 have HR:=hid hr
 have HF:=hid hf
 have HFl:=hid (flat_le one xs)
 have HL:=hid hlen
 have hl22:=encN_len xs.length ⟨by omega,by omega⟩
 have HL2:=hid hl22
 clear hr hf hlen hl22
 unfold lstE
 go_enter Tryz.func103,Tryz.ntmps103
 go_wp2_with fail
 have hB0:=bld_new w
 have hw0:=(Below.refl w.heap.size w).alloc (Nat.le_refl _) (.cells #[.pointer none,.slice none 0 0] 236)
 obtain ⟨w0,hw0e⟩:∃ x,x=w.alloc (.cells #[.pointer none,.slice none 0 0] 236):=⟨_,rfl⟩
 rw [← hw0e] at hB0 hw0 ⊢
 clear hw0e
 refine (wNum_any xs.length w0 (HV.out.on (hw0.mono HV.out.le)) ⟨by omega,by omega⟩).mono ?_
 rintro e w1 ⟨rfl,hb1⟩
 have hB1:=hid (hB0.now hb1)
 have hw1:=hid (hw0.trans (hb1.mono hw0.size))
 clear hB0 hw0 hb1
 go_wp2_with fail
 refine (bld_write hB1.out (by have:=HL2.out;simp;omega) hw1.out.size).mono ?_
 rintro e w2 ⟨rfl,hB2,hb2⟩
 have HB2:=hid hB2
 have HW2:=hid (hw1.out.trans hb2)
 clear hB1 hw1 hB2 hb2
 go_wp2_with fail
 go_loopw [7,14] (fun _ i wr=>∃ k:Nat,k≤xs.length∧i=.int .i64 k∧Bld w.heap.size w.heap.size (encN xs.length++(xs.take k).flatMap one) wr∧Below w.heap.size w wr) (fun _ i _=>xs.length - (intOf i).toNat)
 case atStart=>exact ⟨0,Nat.zero_le _,rfl,by simpa using HB2.out,HW2.out⟩
 case round =>
  obtain ⟨k,hk,rfl,hbd,hb⟩:=hrel
  have HB:=hid hb
  have HD:=hid hbd
  clear hbd HB2 HW2
  by_cases hlt:k<xs.length
  ·obtain ⟨b,off,rfl,hbB,c0,c1,c2⟩:=rdD3 (HR.out.now hb) hlt
   have HSt:=hid (flat_succ one xs k hlt)
   have HC:=hid (HF.out.run xs[k] (List.getElem_mem hlt))
   have HE:=hid HF.out.ent
   clear hb
   generalize xs[k]=x at *
   go_wp2_with fail
   rw [HE.out,Oper.upon_enter]
   refine (HC.out _ (by have hb:=HB.out;have hs:=hb.size;repeat (first | with_reducible exact Below.refl _ _ | with_reducible assumption | with_reducible refine Below.drew ?_ | with_reducible refine Below.alloc ?_ (by first | omega | (simp;done) | (simp;omega)) _))).mono ?_
   rintro e w3 ⟨rfl,hb3⟩
   have hb4:Below wr.heap.size wr w3:=((show Below wr.heap.size wr (wr.alloc _) from (Below.refl _ _).alloc (Nat.le_refl _) _).trans (hb3.mono (by simp)))
   have HD3:=hid (HD.out.now hb4)
   have HB3:=hid (HB.out.trans (hb4.mono HB.out.size))
   clear hb3 hb4
   go_wp2_with fail
   refine (bld_write HD3.out (by have:=HFl.out (k+1);have:=HL.out;have:=HL2.out;rw [HSt.out] at *;simp only [List.length_append,List.length_cons,List.length_nil] at *;omega) HB3.out.size).mono ?_
   rintro e w4 ⟨rfl,hB4,hb4⟩
   have HB4:=hid hB4
   have HW4:=hid (HB3.out.trans hb4)
   clear hB4 hb4
   go_wp2_with fail
   go_roundw
   case rel=>exact ⟨k+1,by omega,by go_num,by rw [HSt.out,← List.append_assoc];exact HB4.out,HW4.out⟩
   case measure=>simp [intOf];omega
  ·skip
   have hke:xs.take k=xs:=List.take_of_length_le (by omega)
   have hD2:=HD.out
   rw [hke] at hD2
   have HD2:=hid hD2
   clear hD2 HD hke
   go_wp2_with fail
   refine (bld_string HD2.out HB.out.size).mono ?_
   rintro e w5 ⟨rfl,hB5,hb5⟩
   have HW5:=hid (HB.out.trans hb5)
   clear hB5 hb5
   go_wp2_with fail
   go_ret
   exact ⟨rfl,HW5.out⟩
theorem liNotes_any {B:Nat} (xs:List NL) (one:NL→List UInt8) (f:FV) (A:Option Addr) (c:Nat) (w:World) (hV:Vs B w) (hr:RdL 1 NL.cs w w.heap.size A xs) (hn:xs.length≤1000000000000) (hlen:(xs.flatMap one).length≤10000000000000) (hf:FunS w f xs NL.v one) :
  Calls Tryz.prog 105 #[.slice A xs.length c,.func (.func f.n) f.bnd f.cap] w fun e w'=>e=.returned (.string (bs (lstE one xs)))∧Below w.heap.size w w':=by
 have HV:=hid hV
 have HR:=hid hr
 have HF:=hid hf
 have HFl:=hid (flat_le one xs)
 have HL:=hid hlen
 have hl22:=encN_len xs.length ⟨by omega,by omega⟩
 have HL2:=hid hl22
 clear hr hf hlen hl22
 unfold lstE
 go_enter Tryz.func105,Tryz.ntmps105
 go_wp2_with fail
 have hB0:=bld_new w
 have hw0:=(Below.refl w.heap.size w).alloc (Nat.le_refl _) (.cells #[.pointer none,.slice none 0 0] 236)
 obtain ⟨w0,hw0e⟩:∃ x,x=w.alloc (.cells #[.pointer none,.slice none 0 0] 236):=⟨_,rfl⟩
 rw [← hw0e] at hB0 hw0 ⊢
 clear hw0e
 refine (wNum_any xs.length w0 (HV.out.on (hw0.mono HV.out.le)) ⟨by omega,by omega⟩).mono ?_
 rintro e w1 ⟨rfl,hb1⟩
 have hB1:=hid (hB0.now hb1)
 have hw1:=hid (hw0.trans (hb1.mono hw0.size))
 clear hB0 hw0 hb1
 go_wp2_with fail
 refine (bld_write hB1.out (by have:=HL2.out;simp;omega) hw1.out.size).mono ?_
 rintro e w2 ⟨rfl,hB2,hb2⟩
 have HB2:=hid hB2
 have HW2:=hid (hw1.out.trans hb2)
 clear hB1 hw1 hB2 hb2
 go_wp2_with fail
 go_loopw [7,14] (fun _ i wr=>∃ k:Nat,k≤xs.length∧i=.int .i64 k∧Bld w.heap.size w.heap.size (encN xs.length++(xs.take k).flatMap one) wr∧Below w.heap.size w wr) (fun _ i _=>xs.length - (intOf i).toNat)
 case atStart=>exact ⟨0,Nat.zero_le _,rfl,by simpa using HB2.out,HW2.out⟩
 case round =>
  obtain ⟨k,hk,rfl,hbd,hb⟩:=hrel
  have HB:=hid hb
  have HD:=hid hbd
  clear hbd HB2 HW2
  by_cases hlt:k<xs.length
  ·obtain ⟨b,off,rfl,hbB,c0⟩:=rdNL (HR.out.now hb) hlt
   have HSt:=hid (flat_succ one xs k hlt)
   have HC:=hid (HF.out.run xs[k] (List.getElem_mem hlt))
   have HE:=hid HF.out.ent
   clear hb
   generalize xs[k]=x at *
   go_wp2_with fail
   rw [HE.out,Oper.upon_enter]
   refine (HC.out _ (HB.out)).mono ?_
   rintro e w3 ⟨rfl,hb3⟩
   have hb4:Below wr.heap.size wr w3:=hb3
   have HD3:=hid (HD.out.now hb4)
   have HB3:=hid (HB.out.trans (hb4.mono HB.out.size))
   clear hb3 hb4
   go_wp2_with fail
   refine (bld_write HD3.out (by have:=HFl.out (k+1);have:=HL.out;have:=HL2.out;rw [HSt.out] at *;simp only [List.length_append,List.length_cons,List.length_nil] at *;omega) HB3.out.size).mono ?_
   rintro e w4 ⟨rfl,hB4,hb4⟩
   have HB4:=hid hB4
   have HW4:=hid (HB3.out.trans hb4)
   clear hB4 hb4
   go_wp2_with fail
   go_roundw
   case rel=>exact ⟨k+1,by omega,by go_num,by rw [HSt.out,← List.append_assoc];exact HB4.out,HW4.out⟩
   case measure=>simp [intOf];omega
  ·skip
   have hke:xs.take k=xs:=List.take_of_length_le (by omega)
   have hD2:=HD.out
   rw [hke] at hD2
   have HD2:=hid hD2
   clear hD2 HD hke
   go_wp2_with fail
   refine (bld_string HD2.out HB.out.size).mono ?_
   rintro e w5 ⟨rfl,hB5,hb5⟩
   have HW5:=hid (HB.out.trans hb5)
   clear hB5 hb5
   go_wp2_with fail
   go_ret
   exact ⟨rfl,HW5.out⟩
theorem liNote_any {B:Nat} (xs:List E5) (one:E5→List UInt8) (f:FV) (A:Option Addr) (c:Nat) (w:World) (hV:Vs B w) (hr:RdL 5 E5.cs w w.heap.size A xs) (hn:xs.length≤1000000000000) (hlen:(xs.flatMap one).length≤10000000000000) (hf:FunS w f xs E5.v one) :
  Calls Tryz.prog 107 #[.slice A xs.length c,.func (.func f.n) f.bnd f.cap] w fun e w'=>e=.returned (.string (bs (lstE one xs)))∧Below w.heap.size w w':=by
 have HV:=hid hV
 have HR:=hid hr
 have HF:=hid hf
 have HFl:=hid (flat_le one xs)
 have HL:=hid hlen
 have hl22:=encN_len xs.length ⟨by omega,by omega⟩
 have HL2:=hid hl22
 clear hr hf hlen hl22
 unfold lstE
 go_enter Tryz.func107,Tryz.ntmps107
 go_wp2_with fail
 have hB0:=bld_new w
 have hw0:=(Below.refl w.heap.size w).alloc (Nat.le_refl _) (.cells #[.pointer none,.slice none 0 0] 236)
 obtain ⟨w0,hw0e⟩:∃ x,x=w.alloc (.cells #[.pointer none,.slice none 0 0] 236):=⟨_,rfl⟩
 rw [← hw0e] at hB0 hw0 ⊢
 clear hw0e
 refine (wNum_any xs.length w0 (HV.out.on (hw0.mono HV.out.le)) ⟨by omega,by omega⟩).mono ?_
 rintro e w1 ⟨rfl,hb1⟩
 have hB1:=hid (hB0.now hb1)
 have hw1:=hid (hw0.trans (hb1.mono hw0.size))
 clear hB0 hw0 hb1
 go_wp2_with fail
 refine (bld_write hB1.out (by have:=HL2.out;simp;omega) hw1.out.size).mono ?_
 rintro e w2 ⟨rfl,hB2,hb2⟩
 have HB2:=hid hB2
 have HW2:=hid (hw1.out.trans hb2)
 clear hB1 hw1 hB2 hb2
 go_wp2_with fail
 go_loopw [7,14] (fun _ i wr=>∃ k:Nat,k≤xs.length∧i=.int .i64 k∧Bld w.heap.size w.heap.size (encN xs.length++(xs.take k).flatMap one) wr∧Below w.heap.size w wr) (fun _ i _=>xs.length - (intOf i).toNat)
 case atStart=>exact ⟨0,Nat.zero_le _,rfl,by simpa using HB2.out,HW2.out⟩
 case round =>
  obtain ⟨k,hk,rfl,hbd,hb⟩:=hrel
  have HB:=hid hb
  have HD:=hid hbd
  clear hbd HB2 HW2
  by_cases hlt:k<xs.length
  ·obtain ⟨b,off,rfl,hbB,c0,c1,c2,c3,c4⟩:=rdE5 (HR.out.now hb) hlt
   have HSt:=hid (flat_succ one xs k hlt)
   have HC:=hid (HF.out.run xs[k] (List.getElem_mem hlt))
   have HE:=hid HF.out.ent
   clear hb
   generalize xs[k]=x at *
   go_wp2_with fail
   rw [HE.out,Oper.upon_enter]
   refine (HC.out _ (by have hb:=HB.out;have hs:=hb.size;repeat (first | with_reducible exact Below.refl _ _ | with_reducible assumption | with_reducible refine Below.drew ?_ | with_reducible refine Below.alloc ?_ (by first | omega | (simp;done) | (simp;omega)) _))).mono ?_
   rintro e w3 ⟨rfl,hb3⟩
   have hb4:Below wr.heap.size wr w3:=((show Below wr.heap.size wr (wr.alloc _) from (Below.refl _ _).alloc (Nat.le_refl _) _).trans (hb3.mono (by simp)))
   have HD3:=hid (HD.out.now hb4)
   have HB3:=hid (HB.out.trans (hb4.mono HB.out.size))
   clear hb3 hb4
   go_wp2_with fail
   refine (bld_write HD3.out (by have:=HFl.out (k+1);have:=HL.out;have:=HL2.out;rw [HSt.out] at *;simp only [List.length_append,List.length_cons,List.length_nil] at *;omega) HB3.out.size).mono ?_
   rintro e w4 ⟨rfl,hB4,hb4⟩
   have HB4:=hid hB4
   have HW4:=hid (HB3.out.trans hb4)
   clear hB4 hb4
   go_wp2_with fail
   go_roundw
   case rel=>exact ⟨k+1,by omega,by go_num,by rw [HSt.out,← List.append_assoc];exact HB4.out,HW4.out⟩
   case measure=>simp [intOf];omega
  ·skip
   have hke:xs.take k=xs:=List.take_of_length_le (by omega)
   have hD2:=HD.out
   rw [hke] at hD2
   have HD2:=hid hD2
   clear hD2 HD hke
   go_wp2_with fail
   refine (bld_string HD2.out HB.out.size).mono ?_
   rintro e w5 ⟨rfl,hB5,hb5⟩
   have HW5:=hid (HB.out.trans hb5)
   clear hB5 hb5
   go_wp2_with fail
   go_ret
   exact ⟨rfl,HW5.out⟩
theorem liVerdict_any {B:Nat} (xs:List E3) (one:E3→List UInt8) (f:FV) (A:Option Addr) (c:Nat) (w:World) (hV:Vs B w) (hr:RdL 3 E3.cs w w.heap.size A xs) (hn:xs.length≤1000000000000) (hlen:(xs.flatMap one).length≤10000000000000) (hf:FunS w f xs E3.v one) :
  Calls Tryz.prog 109 #[.slice A xs.length c,.func (.func f.n) f.bnd f.cap] w fun e w'=>e=.returned (.string (bs (lstE one xs)))∧Below w.heap.size w w':=by
 have HV:=hid hV
 have HR:=hid hr
 have HF:=hid hf
 have HFl:=hid (flat_le one xs)
 have HL:=hid hlen
 have hl22:=encN_len xs.length ⟨by omega,by omega⟩
 have HL2:=hid hl22
 clear hr hf hlen hl22
 unfold lstE
 go_enter Tryz.func109,Tryz.ntmps109
 go_wp2_with fail
 have hB0:=bld_new w
 have hw0:=(Below.refl w.heap.size w).alloc (Nat.le_refl _) (.cells #[.pointer none,.slice none 0 0] 236)
 obtain ⟨w0,hw0e⟩:∃ x,x=w.alloc (.cells #[.pointer none,.slice none 0 0] 236):=⟨_,rfl⟩
 rw [← hw0e] at hB0 hw0 ⊢
 clear hw0e
 refine (wNum_any xs.length w0 (HV.out.on (hw0.mono HV.out.le)) ⟨by omega,by omega⟩).mono ?_
 rintro e w1 ⟨rfl,hb1⟩
 have hB1:=hid (hB0.now hb1)
 have hw1:=hid (hw0.trans (hb1.mono hw0.size))
 clear hB0 hw0 hb1
 go_wp2_with fail
 refine (bld_write hB1.out (by have:=HL2.out;simp;omega) hw1.out.size).mono ?_
 rintro e w2 ⟨rfl,hB2,hb2⟩
 have HB2:=hid hB2
 have HW2:=hid (hw1.out.trans hb2)
 clear hB1 hw1 hB2 hb2
 go_wp2_with fail
 go_loopw [7,14] (fun _ i wr=>∃ k:Nat,k≤xs.length∧i=.int .i64 k∧Bld w.heap.size w.heap.size (encN xs.length++(xs.take k).flatMap one) wr∧Below w.heap.size w wr) (fun _ i _=>xs.length - (intOf i).toNat)
 case atStart=>exact ⟨0,Nat.zero_le _,rfl,by simpa using HB2.out,HW2.out⟩
 case round =>
  obtain ⟨k,hk,rfl,hbd,hb⟩:=hrel
  have HB:=hid hb
  have HD:=hid hbd
  clear hbd HB2 HW2
  by_cases hlt:k<xs.length
  ·obtain ⟨b,off,rfl,hbB,c0,c1,c2⟩:=rdE3 (HR.out.now hb) hlt
   have HSt:=hid (flat_succ one xs k hlt)
   have HC:=hid (HF.out.run xs[k] (List.getElem_mem hlt))
   have HE:=hid HF.out.ent
   clear hb
   generalize xs[k]=x at *
   go_wp2_with fail
   rw [HE.out,Oper.upon_enter]
   refine (HC.out _ (by have hb:=HB.out;have hs:=hb.size;repeat (first | with_reducible exact Below.refl _ _ | with_reducible assumption | with_reducible refine Below.drew ?_ | with_reducible refine Below.alloc ?_ (by first | omega | (simp;done) | (simp;omega)) _))).mono ?_
   rintro e w3 ⟨rfl,hb3⟩
   have hb4:Below wr.heap.size wr w3:=((show Below wr.heap.size wr (wr.alloc _) from (Below.refl _ _).alloc (Nat.le_refl _) _).trans (hb3.mono (by simp)))
   have HD3:=hid (HD.out.now hb4)
   have HB3:=hid (HB.out.trans (hb4.mono HB.out.size))
   clear hb3 hb4
   go_wp2_with fail
   refine (bld_write HD3.out (by have:=HFl.out (k+1);have:=HL.out;have:=HL2.out;rw [HSt.out] at *;simp only [List.length_append,List.length_cons,List.length_nil] at *;omega) HB3.out.size).mono ?_
   rintro e w4 ⟨rfl,hB4,hb4⟩
   have HB4:=hid hB4
   have HW4:=hid (HB3.out.trans hb4)
   clear hB4 hb4
   go_wp2_with fail
   go_roundw
   case rel=>exact ⟨k+1,by omega,by go_num,by rw [HSt.out,← List.append_assoc];exact HB4.out,HW4.out⟩
   case measure=>simp [intOf];omega
  ·skip
   have hke:xs.take k=xs:=List.take_of_length_le (by omega)
   have hD2:=HD.out
   rw [hke] at hD2
   have HD2:=hid hD2
   clear hD2 HD hke
   go_wp2_with fail
   refine (bld_string HD2.out HB.out.size).mono ?_
   rintro e w5 ⟨rfl,hB5,hb5⟩
   have HW5:=hid (HB.out.trans hb5)
   clear hB5 hb5
   go_wp2_with fail
   go_ret
   exact ⟨rfl,HW5.out⟩
theorem liHold_any {B:Nat} (xs:List D4) (one:D4→List UInt8) (f:FV) (A:Option Addr) (c:Nat) (w:World) (hV:Vs B w) (hr:RdL 4 D4.cs w w.heap.size A xs) (hn:xs.length≤1000000000000) (hlen:(xs.flatMap one).length≤10000000000000) (hf:FunS w f xs D4.v one) :
  Calls Tryz.prog 112 #[.slice A xs.length c,.func (.func f.n) f.bnd f.cap] w fun e w'=>e=.returned (.string (bs (lstE one xs)))∧Below w.heap.size w w':=by
 have HV:=hid hV
 have HR:=hid hr
 have HF:=hid hf
 have HFl:=hid (flat_le one xs)
 have HL:=hid hlen
 have hl22:=encN_len xs.length ⟨by omega,by omega⟩
 have HL2:=hid hl22
 clear hr hf hlen hl22
 unfold lstE
 go_enter Tryz.func112,Tryz.ntmps112
 go_wp2_with fail
 have hB0:=bld_new w
 have hw0:=(Below.refl w.heap.size w).alloc (Nat.le_refl _) (.cells #[.pointer none,.slice none 0 0] 236)
 obtain ⟨w0,hw0e⟩:∃ x,x=w.alloc (.cells #[.pointer none,.slice none 0 0] 236):=⟨_,rfl⟩
 rw [← hw0e] at hB0 hw0 ⊢
 clear hw0e
 refine (wNum_any xs.length w0 (HV.out.on (hw0.mono HV.out.le)) ⟨by omega,by omega⟩).mono ?_
 rintro e w1 ⟨rfl,hb1⟩
 have hB1:=hid (hB0.now hb1)
 have hw1:=hid (hw0.trans (hb1.mono hw0.size))
 clear hB0 hw0 hb1
 go_wp2_with fail
 refine (bld_write hB1.out (by have:=HL2.out;simp;omega) hw1.out.size).mono ?_
 rintro e w2 ⟨rfl,hB2,hb2⟩
 have HB2:=hid hB2
 have HW2:=hid (hw1.out.trans hb2)
 clear hB1 hw1 hB2 hb2
 go_wp2_with fail
 go_loopw [7,14] (fun _ i wr=>∃ k:Nat,k≤xs.length∧i=.int .i64 k∧Bld w.heap.size w.heap.size (encN xs.length++(xs.take k).flatMap one) wr∧Below w.heap.size w wr) (fun _ i _=>xs.length - (intOf i).toNat)
 case atStart=>exact ⟨0,Nat.zero_le _,rfl,by simpa using HB2.out,HW2.out⟩
 case round =>
  obtain ⟨k,hk,rfl,hbd,hb⟩:=hrel
  have HB:=hid hb
  have HD:=hid hbd
  clear hbd HB2 HW2
  by_cases hlt:k<xs.length
  ·obtain ⟨b,off,rfl,hbB,c0,c1,c2,c3⟩:=rdD4 (HR.out.now hb) hlt
   have HSt:=hid (flat_succ one xs k hlt)
   have HC:=hid (HF.out.run xs[k] (List.getElem_mem hlt))
   have HE:=hid HF.out.ent
   clear hb
   generalize xs[k]=x at *
   go_wp2_with fail
   rw [HE.out,Oper.upon_enter]
   refine (HC.out _ (by have hb:=HB.out;have hs:=hb.size;repeat (first | with_reducible exact Below.refl _ _ | with_reducible assumption | with_reducible refine Below.drew ?_ | with_reducible refine Below.alloc ?_ (by first | omega | (simp;done) | (simp;omega)) _))).mono ?_
   rintro e w3 ⟨rfl,hb3⟩
   have hb4:Below wr.heap.size wr w3:=((show Below wr.heap.size wr (wr.alloc _) from (Below.refl _ _).alloc (Nat.le_refl _) _).trans (hb3.mono (by simp)))
   have HD3:=hid (HD.out.now hb4)
   have HB3:=hid (HB.out.trans (hb4.mono HB.out.size))
   clear hb3 hb4
   go_wp2_with fail
   refine (bld_write HD3.out (by have:=HFl.out (k+1);have:=HL.out;have:=HL2.out;rw [HSt.out] at *;simp only [List.length_append,List.length_cons,List.length_nil] at *;omega) HB3.out.size).mono ?_
   rintro e w4 ⟨rfl,hB4,hb4⟩
   have HB4:=hid hB4
   have HW4:=hid (HB3.out.trans hb4)
   clear hB4 hb4
   go_wp2_with fail
   go_roundw
   case rel=>exact ⟨k+1,by omega,by go_num,by rw [HSt.out,← List.append_assoc];exact HB4.out,HW4.out⟩
   case measure=>simp [intOf];omega
  ·skip
   have hke:xs.take k=xs:=List.take_of_length_le (by omega)
   have hD2:=HD.out
   rw [hke] at hD2
   have HD2:=hid hD2
   clear hD2 HD hke
   go_wp2_with fail
   refine (bld_string HD2.out HB.out.size).mono ?_
   rintro e w5 ⟨rfl,hB5,hb5⟩
   have HW5:=hid (HB.out.trans hb5)
   clear hB5 hb5
   go_wp2_with fail
   go_ret
   exact ⟨rfl,HW5.out⟩
theorem liOrder_any {B:Nat} (xs:List D4) (one:D4→List UInt8) (f:FV) (A:Option Addr) (c:Nat) (w:World) (hV:Vs B w) (hr:RdL 4 D4.cs w w.heap.size A xs) (hn:xs.length≤1000000000000) (hlen:(xs.flatMap one).length≤10000000000000) (hf:FunS w f xs D4.v one) :
  Calls Tryz.prog 115 #[.slice A xs.length c,.func (.func f.n) f.bnd f.cap] w fun e w'=>e=.returned (.string (bs (lstE one xs)))∧Below w.heap.size w w':=by
 have HV:=hid hV
 have HR:=hid hr
 have HF:=hid hf
 have HFl:=hid (flat_le one xs)
 have HL:=hid hlen
 have hl22:=encN_len xs.length ⟨by omega,by omega⟩
 have HL2:=hid hl22
 clear hr hf hlen hl22
 unfold lstE
 go_enter Tryz.func115,Tryz.ntmps115
 go_wp2_with fail
 have hB0:=bld_new w
 have hw0:=(Below.refl w.heap.size w).alloc (Nat.le_refl _) (.cells #[.pointer none,.slice none 0 0] 236)
 obtain ⟨w0,hw0e⟩:∃ x,x=w.alloc (.cells #[.pointer none,.slice none 0 0] 236):=⟨_,rfl⟩
 rw [← hw0e] at hB0 hw0 ⊢
 clear hw0e
 refine (wNum_any xs.length w0 (HV.out.on (hw0.mono HV.out.le)) ⟨by omega,by omega⟩).mono ?_
 rintro e w1 ⟨rfl,hb1⟩
 have hB1:=hid (hB0.now hb1)
 have hw1:=hid (hw0.trans (hb1.mono hw0.size))
 clear hB0 hw0 hb1
 go_wp2_with fail
 refine (bld_write hB1.out (by have:=HL2.out;simp;omega) hw1.out.size).mono ?_
 rintro e w2 ⟨rfl,hB2,hb2⟩
 have HB2:=hid hB2
 have HW2:=hid (hw1.out.trans hb2)
 clear hB1 hw1 hB2 hb2
 go_wp2_with fail
 go_loopw [7,14] (fun _ i wr=>∃ k:Nat,k≤xs.length∧i=.int .i64 k∧Bld w.heap.size w.heap.size (encN xs.length++(xs.take k).flatMap one) wr∧Below w.heap.size w wr) (fun _ i _=>xs.length - (intOf i).toNat)
 case atStart=>exact ⟨0,Nat.zero_le _,rfl,by simpa using HB2.out,HW2.out⟩
 case round =>
  obtain ⟨k,hk,rfl,hbd,hb⟩:=hrel
  have HB:=hid hb
  have HD:=hid hbd
  clear hbd HB2 HW2
  by_cases hlt:k<xs.length
  ·obtain ⟨b,off,rfl,hbB,c0,c1,c2,c3⟩:=rdD4 (HR.out.now hb) hlt
   have HSt:=hid (flat_succ one xs k hlt)
   have HC:=hid (HF.out.run xs[k] (List.getElem_mem hlt))
   have HE:=hid HF.out.ent
   clear hb
   generalize xs[k]=x at *
   go_wp2_with fail
   rw [HE.out,Oper.upon_enter]
   refine (HC.out _ (by have hb:=HB.out;have hs:=hb.size;repeat (first | with_reducible exact Below.refl _ _ | with_reducible assumption | with_reducible refine Below.drew ?_ | with_reducible refine Below.alloc ?_ (by first | omega | (simp;done) | (simp;omega)) _))).mono ?_
   rintro e w3 ⟨rfl,hb3⟩
   have hb4:Below wr.heap.size wr w3:=((show Below wr.heap.size wr (wr.alloc _) from (Below.refl _ _).alloc (Nat.le_refl _) _).trans (hb3.mono (by simp)))
   have HD3:=hid (HD.out.now hb4)
   have HB3:=hid (HB.out.trans (hb4.mono HB.out.size))
   clear hb3 hb4
   go_wp2_with fail
   refine (bld_write HD3.out (by have:=HFl.out (k+1);have:=HL.out;have:=HL2.out;rw [HSt.out] at *;simp only [List.length_append,List.length_cons,List.length_nil] at *;omega) HB3.out.size).mono ?_
   rintro e w4 ⟨rfl,hB4,hb4⟩
   have HB4:=hid hB4
   have HW4:=hid (HB3.out.trans hb4)
   clear hB4 hb4
   go_wp2_with fail
   go_roundw
   case rel=>exact ⟨k+1,by omega,by go_num,by rw [HSt.out,← List.append_assoc];exact HB4.out,HW4.out⟩
   case measure=>simp [intOf];omega
  ·skip
   have hke:xs.take k=xs:=List.take_of_length_le (by omega)
   have hD2:=HD.out
   rw [hke] at hD2
   have HD2:=hid hD2
   clear hD2 HD hke
   go_wp2_with fail
   refine (bld_string HD2.out HB.out.size).mono ?_
   rintro e w5 ⟨rfl,hB5,hb5⟩
   have HW5:=hid (HB.out.trans hb5)
   clear hB5 hb5
   go_wp2_with fail
   go_ret
   exact ⟨rfl,HW5.out⟩
theorem liSealed_any {B:Nat} (xs:List D3) (one:D3→List UInt8) (f:FV) (A:Option Addr) (c:Nat) (w:World) (hV:Vs B w) (hr:RdL 3 D3.cs w w.heap.size A xs) (hn:xs.length≤1000000000000) (hlen:(xs.flatMap one).length≤10000000000000) (hf:FunS w f xs D3.v one) :
  Calls Tryz.prog 117 #[.slice A xs.length c,.func (.func f.n) f.bnd f.cap] w fun e w'=>e=.returned (.string (bs (lstE one xs)))∧Below w.heap.size w w':=by
 have HV:=hid hV
 have HR:=hid hr
 have HF:=hid hf
 have HFl:=hid (flat_le one xs)
 have HL:=hid hlen
 have hl22:=encN_len xs.length ⟨by omega,by omega⟩
 have HL2:=hid hl22
 clear hr hf hlen hl22
 unfold lstE
 go_enter Tryz.func117,Tryz.ntmps117
 go_wp2_with fail
 have hB0:=bld_new w
 have hw0:=(Below.refl w.heap.size w).alloc (Nat.le_refl _) (.cells #[.pointer none,.slice none 0 0] 236)
 obtain ⟨w0,hw0e⟩:∃ x,x=w.alloc (.cells #[.pointer none,.slice none 0 0] 236):=⟨_,rfl⟩
 rw [← hw0e] at hB0 hw0 ⊢
 clear hw0e
 refine (wNum_any xs.length w0 (HV.out.on (hw0.mono HV.out.le)) ⟨by omega,by omega⟩).mono ?_
 rintro e w1 ⟨rfl,hb1⟩
 have hB1:=hid (hB0.now hb1)
 have hw1:=hid (hw0.trans (hb1.mono hw0.size))
 clear hB0 hw0 hb1
 go_wp2_with fail
 refine (bld_write hB1.out (by have:=HL2.out;simp;omega) hw1.out.size).mono ?_
 rintro e w2 ⟨rfl,hB2,hb2⟩
 have HB2:=hid hB2
 have HW2:=hid (hw1.out.trans hb2)
 clear hB1 hw1 hB2 hb2
 go_wp2_with fail
 go_loopw [7,14] (fun _ i wr=>∃ k:Nat,k≤xs.length∧i=.int .i64 k∧Bld w.heap.size w.heap.size (encN xs.length++(xs.take k).flatMap one) wr∧Below w.heap.size w wr) (fun _ i _=>xs.length - (intOf i).toNat)
 case atStart=>exact ⟨0,Nat.zero_le _,rfl,by simpa using HB2.out,HW2.out⟩
 case round =>
  obtain ⟨k,hk,rfl,hbd,hb⟩:=hrel
  have HB:=hid hb
  have HD:=hid hbd
  clear hbd HB2 HW2
  by_cases hlt:k<xs.length
  ·obtain ⟨b,off,rfl,hbB,c0,c1,c2⟩:=rdD3 (HR.out.now hb) hlt
   have HSt:=hid (flat_succ one xs k hlt)
   have HC:=hid (HF.out.run xs[k] (List.getElem_mem hlt))
   have HE:=hid HF.out.ent
   clear hb
   generalize xs[k]=x at *
   go_wp2_with fail
   rw [HE.out,Oper.upon_enter]
   refine (HC.out _ (by have hb:=HB.out;have hs:=hb.size;repeat (first | with_reducible exact Below.refl _ _ | with_reducible assumption | with_reducible refine Below.drew ?_ | with_reducible refine Below.alloc ?_ (by first | omega | (simp;done) | (simp;omega)) _))).mono ?_
   rintro e w3 ⟨rfl,hb3⟩
   have hb4:Below wr.heap.size wr w3:=((show Below wr.heap.size wr (wr.alloc _) from (Below.refl _ _).alloc (Nat.le_refl _) _).trans (hb3.mono (by simp)))
   have HD3:=hid (HD.out.now hb4)
   have HB3:=hid (HB.out.trans (hb4.mono HB.out.size))
   clear hb3 hb4
   go_wp2_with fail
   refine (bld_write HD3.out (by have:=HFl.out (k+1);have:=HL.out;have:=HL2.out;rw [HSt.out] at *;simp only [List.length_append,List.length_cons,List.length_nil] at *;omega) HB3.out.size).mono ?_
   rintro e w4 ⟨rfl,hB4,hb4⟩
   have HB4:=hid hB4
   have HW4:=hid (HB3.out.trans hb4)
   clear hB4 hb4
   go_wp2_with fail
   go_roundw
   case rel=>exact ⟨k+1,by omega,by go_num,by rw [HSt.out,← List.append_assoc];exact HB4.out,HW4.out⟩
   case measure=>simp [intOf];omega
  ·skip
   have hke:xs.take k=xs:=List.take_of_length_le (by omega)
   have hD2:=HD.out
   rw [hke] at hD2
   have HD2:=hid hD2
   clear hD2 HD hke
   go_wp2_with fail
   refine (bld_string HD2.out HB.out.size).mono ?_
   rintro e w5 ⟨rfl,hB5,hb5⟩
   have HW5:=hid (HB.out.trans hb5)
   clear hB5 hb5
   go_wp2_with fail
   go_ret
   exact ⟨rfl,HW5.out⟩
end Go.Proofs.YthlpehhlhebhbaaGreatDoor
