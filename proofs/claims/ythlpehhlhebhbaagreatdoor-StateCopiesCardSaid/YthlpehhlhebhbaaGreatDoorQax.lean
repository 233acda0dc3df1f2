/- Contracts and plain laws, joined: StBn, StI, StJ. -/
import Derived.Test.YthlpehhlhebhbaaGreatDoorQaw
import Derived.Deep.DeepCutAuto
import Derived.Deep.CutBlock
/- IndexFunc,ContainsFunc,state.each at lists of notes (written by genstb.py). -/
set_option linter.unusedSimpArgs false
set_option linter.unusedVariables false
namespace Go.Proofs.YthlpehhlhebhbaaGreatDoor
set_option maxHeartbeats 4000000
open Lib (hid)
open Go.RowKit
set_option maxRecDepth 100000
theorem ixNotes_any (xs:List (NL)) (P:NL→Bool) (f:FV) (A:Option Addr) (c:Nat) (w:World) (hr:RdL 1 NL.cs w w.heap.size A xs) (hx:xs.length≤9223372036854775807) (hf:FunB w f xs NL.v P) :
  Calls Tryz.prog 278 #[.slice A xs.length c,.func (.func f.n) f.bnd f.cap] w fun e w'=>∃ i,e=.returned (.int .i64 i)∧decide (0≤i)=xs.any P∧Below w.heap.size w w':=by
 have HR:=hid hr
 have HF:=hid hf
 clear hr hf
 go_enter Tryz.func278,Tryz.ntmps278
 go_wp2_with fail
 go_loopw [5,8] (fun _ i wr=>∃ k:Nat,k≤xs.length∧i=.int .i64 k∧(xs.take k).any P=false∧Below w.heap.size w wr) (fun _ i _=>xs.length - (intOf i).toNat)
 case atStart=>exact ⟨0,Nat.zero_le _,rfl,rfl,Below.refl _ _⟩
 case round =>
  obtain ⟨k,hk,rfl,hfk,hbw⟩:=hrel
  have HFk:=hid hfk
  have HB:=hid hbw
  clear hfk
  by_cases hlt:k<xs.length
  ·obtain ⟨b,off,rfl,hb,c0⟩:=rdNL (HR.out.now hbw) hlt
   have HC:=hid (HF.out.run xs[k] (List.getElem_mem hlt) wr hbw)
   have HE:=hid HF.out.ent
   have HT:=hid (any_take P xs k hlt HFk.out)
   have HH:=hid (any_hit P xs k hlt)
   clear hbw
   generalize xs[k]=x at *
   go_wp2_with fail
   rw [HE.out,Oper.upon_enter]
   refine HC.out.mono ?_
   rintro e w1 ⟨rfl,hb1⟩
   have HB1:=hid (HB.out.trans (hb1.mono HB.out.size))
   clear hb1 HC
   cases hp:P x with
   | true =>
    have HQ:=hid (HH.out hp)
    clear HH HT
    go_wp2_with fail
    go_ret
    exact ⟨k,rfl,by rw [HQ.out];simp,HB1.out⟩
   | false =>
    have HQ:=hid (HT.out.trans hp)
    clear HH HT
    go_wp2_with fail
    go_roundw
    case rel=>exact ⟨k+1,by omega,by go_num,HQ.out,HB1.out⟩
    case measure=>simp [intOf];omega
  ·obtain rfl:k=xs.length:=by omega
   have h:=HFk.out
   rw [List.take_length] at h
   have HQ:=hid h
   clear h
   go_wp2_with fail
   go_ret
   exact ⟨-1,rfl,by rw [HQ.out];rfl,HB.out⟩
theorem cnNotes_any (xs:List (NL)) (P:NL→Bool) (f:FV) (A:Option Addr) (c:Nat) (w:World) (hr:RdL 1 NL.cs w w.heap.size A xs) (hx:xs.length≤9223372036854775807) (hf:FunB w f xs NL.v P) :
  Calls Tryz.prog 245 #[.slice A xs.length c,.func (.func f.n) f.bnd f.cap] w fun e w'=>e=.returned (.bool (xs.any P))∧Below w.heap.size w w':=by
 have HR:=hid hr
 have HF:=hid hf
 clear hr hf
 go_enter Tryz.func245,Tryz.ntmps245
 go_wp2_with fail
 refine (ixNotes_any xs P f A c w HR.out hx HF.out).mono ?_
 rintro e w1 ⟨i,rfl,hi,hb⟩
 have HI:=hid hi
 have HB:=hid hb
 clear hi hb
 go_wp2_with fail
 go_ret
 exact ⟨by rw [← HI.out];rfl,HB.out⟩
theorem ebNotes_any (x:NL) (q:Bool) (f:FV) (b:Nat) (w:World) (hc:w.cell? ⟨b,0,none⟩=some (.func (.func f.n) f.bnd f.cap)) (hl:b<w.heap.size) (he:∀ args w',(callFunc f.n args).run Tryz.prog w'=.ok (.enter f.n args) w')
  (hf:∀ w',Below w.heap.size w w'→Calls Tryz.prog f.n (f.bnd++#[NL.v x]++f.cap) w' fun e w''=>e=.returned (.bool q)∧Below w'.heap.size w' w'') :
  Calls Tryz.prog 246 #[NL.v x,.pointer (some ⟨b,0,none⟩)] w fun e w'=>e=.returned (.bool (!q))∧Below w.heap.size w w':=by
 have HF:=hid hf
 have HE:=hid he
 clear hf he
 go_enter Tryz.func246,Tryz.ntmps246
 go_wp2_with fail
 rw [HE.out,Oper.upon_enter]
 refine (HF.out _ (by repeat (first | with_reducible exact Below.refl _ _ | with_reducible assumption | with_reducible refine Below.drew ?_ | with_reducible refine Below.alloc ?_ (by first | omega | (simp;done) | (simp;omega)) _))).mono ?_
 rintro e w1 ⟨rfl,hb1⟩
 have hB:Below w.heap.size w w1:=Below.trans (by repeat (first | with_reducible exact Below.refl _ _ | with_reducible assumption | with_reducible refine Below.drew ?_ | with_reducible refine Below.alloc ?_ (by first | omega | (simp;done) | (simp;omega)) _)) (hb1.mono (by simp))
 have HB:=hid hB
 clear hB hb1
 go_wp2_with fail
 go_ret
 exact ⟨rfl,HB.out⟩
theorem eaNotes_any (xs:List (NL)) (P:NL→Bool) (f:FV) (A:Option Addr) (c:Nat) (w:World) (hr:RdL 1 NL.cs w w.heap.size A xs) (hx:xs.length≤9223372036854775807) (hf:FunB w f xs NL.v P) :
  Calls Tryz.prog 189 #[.slice A xs.length c,.func (.func f.n) f.bnd f.cap] w fun e w'=>e=.returned (.bool (xs.all P))∧Below w.heap.size w w':=by
 have HR:=hid hr
 have HF:=hid hf
 have HA:=hid (all_not P xs)
 clear hr hf
 go_enter Tryz.func189,Tryz.ntmps189
 go_wp2_with fail
 refine (cnNotes_any xs (fun x=>!P x) ⟨246,#[],#[.pointer (some ⟨w.heap.size,0,none⟩)]⟩ A c _ (HR.out.now (by repeat (first | with_reducible exact Below.refl _ _ | with_reducible assumption | with_reducible refine Below.drew ?_ | with_reducible refine Below.alloc ?_ (by first | omega | (simp;done) | (simp;omega)) _))) hx ⟨fun args w'=>enter_fn Tryz.func246 (by kernel_rfl) rfl args w',fun x hx w2 h2=>?_⟩).mono ?_
 ·refine ebNotes_any x (P x) f w.heap.size w2 ((h2.cell (p:=⟨w.heap.size,0,none⟩) (by simp)).trans (by simp)) (by have:=h2.size;simp at this;omega) HF.out.ent (fun w3 h3=>HF.out.run x hx w3 ?_)
  exact Below.trans (Below.trans (by repeat (first | with_reducible exact Below.refl _ _ | with_reducible assumption | with_reducible refine Below.drew ?_ | with_reducible refine Below.alloc ?_ (by first | omega | (simp;done) | (simp;omega)) _)) (h2.mono (by simp))) (h3.mono (by have:=h2.size;simp at this;omega))
 ·rintro e w1 ⟨rfl,hb1⟩
  have hB:Below w.heap.size w w1:=Below.trans (by repeat (first | with_reducible exact Below.refl _ _ | with_reducible assumption | with_reducible refine Below.drew ?_ | with_reducible refine Below.alloc ?_ (by first | omega | (simp;done) | (simp;omega)) _)) (hb1.mono (by simp))
  have HB:=hid hB
  clear hB hb1
  go_wp2_with fail
  go_ret
  exact ⟨by rw [← HA.out];rfl,HB.out⟩
/- Contracts of state.noted,asked. -/
theorem clon2_any (P:Int→Bool) (x:NL) (f:FV) (b:Nat) (w:World) (hc:w.cell? ⟨b,0,none⟩=some (.func (.func f.n) f.bnd f.cap)) (hl:b<w.heap.size) (hi:FunI w f P) (hr:RdL 5 E5.cs w w.heap.size x.A x.l) (hx:x.l.length≤9223372036854775807) :
  Calls Tryz.prog 190 #[.slice x.A x.l.length x.c,.pointer (some ⟨b,0,none⟩)] w fun e w'=>e=.returned (.bool (noteOk P x))∧Below w.heap.size w w':=by
 have HG:Hid (noteOk P x=(decide (x.l.length≤1000) && x.l.all (okn3 P))):=hid rfl
 have HC:=hid hc
 have HI:=hid hi
 have HR:=hid hr
 clear hc hi hr
 go_enter Tryz.func190,Tryz.ntmps190
 by_cases g:x.l.length≤1000
 ·have d1:decide ((x.l.length:Int)≤1000)=true:=by simp;omega
  have HG2:Hid (noteOk P x=x.l.all (okn3 P)):=hid (by rw [HG.out,decide_eq_true g];rfl)
  clear g HG
  go_wp2_with fail
  refine (eaNote_any x.l (okn3 P) ⟨192,#[],#[.pointer (some ⟨b,0,none⟩)]⟩ x.A x.c w HR.out hx ⟨fun args w'=>enter_fn Tryz.func192 (by kernel_rfl) rfl args w',fun y hy w2 h2=>clon3_any P y f b w2 ((h2.cell (p:=⟨b,0,none⟩) hl).trans HC.out) (by have:=h2.size;omega) (HI.out.now h2)⟩).mono ?_
  rintro e w1 ⟨rfl,hb1⟩
  have HB:=hid hb1
  clear hb1
  go_wp2_with fail
  go_ret
  exact ⟨by rw [HG2.out];rfl,HB.out⟩
 ·have d1:decide ((x.l.length:Int)≤1000)=false:=by simp;omega
  have HG2:Hid (noteOk P x=false):=hid (by rw [HG.out,decide_eq_false g];rfl)
  clear g HG
  go_wp2_with fail
  go_ret
  exact ⟨by rw [HG2.out];rfl,Below.refl _ _⟩
def verdOk (v:E3):Bool:=toB v.a 0 1073741824 && toB v.b 0 1073741824
def verdLe (x y:E3):Bool:=decide (x.b≤y.b)
theorem bad_eq (l:List E3):badB l=(l.all verdOk && adjB verdLe l):=rfl
theorem bad_not {l:List E3} {k:Nat} (hk:k<l.length) (h:verdOk l[k]=false):badB l=false:=by
 rw [bad_eq,List.all_eq_false.2 ⟨l[k],List.getElem_mem hk,by rw [h];simp⟩]
 rfl
theorem bad_not2 {l:List E3} (h:adjB verdLe l=false):badB l=false:=by
 rw [bad_eq,h,Bool.and_false]
theorem stToE {n lo hi:Int} {v:Bool} (hv:toB n lo hi=v) (w:World):Calls Tryz.prog 74 #[.int .i64 n,.int .i64 lo,.int .i64 hi] w fun e w'=>e=.returned (.bool v)∧Below w.heap.size w w':=(stTo_any n lo hi w).mono (fun e w' h=>⟨by rw [← hv];exact h.1,h.2 ▸ Below.refl _ _⟩)
theorem stStepE {n:Int} {v:Bool} (hv:toB n 0 1073741824=v) (w:World):Calls Tryz.prog 75 #[.int .i64 n] w fun e w'=>e=.returned (.bool v)∧Below w.heap.size w w':=(stStep_any n w).mono (fun e w' h=>⟨by rw [← hv];exact h.1,h.2 ▸ Below.refl _ _⟩)
theorem stNetE {n:Int} {v:Bool} (hv:toB n 0 11=v) (w:World):Calls Tryz.prog 175 #[.int .i64 n] w fun e w'=>e=.returned (.bool v)∧Below w.heap.size w w':=(stNet_any n w).mono (fun e w' h=>⟨by rw [← hv];exact h.1,h.2 ▸ Below.refl _ _⟩)
theorem stNoted_any (P:Int→Bool) (s:Stt) (a:StAd) (f:FV) (w:World) (h:StOk w w.heap.size s a) (hi:FunI w f P) :
  Calls Tryz.prog 78 #[s.v a,.func (.func f.n) f.bnd f.cap] w fun e w'=>e=.returned (.bool (notedB P s))∧Below w.heap.size w w':=by
 have HG:Hid (notedB P s=(s.proofs.all okn1 && (s.notes.all (noteOk P) && (badB s.bad && decide (s.notes.length≤12))))):=hid rfl
 have hb0:Below w.heap.size w ((w.alloc (.cells (s.arr a) 34)).alloc (.cells #[.func (.func f.n) f.bnd f.cap] 124)):=by repeat (first | with_reducible exact Below.refl _ _ | with_reducible assumption | with_reducible refine Below.drew ?_ | with_reducible refine Below.alloc ?_ (by first | omega | (simp;done) | (simp;omega)) _)
 have HS:=hid (h.now hb0)
 have HI:=hid (hi.now hb0)
 have HB0:=hid hb0
 have hbx:StBox w.heap.size s a ((w.alloc (.cells (s.arr a) 34)).alloc (.cells #[.func (.func f.n) f.bnd f.cap] 124)):=by
  have h1:StBox w.heap.size s a (w.alloc (.cells (s.arr a) 34)):=(MapKept.heap_alloc w _).1
  exact h1.now ((Below.refl _ _).alloc (Nat.le_refl _) _)
 have HX:=hid hbx
 have HC:=hid (show ((w.alloc (.cells (s.arr a) 34)).alloc (.cells #[.func (.func f.n) f.bnd f.cap] 124)).cell? ⟨w.heap.size+1,0,none⟩=some (.func (.func f.n) f.bnd f.cap) by simp)
 have HL:=hid (show w.heap.size+1<((w.alloc (.cells (s.arr a) 34)).alloc (.cells #[.func (.func f.n) f.bnd f.cap] 124)).heap.size by simp)
 clear h hi hb0 hbx
 go_enter Tryz.func78,Tryz.ntmps78
 go_upto_region 1 with fail
 generalize ((w.alloc (.cells (s.arr a) 34)).alloc (.cells #[.func (.func f.n) f.bnd f.cap] 124))=wb at *
 generalize w.heap.size+1=bf at HC HL ⊢
 obtain ⟨bs,hbs⟩:∃ bs,bs=w.heap.size:=⟨_,rfl⟩
 rw [← hbs] at HX ⊢
 clear hbs
 have HB:=hid (Below.refl wb.heap.size wb)
 have z:=HX.out.kf
 have zl:=HX.out.lt
 go_wp2_with fail
 refine (eaProof_any s.proofs okn1 ⟨188,#[],#[]⟩ a.kf.1 a.kf.2 _ (HS.out.now HB.out).kf HS.out.lkf ⟨fun args w'=>enter_fn Tryz.func188 (by kernel_rfl) rfl args w',fun x hx w2 h2=>clon1_any x w2⟩).mono ?_
 rintro e w1 ⟨rfl,hb1⟩
 have HBn:=hid (HB.out.trans (hb1.mono HB.out.size))
 clear hb1 HB
 have HB:=HBn
 clear HBn
 have z:=(HX.out.now HB.out).kn
 have zl:=(HX.out.now HB.out).lt
 go_wp2_with fail
 refine (eaNotes_any s.notes (noteOk P) ⟨190,#[],#[.pointer (some ⟨bf,0,none⟩)]⟩ a.kn.1 a.kn.2 _ (HS.out.now HB.out).kn HS.out.lkn ⟨fun args w'=>enter_fn Tryz.func190 (by kernel_rfl) rfl args w',fun x hx w2 h2=>?_⟩).mono ?_
 ·have hB2:=HB.out.trans (h2.mono HB.out.size)
  obtain ⟨n1,n2,-⟩:=(HS.out.now hB2).nos x hx
  exact clon2_any P x f bf w2 ((hB2.cell (p:=⟨bf,0,none⟩) HL.out).trans HC.out) (by have:=HL.out;have:=hB2.size;omega) (HI.out.now hB2) n1 n2
 rintro e w1 ⟨rfl,hb1⟩
 have HBn:=hid (HB.out.trans (hb1.mono HB.out.size))
 clear hb1 HB
 have HB:=HBn
 clear HBn
 generalize s.proofs.all okn1=q1 at *
 generalize s.notes.all (noteOk P)=q2 at *
 have z:=(HX.out.now HB.out).kb
 have zn:=(HX.out.now HB.out).kn
 have zl:=(HX.out.now HB.out).lt
 have hlb:=HS.out.lkb
 have hln:=HS.out.lkn
 go_wp2_with fail
 clear z zn zl
 have HRb:=hid (fun wq (hq:Below wb.heap.size wb wq)=>(HS.out.now hq).kb)
 have HZb:=hid (fun wq (hq:Below wb.heap.size wb wq)=>(HX.out.now hq).kb)
 generalize a.kb.1=Ab at *
 generalize a.kb.2=cb at *
 generalize s.bad=l at *
 go_loopw [7,8,19] (fun _ _ i wr=>∃ k:Nat,k≤l.length∧i=.int .i64 k∧(l.take k).all verdOk=true∧adjB verdLe (l.take k)=true∧Below wb.heap.size wb wr) (fun _ _ i _=>l.length - (intOf i).toNat)
 case atStart=>exact ⟨0,Nat.zero_le _,rfl,by simp,by simp [adjB],HB.out⟩
 case round =>
  clear HB
  obtain ⟨k,hk,rfl,hta,htd,hbw⟩:=hrel
  have HA:=hid hta
  have HD:=hid htd
  have HB:=hid hbw
  clear hta htd
  by_cases hlt:k<l.length
  ·obtain ⟨b,off,rfl,hb,c0,c1,c2⟩:=rdE3 (HRb.out wr hbw) hlt
   have HTa:=hid (all_take verdOk l k hlt HA.out)
   have HBad:=hid (fun (h:verdOk l[k]=false)=>bad_not hlt h)
   by_cases hk0:k=0
   ·subst hk0
    simp only [Nat.zero_mul,Nat.add_zero] at c0 c1 c2
    have HTd:=hid (fun (_:True)=>adj_one verdLe l)
    have HDup:=hid trivial
    generalize l[0]=x at *
    have HOk:Hid (verdOk x=(toB x.a 0 1073741824 && toB x.b 0 1073741824)):=hid rfl
    have hal:Below wb.heap.size wb (wr.alloc (.cells #[.int .i64 x.a,.int .i64 x.b,.bool x.t] 99)):=HB.out.alloc HB.out.size _
    have HAl:=hid hal
    have HV:Hid (∀ wq,Below (wr.alloc (.cells #[.int .i64 x.a,.int .i64 x.b,.bool x.t] 99)).heap.size (wr.alloc (.cells #[.int .i64 x.a,.int .i64 x.b,.bool x.t] 99)) wq→wq.cell? ⟨wr.heap.size,0,none⟩=some (.int .i64 x.a)∧wq.cell? ⟨wr.heap.size,1,none⟩=some (.int .i64 x.b)∧True∧True):=hid fun wq hq =>
     ⟨(hq.cell (p:=⟨wr.heap.size,0,none⟩) (by simp)).trans (by simp),(hq.cell (p:=⟨wr.heap.size,1,none⟩) (by simp)).trans (by simp),trivial,trivial⟩
    clear hal hbw HD HA
    go_upto_region 6 with fail
    generalize wr.alloc (.cells #[.int .i64 x.a,.int .i64 x.b,.bool x.t] 99)=wv at *
    cases g0:toB x.a 0 1073741824 with
    | false =>
     rw [g0] at HOk
     have g1:=trivial
     have HQ:=hid (HBad.out (by rw [HOk.out];rfl))
     clear HBad HDup HTa HTd
     go_wp2_with fail
     refine wp_region_det (S:=(fun wq=>Below wv.heap.size wv wq)) (by kernel_rfl) (by kernel_rfl) (Below.drew (Below.refl _ _)) ?_
     rw [List.toList_toArray]
     repeat (first
        | ((with_reducible show Det _ _ _ _ (Oper.mk _ (Op.call (Call.mk (Callee.value (Operand.func 74)) _ _)) _ _ _ _::_) _);refine Det.step (.bool false) (by rfl) (fun wq hSq K hK=>?_) ?_;(· (go_simp;refine ((stToE g0 _)).mono ?_;rintro e4 w4 ⟨rfl,hb4⟩;go_wp2_with fail;refine hK.out _ _ (hSq.trans (hb4.mono hSq.size)) ?_;first | rfl | (simp [Act.put];done)));simp only [Act.put,sA,sB,sC,sD,sE,sF])
        | ((with_reducible show Det _ _ _ _ (Oper.mk _ (Op.call (Call.mk (Callee.value (Operand.func 75)) _ _)) _ _ _ _::_) _);refine Det.step (.bool false) (by rfl) (fun wq hSq K hK=>?_) ?_;(· (go_simp;refine ((stStepE g1 _)).mono ?_;rintro e4 w4 ⟨rfl,hb4⟩;go_wp2_with fail;refine hK.out _ _ (hSq.trans (hb4.mono hSq.size)) ?_;first | rfl | (simp [Act.put];done)));simp only [Act.put,sA,sB,sC,sD,sE,sF])
        | (refine Det.skip (by rfl) ?_;simp only [Act.put,sA,sB,sC,sD,sE,sF])
        | (refine Det.read (v:=?_) (by rfl) ?_ ?_;rotate_left;(· (intro wq hSq;obtain ⟨c0,c1,cb,ce⟩:=HV.out wq hSq;go_simp;try with_reducible rfl));simp only [Act.put,sA,sB,sC,sD,sE,sF])
        | fail)
     refine Det.done fun wz hz=>?_
     go_wp2_with fail
     go_ret
     exact ⟨by rw [HG.out,HQ.out];simp,HB0.out.trans ((HAl.out.trans (hz.mono HAl.out.size)).mono HB0.out.size)⟩
    | true =>
    cases g1:toB x.b 0 1073741824 with
    | false =>
     rw [g0,g1] at HOk
     have HQ:=hid (HBad.out (by rw [HOk.out];rfl))
     clear HBad HDup HTa HTd
     go_wp2_with fail
     refine wp_region_det (S:=(fun wq=>Below wv.heap.size wv wq)) (by kernel_rfl) (by kernel_rfl) (Below.drew (Below.refl _ _)) ?_
     rw [List.toList_toArray]
     repeat (first
        | ((with_reducible show Det _ _ _ _ (Oper.mk _ (Op.call (Call.mk (Callee.value (Operand.func 74)) _ _)) _ _ _ _::_) _);refine Det.step (.bool true) (by rfl) (fun wq hSq K hK=>?_) ?_;(· (go_simp;refine ((stToE g0 _)).mono ?_;rintro e4 w4 ⟨rfl,hb4⟩;go_wp2_with fail;refine hK.out _ _ (hSq.trans (hb4.mono hSq.size)) ?_;first | rfl | (simp [Act.put];done)));simp only [Act.put,sA,sB,sC,sD,sE,sF])
        | ((with_reducible show Det _ _ _ _ (Oper.mk _ (Op.call (Call.mk (Callee.value (Operand.func 75)) _ _)) _ _ _ _::_) _);refine Det.step (.bool false) (by rfl) (fun wq hSq K hK=>?_) ?_;(· (go_simp;refine ((stStepE g1 _)).mono ?_;rintro e4 w4 ⟨rfl,hb4⟩;go_wp2_with fail;refine hK.out _ _ (hSq.trans (hb4.mono hSq.size)) ?_;first | rfl | (simp [Act.put];done)));simp only [Act.put,sA,sB,sC,sD,sE,sF])
        | (refine Det.skip (by rfl) ?_;simp only [Act.put,sA,sB,sC,sD,sE,sF])
        | (refine Det.read (v:=?_) (by rfl) ?_ ?_;rotate_left;(· (intro wq hSq;obtain ⟨c0,c1,cb,ce⟩:=HV.out wq hSq;go_simp;try with_reducible rfl));simp only [Act.put,sA,sB,sC,sD,sE,sF])
        | fail)
     refine Det.done fun wz hz=>?_
     go_wp2_with fail
     go_ret
     exact ⟨by rw [HG.out,HQ.out];simp,HB0.out.trans ((HAl.out.trans (hz.mono HAl.out.size)).mono HB0.out.size)⟩
    | true =>
     rw [g0,g1] at HOk
     have HQ1:=hid (HTa.out ((by rw [HOk.out];rfl)))
     have HQ2:=hid (HTd.out (trivial))
     clear HBad HDup HTa HTd
     go_wp2_with fail
     refine wp_region_det (S:=(fun wq=>Below wv.heap.size wv wq)) (by kernel_rfl) (by kernel_rfl) (Below.drew (Below.refl _ _)) ?_
     rw [List.toList_toArray]
     repeat (first
        | ((with_reducible show Det _ _ _ _ (Oper.mk _ (Op.call (Call.mk (Callee.value (Operand.func 74)) _ _)) _ _ _ _::_) _);refine Det.step (.bool true) (by rfl) (fun wq hSq K hK=>?_) ?_;(· (go_simp;refine ((stToE g0 _)).mono ?_;rintro e4 w4 ⟨rfl,hb4⟩;go_wp2_with fail;refine hK.out _ _ (hSq.trans (hb4.mono hSq.size)) ?_;first | rfl | (simp [Act.put];done)));simp only [Act.put,sA,sB,sC,sD,sE,sF])
        | ((with_reducible show Det _ _ _ _ (Oper.mk _ (Op.call (Call.mk (Callee.value (Operand.func 75)) _ _)) _ _ _ _::_) _);refine Det.step (.bool true) (by rfl) (fun wq hSq K hK=>?_) ?_;(· (go_simp;refine ((stStepE g1 _)).mono ?_;rintro e4 w4 ⟨rfl,hb4⟩;go_wp2_with fail;refine hK.out _ _ (hSq.trans (hb4.mono hSq.size)) ?_;first | rfl | (simp [Act.put];done)));simp only [Act.put,sA,sB,sC,sD,sE,sF])
        | (refine Det.skip (by rfl) ?_;simp only [Act.put,sA,sB,sC,sD,sE,sF])
        | (refine Det.read (v:=?_) (by rfl) ?_ ?_;rotate_left;(· (intro wq hSq;obtain ⟨c0,c1,cb,ce⟩:=HV.out wq hSq;go_simp;try with_reducible rfl));simp only [Act.put,sA,sB,sC,sD,sE,sF])
        | fail)
     refine Det.done fun wz hz=>?_
     go_wp2_with fail
     go_roundw
     case rel=>exact ⟨0+1,by omega,by go_num,HQ1.out,HQ2.out,HAl.out.trans (hz.mono HAl.out.size)⟩
     case measure=>simp [intOf];omega
   ·have hlt1:k - 1<l.length:=by omega
    have hw:IntKind.i64.wrap ((k:Int) - 1)=((k - 1:Nat):Int):=by rw [IntKind.wrap_i64];omega
    have hk1:decide ((0:Int)<(k:Int))=true:=by simp;omega
    have hk2:decide (0<k)=true:=by simp;omega
    have hk3:0<k:=by omega
    have HTd:=hid (fun (h:verdLe l[k - 1] l[k]=true)=>adj_take verdLe l k hlt HD.out (fun _=>h))
    have HDup:=hid (fun (h:verdLe l[k - 1] l[k]=false)=>bad_not2 (adj_not verdLe l k hlt (by omega) h))
    have HY:=hid (fun wq (hq:Below wb.heap.size wb wq)=>show wq.cell? ⟨b,off+(k - 1) * 3+1,none⟩=some (.int .i64 l[k - 1].b) from by
     obtain ⟨b2,off2,he,_,_,y1,_⟩:=rdE3 (HRb.out wq hq) hlt1
     obtain ⟨rfl,rfl⟩:b=b2∧off=off2:=by simpa using he
     exact y1)
    generalize l[k]=x at *
    generalize l[k - 1]=y at *
    have HOk:Hid (verdOk x=(toB x.a 0 1073741824 && toB x.b 0 1073741824)):=hid rfl
    have HLe:Hid (verdLe y x=!(decide (x.b<y.b))):=hid (by unfold verdLe;rw [Bool.eq_iff_iff];simp)
    have hal:Below wb.heap.size wb (wr.alloc (.cells #[.int .i64 x.a,.int .i64 x.b,.bool x.t] 99)):=HB.out.alloc HB.out.size _
    have HAl:=hid hal
    have HV:Hid (∀ wq,Below (wr.alloc (.cells #[.int .i64 x.a,.int .i64 x.b,.bool x.t] 99)).heap.size (wr.alloc (.cells #[.int .i64 x.a,.int .i64 x.b,.bool x.t] 99)) wq→wq.cell? ⟨wr.heap.size,0,none⟩=some (.int .i64 x.a)∧wq.cell? ⟨wr.heap.size,1,none⟩=some (.int .i64 x.b)∧wq.cell? ⟨bs,8,none⟩=some (.slice (some ⟨b,off,none⟩) l.length cb)∧wq.cell? ⟨b,off+(k - 1) * 3+1,none⟩=some (.int .i64 y.b)):=hid fun wq hq =>
     ⟨(hq.cell (p:=⟨wr.heap.size,0,none⟩) (by simp)).trans (by simp),(hq.cell (p:=⟨wr.heap.size,1,none⟩) (by simp)).trans (by simp),HZb.out wq (HAl.out.trans (hq.mono HAl.out.size)),HY.out wq (HAl.out.trans (hq.mono HAl.out.size))⟩
    clear hal hbw HD HA
    go_upto_region 6 with fail
    generalize wr.alloc (.cells #[.int .i64 x.a,.int .i64 x.b,.bool x.t] 99)=wv at *
    cases g0:toB x.a 0 1073741824 with
    | false =>
     rw [g0] at HOk
     have g1:=trivial
     have HQ:=hid (HBad.out (by rw [HOk.out];rfl))
     clear HBad HDup HTa HTd
     go_wp2_with fail
     refine wp_region_det (S:=(fun wq=>Below wv.heap.size wv wq)) (by kernel_rfl) (by kernel_rfl) (Below.drew (Below.refl _ _)) ?_
     rw [List.toList_toArray]
     repeat (first
        | ((with_reducible show Det _ _ _ _ (Oper.mk _ (Op.call (Call.mk (Callee.value (Operand.func 74)) _ _)) _ _ _ _::_) _);refine Det.step (.bool false) (by rfl) (fun wq hSq K hK=>?_) ?_;(· (go_simp;refine ((stToE g0 _)).mono ?_;rintro e4 w4 ⟨rfl,hb4⟩;go_wp2_with fail;refine hK.out _ _ (hSq.trans (hb4.mono hSq.size)) ?_;first | rfl | (simp [Act.put];done)));simp only [Act.put,sA,sB,sC,sD,sE,sF])
        | ((with_reducible show Det _ _ _ _ (Oper.mk _ (Op.call (Call.mk (Callee.value (Operand.func 75)) _ _)) _ _ _ _::_) _);refine Det.step (.bool false) (by rfl) (fun wq hSq K hK=>?_) ?_;(· (go_simp;refine ((stStepE g1 _)).mono ?_;rintro e4 w4 ⟨rfl,hb4⟩;go_wp2_with fail;refine hK.out _ _ (hSq.trans (hb4.mono hSq.size)) ?_;first | rfl | (simp [Act.put];done)));simp only [Act.put,sA,sB,sC,sD,sE,sF])
        | (refine Det.skip (by rfl) ?_;simp only [Act.put,sA,sB,sC,sD,sE,sF])
        | (refine Det.read (v:=?_) (by rfl) ?_ ?_;rotate_left;(· (intro wq hSq;obtain ⟨c0,c1,cb,ce⟩:=HV.out wq hSq;go_simp;try with_reducible rfl));simp only [Act.put,sA,sB,sC,sD,sE,sF])
        | fail)
     refine Det.done fun wz hz=>?_
     go_wp2_with fail
     go_ret
     exact ⟨by rw [HG.out,HQ.out];simp,HB0.out.trans ((HAl.out.trans (hz.mono HAl.out.size)).mono HB0.out.size)⟩
    | true =>
    cases g1:toB x.b 0 1073741824 with
    | false =>
     rw [g0,g1] at HOk
     have HQ:=hid (HBad.out (by rw [HOk.out];rfl))
     clear HBad HDup HTa HTd
     go_wp2_with fail
     refine wp_region_det (S:=(fun wq=>Below wv.heap.size wv wq)) (by kernel_rfl) (by kernel_rfl) (Below.drew (Below.refl _ _)) ?_
     rw [List.toList_toArray]
     repeat (first
        | ((with_reducible show Det _ _ _ _ (Oper.mk _ (Op.call (Call.mk (Callee.value (Operand.func 74)) _ _)) _ _ _ _::_) _);refine Det.step (.bool true) (by rfl) (fun wq hSq K hK=>?_) ?_;(· (go_simp;refine ((stToE g0 _)).mono ?_;rintro e4 w4 ⟨rfl,hb4⟩;go_wp2_with fail;refine hK.out _ _ (hSq.trans (hb4.mono hSq.size)) ?_;first | rfl | (simp [Act.put];done)));simp only [Act.put,sA,sB,sC,sD,sE,sF])
        | ((with_reducible show Det _ _ _ _ (Oper.mk _ (Op.call (Call.mk (Callee.value (Operand.func 75)) _ _)) _ _ _ _::_) _);refine Det.step (.bool false) (by rfl) (fun wq hSq K hK=>?_) ?_;(· (go_simp;refine ((stStepE g1 _)).mono ?_;rintro e4 w4 ⟨rfl,hb4⟩;go_wp2_with fail;refine hK.out _ _ (hSq.trans (hb4.mono hSq.size)) ?_;first | rfl | (simp [Act.put];done)));simp only [Act.put,sA,sB,sC,sD,sE,sF])
        | (refine Det.skip (by rfl) ?_;simp only [Act.put,sA,sB,sC,sD,sE,sF])
        | (refine Det.read (v:=?_) (by rfl) ?_ ?_;rotate_left;(· (intro wq hSq;obtain ⟨c0,c1,cb,ce⟩:=HV.out wq hSq;go_simp;try with_reducible rfl));simp only [Act.put,sA,sB,sC,sD,sE,sF])
        | fail)
     refine Det.done fun wz hz=>?_
     go_wp2_with fail
     go_ret
     exact ⟨by rw [HG.out,HQ.out];simp,HB0.out.trans ((HAl.out.trans (hz.mono HAl.out.size)).mono HB0.out.size)⟩
    | true =>
    rw [g0,g1] at HOk
    cases g2:decide (x.b<y.b) with
    | true =>
     rw [g2] at HLe
     have HQ:=hid (HDup.out (by rw [HLe.out];rfl))
     clear HBad HDup HTa HTd
     go_wp2_with fail
     refine wp_region_det (S:=(fun wq=>Below wv.heap.size wv wq)) (by kernel_rfl) (by kernel_rfl) (Below.drew (Below.refl _ _)) ?_
     rw [List.toList_toArray]
     repeat (first
        | ((with_reducible show Det _ _ _ _ (Oper.mk _ (Op.call (Call.mk (Callee.value (Operand.func 74)) _ _)) _ _ _ _::_) _);refine Det.step (.bool true) (by rfl) (fun wq hSq K hK=>?_) ?_;(· (go_simp;refine ((stToE g0 _)).mono ?_;rintro e4 w4 ⟨rfl,hb4⟩;go_wp2_with fail;refine hK.out _ _ (hSq.trans (hb4.mono hSq.size)) ?_;first | rfl | (simp [Act.put];done)));simp only [Act.put,sA,sB,sC,sD,sE,sF])
        | ((with_reducible show Det _ _ _ _ (Oper.mk _ (Op.call (Call.mk (Callee.value (Operand.func 75)) _ _)) _ _ _ _::_) _);refine Det.step (.bool true) (by rfl) (fun wq hSq K hK=>?_) ?_;(· (go_simp;refine ((stStepE g1 _)).mono ?_;rintro e4 w4 ⟨rfl,hb4⟩;go_wp2_with fail;refine hK.out _ _ (hSq.trans (hb4.mono hSq.size)) ?_;first | rfl | (simp [Act.put];done)));simp only [Act.put,sA,sB,sC,sD,sE,sF])
        | (refine Det.skip (by rfl) ?_;simp only [Act.put,sA,sB,sC,sD,sE,sF])
        | (refine Det.read (v:=?_) (by rfl) ?_ ?_;rotate_left;(· (intro wq hSq;obtain ⟨c0,c1,cb,ce⟩:=HV.out wq hSq;go_simp;try with_reducible rfl));simp only [Act.put,sA,sB,sC,sD,sE,sF])
        | fail)
     refine Det.done fun wz hz=>?_
     go_wp2_with fail
     go_ret
     exact ⟨by rw [HG.out,HQ.out];simp,HB0.out.trans ((HAl.out.trans (hz.mono HAl.out.size)).mono HB0.out.size)⟩
    | false =>
     rw [g2] at HLe
     have HQ1:=hid (HTa.out ((by rw [HOk.out];rfl)))
     have HQ2:=hid (HTd.out (by rw [HLe.out];rfl))
     clear HBad HDup HTa HTd
     go_wp2_with fail
     refine wp_region_det (S:=(fun wq=>Below wv.heap.size wv wq)) (by kernel_rfl) (by kernel_rfl) (Below.drew (Below.refl _ _)) ?_
     rw [List.toList_toArray]
     repeat (first
        | ((with_reducible show Det _ _ _ _ (Oper.mk _ (Op.call (Call.mk (Callee.value (Operand.func 74)) _ _)) _ _ _ _::_) _);refine Det.step (.bool true) (by rfl) (fun wq hSq K hK=>?_) ?_;(· (go_simp;refine ((stToE g0 _)).mono ?_;rintro e4 w4 ⟨rfl,hb4⟩;go_wp2_with fail;refine hK.out _ _ (hSq.trans (hb4.mono hSq.size)) ?_;first | rfl | (simp [Act.put];done)));simp only [Act.put,sA,sB,sC,sD,sE,sF])
        | ((with_reducible show Det _ _ _ _ (Oper.mk _ (Op.call (Call.mk (Callee.value (Operand.func 75)) _ _)) _ _ _ _::_) _);refine Det.step (.bool true) (by rfl) (fun wq hSq K hK=>?_) ?_;(· (go_simp;refine ((stStepE g1 _)).mono ?_;rintro e4 w4 ⟨rfl,hb4⟩;go_wp2_with fail;refine hK.out _ _ (hSq.trans (hb4.mono hSq.size)) ?_;first | rfl | (simp [Act.put];done)));simp only [Act.put,sA,sB,sC,sD,sE,sF])
        | (refine Det.skip (by rfl) ?_;simp only [Act.put,sA,sB,sC,sD,sE,sF])
        | (refine Det.read (v:=?_) (by rfl) ?_ ?_;rotate_left;(· (intro wq hSq;obtain ⟨c0,c1,cb,ce⟩:=HV.out wq hSq;go_simp;try with_reducible rfl));simp only [Act.put,sA,sB,sC,sD,sE,sF])
        | fail)
     refine Det.done fun wz hz=>?_
     go_wp2_with fail
     go_roundw
     case rel=>exact ⟨k+1,by omega,by go_num,HQ1.out,HQ2.out,HAl.out.trans (hz.mono HAl.out.size)⟩
     case measure=>simp [intOf];omega
  ·obtain rfl:k=l.length:=by omega
   have HZ:Hid (badB l=true):=hid (by
    have h1:=HA.out
    have h2:=HD.out
    rw [List.take_length] at h1 h2
    rw [bad_eq,h1,h2];rfl)
   have zn:=(HX.out.now HB.out).kn
   have zl:=(HX.out.now HB.out).lt
   have HDc:Hid (decide ((s.notes.length:Int)≤12)=decide (s.notes.length≤12)):=hid (by rw [Bool.eq_iff_iff];simp;omega)
   cases q1 <;> cases q2
   case true.true =>
    go_wp2_with fail
    go_ret
    exact ⟨by rw [HG.out,HZ.out,← HDc.out];rfl,HB0.out.trans (HB.out.mono HB0.out.size)⟩
   all_goals go_wp2_with fail
   all_goals go_ret
   all_goals exact ⟨by rw [HG.out,HZ.out];rfl,HB0.out.trans (HB.out.mono HB0.out.size)⟩
/- Contract of state.asked. -/
theorem debts_not {P:Int→Bool} {l:List D2} {k:Nat} (hk:k<l.length) (h:okc3 P l[k]=false):debtsB P l=false:=by
 unfold debtsB
 rw [List.all_eq_false.2 ⟨l[k],List.getElem_mem hk,by rw [h];simp⟩]
 rfl
theorem debts_not2 {P:Int→Bool} {l:List D2} (h:adjB befB l=false):debtsB P l=false:=by
 unfold debtsB
 rw [h,Bool.and_false]
theorem stBeforeE {x y:D2} {v:Bool} (hv:befB x y=v) (w:World):Calls Tryz.prog 200 #[.agg #[.int .i64 x.a,.int .i64 x.b],.agg #[.int .i64 y.a,.int .i64 y.b]] w fun e w'=>e=.returned (.bool v)∧Below w.heap.size w w':=(stBefore_any x y w).mono (fun e w' h=>⟨by rw [← hv];exact h.1,h.2⟩)
theorem stAsked_any (P:Int→Bool) (s:Stt) (a:StAd) (f:FV) (w:World) (h:StOk w w.heap.size s a) (hi:FunI w f P) :
  Calls Tryz.prog 80 #[s.v a,.func (.func f.n) f.bnd f.cap] w fun e w'=>e=.returned (.bool (askedB P s))∧Below w.heap.size w w':=by
 have HG:Hid (askedB P s=(s.orders.all (oka1 P) && (s.sealed.all (oka2 P) && debtsB P s.debts))):=hid rfl
 have hb0:Below w.heap.size w ((w.alloc (.cells (s.arr a) 34)).alloc (.cells #[.func (.func f.n) f.bnd f.cap] 124)):=by repeat (first | with_reducible exact Below.refl _ _ | with_reducible assumption | with_reducible refine Below.drew ?_ | with_reducible refine Below.alloc ?_ (by first | omega | (simp;done) | (simp;omega)) _)
 have HS:=hid (h.now hb0)
 have HI:=hid (hi.now hb0)
 have HB0:=hid hb0
 have hbx:StBox w.heap.size s a ((w.alloc (.cells (s.arr a) 34)).alloc (.cells #[.func (.func f.n) f.bnd f.cap] 124)):=by
  have h1:StBox w.heap.size s a (w.alloc (.cells (s.arr a) 34)):=(MapKept.heap_alloc w _).1
  exact h1.now ((Below.refl _ _).alloc (Nat.le_refl _) _)
 have HX:=hid hbx
 have HC:=hid (show ((w.alloc (.cells (s.arr a) 34)).alloc (.cells #[.func (.func f.n) f.bnd f.cap] 124)).cell? ⟨w.heap.size+1,0,none⟩=some (.func (.func f.n) f.bnd f.cap) by simp)
 have HL:=hid (show w.heap.size+1<((w.alloc (.cells (s.arr a) 34)).alloc (.cells #[.func (.func f.n) f.bnd f.cap] 124)).heap.size by simp)
 clear h hi hb0 hbx
 go_enter Tryz.func80,Tryz.ntmps80
 go_upto_region 1 with fail
 generalize ((w.alloc (.cells (s.arr a) 34)).alloc (.cells #[.func (.func f.n) f.bnd f.cap] 124))=wb at *
 generalize w.heap.size+1=bf at HC HL ⊢
 obtain ⟨bs,hbs⟩:∃ bs,bs=w.heap.size:=⟨_,rfl⟩
 rw [← hbs] at HX ⊢
 clear hbs
 have HB:=hid (Below.refl wb.heap.size wb)
 have HE:=hid HI.out.ent
 have z:=HX.out.ko
 have zl:=HX.out.lt
 go_wp2_with fail
 refine (eaOrder_any s.orders (oka1 P) ⟨197,#[],#[.pointer (some ⟨bf,0,none⟩)]⟩ a.ko.1 a.ko.2 _ (HS.out.now HB.out).ko HS.out.lko ⟨fun args w'=>enter_fn Tryz.func197 (by kernel_rfl) rfl args w',fun x hx w2 h2=>cloa1_any P x f bf w2 (((HB.out.trans (h2.mono HB.out.size)).cell (p:=⟨bf,0,none⟩) HL.out).trans HC.out) (by have:=HL.out;have:=(HB.out.trans (h2.mono HB.out.size)).size;omega) (HI.out.now (HB.out.trans (h2.mono HB.out.size)))⟩).mono ?_
 rintro e w1 ⟨rfl,hb1⟩
 have HBn:=hid (HB.out.trans (hb1.mono HB.out.size))
 clear hb1 HB
 have HB:=HBn
 clear HBn
 have z:=(HX.out.now HB.out).kx
 have zl:=(HX.out.now HB.out).lt
 go_wp2_with fail
 refine (eaSealed_any s.sealed (oka2 P) ⟨199,#[],#[.pointer (some ⟨bf,0,none⟩)]⟩ a.kx.1 a.kx.2 _ (HS.out.now HB.out).kx HS.out.lkx ⟨fun args w'=>enter_fn Tryz.func199 (by kernel_rfl) rfl args w',fun x hx w2 h2=>cloa2_any P x f bf w2 (((HB.out.trans (h2.mono HB.out.size)).cell (p:=⟨bf,0,none⟩) HL.out).trans HC.out) (by have:=HL.out;have:=(HB.out.trans (h2.mono HB.out.size)).size;omega) (HI.out.now (HB.out.trans (h2.mono HB.out.size)))⟩).mono ?_
 rintro e w1 ⟨rfl,hb1⟩
 have HBn:=hid (HB.out.trans (hb1.mono HB.out.size))
 clear hb1 HB
 have HB:=HBn
 clear HBn
 generalize s.orders.all (oka1 P)=q1 at *
 generalize s.sealed.all (oka2 P)=q2 at *
 have z:=(HX.out.now HB.out).kd
 have zl:=(HX.out.now HB.out).lt
 have hlb:=HS.out.lkd
 go_wp2_with fail
 clear z zl
 have HRb:=hid (fun wq (hq:Below wb.heap.size wb wq)=>(HS.out.now hq).kd)
 have HZb:=hid (fun wq (hq:Below wb.heap.size wb wq)=>(HX.out.now hq).kd)
 have HZf:=hid (fun wq (hq:Below wb.heap.size wb wq)=>(hq.cell (p:=⟨bf,0,none⟩) HL.out).trans HC.out)
 generalize a.kd.1=Ab at *
 generalize a.kd.2=cb at *
 generalize s.debts=l at *
 go_loopw [7,8,20] (fun _ _ i wr=>∃ k:Nat,k≤l.length∧i=.int .i64 k∧(l.take k).all (okc3 P)=true∧adjB befB (l.take k)=true∧Below wb.heap.size wb wr) (fun _ _ i _=>l.length - (intOf i).toNat)
 case atStart=>exact ⟨0,Nat.zero_le _,rfl,by simp,by simp [adjB],HB.out⟩
 case round =>
  clear HB
  obtain ⟨k,hk,rfl,hta,htd,hbw⟩:=hrel
  have HA:=hid hta
  have HD:=hid htd
  have HB:=hid hbw
  clear hta htd
  by_cases hlt:k<l.length
  ·obtain ⟨b,off,rfl,hb,c0,c1⟩:=rdD2 (HRb.out wr hbw) hlt
   have HTa:=hid (all_take (okc3 P) l k hlt HA.out)
   have HBad:=hid (fun (h:okc3 P l[k]=false)=>debts_not hlt h)
   by_cases hk0:k=0
   ·subst hk0
    simp only [Nat.zero_mul,Nat.add_zero] at c0 c1
    have HTd:=hid (fun (_:True)=>adj_one befB l)
    have HDup:=hid trivial
    have g2:=trivial
    generalize l[0]=x at *
    have HOk:Hid (okc3 P x=(P x.a && toB x.b 0 11)):=hid rfl
    have hal:Below wb.heap.size wb (wr.alloc (.cells #[.int .i64 x.a,.int .i64 x.b] 48)):=HB.out.alloc HB.out.size _
    have HAl:=hid hal
    have HIv:=hid (fun wq (hq:Below (wr.alloc (.cells #[.int .i64 x.a,.int .i64 x.b] 48)).heap.size (wr.alloc (.cells #[.int .i64 x.a,.int .i64 x.b] 48)) wq)=>HI.out.run x.a wq (HAl.out.trans (hq.mono HAl.out.size)))
    have HV:Hid (∀ wq,Below (wr.alloc (.cells #[.int .i64 x.a,.int .i64 x.b] 48)).heap.size (wr.alloc (.cells #[.int .i64 x.a,.int .i64 x.b] 48)) wq→wq.cell? ⟨wr.heap.size,0,none⟩=some (.int .i64 x.a)∧wq.cell? ⟨wr.heap.size,1,none⟩=some (.int .i64 x.b)∧wq.cell? ⟨bf,0,none⟩=some (.func (.func f.n) f.bnd f.cap)∧wq.cell? ⟨bs,12,none⟩=some (.slice (some ⟨b,off,none⟩) l.length cb)∧True∧True):=hid fun wq hq =>
     ⟨(hq.cell (p:=⟨wr.heap.size,0,none⟩) (by simp)).trans (by simp),(hq.cell (p:=⟨wr.heap.size,1,none⟩) (by simp)).trans (by simp),HZf.out wq (HAl.out.trans (hq.mono HAl.out.size)),HZb.out wq (HAl.out.trans (hq.mono HAl.out.size)),by first | exact ⟨trivial,trivial⟩ | exact HY.out wq (HAl.out.trans (hq.mono HAl.out.size))⟩
    clear hal hbw HD HA
    go_upto_region 6 with fail
    generalize wr.alloc (.cells #[.int .i64 x.a,.int .i64 x.b] 48)=wv at *
    cases g0:P x.a with
    | false =>
     rw [g0] at HOk
     have g1:=trivial
     have HQ:=hid (HBad.out (by rw [HOk.out];rfl))
     clear HBad HDup HTa HTd
     go_wp2_with fail
     refine wp_region_det (S:=(fun wq=>Below wv.heap.size wv wq)) (by kernel_rfl) (by kernel_rfl) (Below.drew (Below.refl _ _)) ?_
     rw [List.toList_toArray]
     repeat (first
        | (refine Det.skip (by rfl) ?_;simp only [Act.put,sA,sB,sC,sD,sE,sF])
        | (refine Det.read (v:=?_) (by rfl) ?_ ?_;rotate_left;(· (intro wq hSq;obtain ⟨c0,c1,cf,cb,ce,cg⟩:=HV.out wq hSq;go_simp;try with_reducible rfl));simp only [Act.put,sA,sB,sC,sD,sE,sF])
        | fail)
     refine Det.step (.bool false) (by rfl) (fun wq hSq K hK=>?_) ?_
     ·go_simp
      rw [HE.out,Oper.upon_enter]
      refine (HIv.out wq hSq).mono ?_
      rintro e4 w4 ⟨rfl,hb4⟩
      rw [g0]
      go_wp2_with fail
      refine hK.out _ _ (hSq.trans (hb4.mono hSq.size)) ?_
      rfl
     simp only [Act.put,sA,sB,sC,sD,sE,sF]
     repeat (first
        | ((with_reducible show Det _ _ _ _ (Oper.mk _ (Op.call (Call.mk (Callee.value (Operand.func 175)) _ _)) _ _ _ _::_) _);refine Det.step (.bool false) (by rfl) (fun wq hSq K hK=>?_) ?_;(· (go_simp;refine ((stNetE g1 _)).mono ?_;rintro e4 w4 ⟨rfl,hb4⟩;go_wp2_with fail;refine hK.out _ _ (hSq.trans (hb4.mono hSq.size)) ?_;first | rfl | (simp [Act.put];done)));simp only [Act.put,sA,sB,sC,sD,sE,sF])
        | ((with_reducible show Det _ _ _ _ (Oper.mk _ (Op.call (Call.mk (Callee.value (Operand.func 200)) _ _)) _ _ _ _::_) _);refine Det.step (.bool false) (by rfl) (fun wq hSq K hK=>?_) ?_;(· (go_simp;refine ((stBeforeE g2 _)).mono ?_;rintro e4 w4 ⟨rfl,hb4⟩;go_wp2_with fail;refine hK.out _ _ (hSq.trans (hb4.mono hSq.size)) ?_;first | rfl | (simp [Act.put];done)));simp only [Act.put,sA,sB,sC,sD,sE,sF])
        | (refine Det.skip (by rfl) ?_;simp only [Act.put,sA,sB,sC,sD,sE,sF])
        | (refine Det.read (v:=?_) (by rfl) ?_ ?_;rotate_left;(· (intro wq hSq;obtain ⟨c0,c1,cf,cb,ce,cg⟩:=HV.out wq hSq;go_simp;try with_reducible rfl));simp only [Act.put,sA,sB,sC,sD,sE,sF])
        | fail)
     refine Det.done fun wz hz=>?_
     go_wp2_with fail
     go_ret
     exact ⟨by rw [HG.out,HQ.out];simp,HB0.out.trans ((HAl.out.trans (hz.mono HAl.out.size)).mono HB0.out.size)⟩
    | true =>
    cases g1:toB x.b 0 11 with
    | false =>
     rw [g0,g1] at HOk
     have HQ:=hid (HBad.out (by rw [HOk.out];rfl))
     clear HBad HDup HTa HTd
     go_wp2_with fail
     refine wp_region_det (S:=(fun wq=>Below wv.heap.size wv wq)) (by kernel_rfl) (by kernel_rfl) (Below.drew (Below.refl _ _)) ?_
     rw [List.toList_toArray]
     repeat (first
        | (refine Det.skip (by rfl) ?_;simp only [Act.put,sA,sB,sC,sD,sE,sF])
        | (refine Det.read (v:=?_) (by rfl) ?_ ?_;rotate_left;(· (intro wq hSq;obtain ⟨c0,c1,cf,cb,ce,cg⟩:=HV.out wq hSq;go_simp;try with_reducible rfl));simp only [Act.put,sA,sB,sC,sD,sE,sF])
        | fail)
     refine Det.step (.bool true) (by rfl) (fun wq hSq K hK=>?_) ?_
     ·go_simp
      rw [HE.out,Oper.upon_enter]
      refine (HIv.out wq hSq).mono ?_
      rintro e4 w4 ⟨rfl,hb4⟩
      rw [g0]
      go_wp2_with fail
      refine hK.out _ _ (hSq.trans (hb4.mono hSq.size)) ?_
      rfl
     simp only [Act.put,sA,sB,sC,sD,sE,sF]
     repeat (first
        | ((with_reducible show Det _ _ _ _ (Oper.mk _ (Op.call (Call.mk (Callee.value (Operand.func 175)) _ _)) _ _ _ _::_) _);refine Det.step (.bool false) (by rfl) (fun wq hSq K hK=>?_) ?_;(· (go_simp;refine ((stNetE g1 _)).mono ?_;rintro e4 w4 ⟨rfl,hb4⟩;go_wp2_with fail;refine hK.out _ _ (hSq.trans (hb4.mono hSq.size)) ?_;first | rfl | (simp [Act.put];done)));simp only [Act.put,sA,sB,sC,sD,sE,sF])
        | ((with_reducible show Det _ _ _ _ (Oper.mk _ (Op.call (Call.mk (Callee.value (Operand.func 200)) _ _)) _ _ _ _::_) _);refine Det.step (.bool false) (by rfl) (fun wq hSq K hK=>?_) ?_;(· (go_simp;refine ((stBeforeE g2 _)).mono ?_;rintro e4 w4 ⟨rfl,hb4⟩;go_wp2_with fail;refine hK.out _ _ (hSq.trans (hb4.mono hSq.size)) ?_;first | rfl | (simp [Act.put];done)));simp only [Act.put,sA,sB,sC,sD,sE,sF])
        | (refine Det.skip (by rfl) ?_;simp only [Act.put,sA,sB,sC,sD,sE,sF])
        | (refine Det.read (v:=?_) (by rfl) ?_ ?_;rotate_left;(· (intro wq hSq;obtain ⟨c0,c1,cf,cb,ce,cg⟩:=HV.out wq hSq;go_simp;try with_reducible rfl));simp only [Act.put,sA,sB,sC,sD,sE,sF])
        | fail)
     refine Det.done fun wz hz=>?_
     go_wp2_with fail
     go_ret
     exact ⟨by rw [HG.out,HQ.out];simp,HB0.out.trans ((HAl.out.trans (hz.mono HAl.out.size)).mono HB0.out.size)⟩
    | true =>
     rw [g0,g1] at HOk
     have HQ1:=hid (HTa.out ((by rw [HOk.out];rfl)))
     have HQ2:=hid (HTd.out (trivial))
     clear HBad HDup HTa HTd
     go_wp2_with fail
     refine wp_region_det (S:=(fun wq=>Below wv.heap.size wv wq)) (by kernel_rfl) (by kernel_rfl) (Below.drew (Below.refl _ _)) ?_
     rw [List.toList_toArray]
     repeat (first
        | (refine Det.skip (by rfl) ?_;simp only [Act.put,sA,sB,sC,sD,sE,sF])
        | (refine Det.read (v:=?_) (by rfl) ?_ ?_;rotate_left;(· (intro wq hSq;obtain ⟨c0,c1,cf,cb,ce,cg⟩:=HV.out wq hSq;go_simp;try with_reducible rfl));simp only [Act.put,sA,sB,sC,sD,sE,sF])
        | fail)
     refine Det.step (.bool true) (by rfl) (fun wq hSq K hK=>?_) ?_
     ·go_simp
      rw [HE.out,Oper.upon_enter]
      refine (HIv.out wq hSq).mono ?_
      rintro e4 w4 ⟨rfl,hb4⟩
      rw [g0]
      go_wp2_with fail
      refine hK.out _ _ (hSq.trans (hb4.mono hSq.size)) ?_
      rfl
     simp only [Act.put,sA,sB,sC,sD,sE,sF]
     repeat (first
        | ((with_reducible show Det _ _ _ _ (Oper.mk _ (Op.call (Call.mk (Callee.value (Operand.func 175)) _ _)) _ _ _ _::_) _);refine Det.step (.bool true) (by rfl) (fun wq hSq K hK=>?_) ?_;(· (go_simp;refine ((stNetE g1 _)).mono ?_;rintro e4 w4 ⟨rfl,hb4⟩;go_wp2_with fail;refine hK.out _ _ (hSq.trans (hb4.mono hSq.size)) ?_;first | rfl | (simp [Act.put];done)));simp only [Act.put,sA,sB,sC,sD,sE,sF])
        | ((with_reducible show Det _ _ _ _ (Oper.mk _ (Op.call (Call.mk (Callee.value (Operand.func 200)) _ _)) _ _ _ _::_) _);refine Det.step (.bool true) (by rfl) (fun wq hSq K hK=>?_) ?_;(· (go_simp;refine ((stBeforeE g2 _)).mono ?_;rintro e4 w4 ⟨rfl,hb4⟩;go_wp2_with fail;refine hK.out _ _ (hSq.trans (hb4.mono hSq.size)) ?_;first | rfl | (simp [Act.put];done)));simp only [Act.put,sA,sB,sC,sD,sE,sF])
        | (refine Det.skip (by rfl) ?_;simp only [Act.put,sA,sB,sC,sD,sE,sF])
        | (refine Det.read (v:=?_) (by rfl) ?_ ?_;rotate_left;(· (intro wq hSq;obtain ⟨c0,c1,cf,cb,ce,cg⟩:=HV.out wq hSq;go_simp;try with_reducible rfl));simp only [Act.put,sA,sB,sC,sD,sE,sF])
        | fail)
     refine Det.done fun wz hz=>?_
     go_wp2_with fail
     go_roundw
     case rel=>exact ⟨0+1,by omega,by go_num,HQ1.out,HQ2.out,HAl.out.trans (hz.mono HAl.out.size)⟩
     case measure=>simp [intOf];omega
   ·have hlt1:k - 1<l.length:=by omega
    have hw:IntKind.i64.wrap ((k:Int) - 1)=((k - 1:Nat):Int):=by rw [IntKind.wrap_i64];omega
    have hk1:decide ((0:Int)<(k:Int))=true:=by simp;omega
    have hk2:decide (0<k)=true:=by simp;omega
    have hk3:0<k:=by omega
    have HTd:=hid (fun (h:befB l[k - 1] l[k]=true)=>adj_take befB l k hlt HD.out (fun _=>h))
    have HDup:=hid (fun (h:befB l[k - 1] l[k]=false)=>debts_not2 (P:=P) (adj_not befB l k hlt (by omega) h))
    have HY:=hid (fun wq (hq:Below wb.heap.size wb wq)=>show wq.cell? ⟨b,off+(k - 1) * 2,none⟩=some (.int .i64 l[k - 1].a)∧wq.cell? ⟨b,off+(k - 1) * 2+1,none⟩=some (.int .i64 l[k - 1].b) from by
     obtain ⟨b2,off2,he,_,y0,y1⟩:=rdD2 (HRb.out wq hq) hlt1
     obtain ⟨rfl,rfl⟩:b=b2∧off=off2:=by simpa using he
     exact ⟨y0,y1⟩)
    generalize l[k]=x at *
    generalize l[k - 1]=y at *
    have HOk:Hid (okc3 P x=(P x.a && toB x.b 0 11)):=hid rfl
    have hal:Below wb.heap.size wb (wr.alloc (.cells #[.int .i64 x.a,.int .i64 x.b] 48)):=HB.out.alloc HB.out.size _
    have HAl:=hid hal
    have HIv:=hid (fun wq (hq:Below (wr.alloc (.cells #[.int .i64 x.a,.int .i64 x.b] 48)).heap.size (wr.alloc (.cells #[.int .i64 x.a,.int .i64 x.b] 48)) wq)=>HI.out.run x.a wq (HAl.out.trans (hq.mono HAl.out.size)))
    have HV:Hid (∀ wq,Below (wr.alloc (.cells #[.int .i64 x.a,.int .i64 x.b] 48)).heap.size (wr.alloc (.cells #[.int .i64 x.a,.int .i64 x.b] 48)) wq→wq.cell? ⟨wr.heap.size,0,none⟩=some (.int .i64 x.a)∧wq.cell? ⟨wr.heap.size,1,none⟩=some (.int .i64 x.b)∧wq.cell? ⟨bf,0,none⟩=some (.func (.func f.n) f.bnd f.cap)∧wq.cell? ⟨bs,12,none⟩=some (.slice (some ⟨b,off,none⟩) l.length cb)∧wq.cell? ⟨b,off+(k - 1) * 2,none⟩=some (.int .i64 y.a)∧wq.cell? ⟨b,off+(k - 1) * 2+1,none⟩=some (.int .i64 y.b)):=hid fun wq hq =>
     ⟨(hq.cell (p:=⟨wr.heap.size,0,none⟩) (by simp)).trans (by simp),(hq.cell (p:=⟨wr.heap.size,1,none⟩) (by simp)).trans (by simp),HZf.out wq (HAl.out.trans (hq.mono HAl.out.size)),HZb.out wq (HAl.out.trans (hq.mono HAl.out.size)),by first | exact ⟨trivial,trivial⟩ | exact HY.out wq (HAl.out.trans (hq.mono HAl.out.size))⟩
    clear hal hbw HD HA
    go_upto_region 6 with fail
    generalize wr.alloc (.cells #[.int .i64 x.a,.int .i64 x.b] 48)=wv at *
    cases g0:P x.a with
    | false =>
     rw [g0] at HOk
     have g1:=trivial
     have g2:=trivial
     have HQ:=hid (HBad.out (by rw [HOk.out];rfl))
     clear HBad HDup HTa HTd
     go_wp2_with fail
     refine wp_region_det (S:=(fun wq=>Below wv.heap.size wv wq)) (by kernel_rfl) (by kernel_rfl) (Below.drew (Below.refl _ _)) ?_
     rw [List.toList_toArray]
     repeat (first
        | (refine Det.skip (by rfl) ?_;simp only [Act.put,sA,sB,sC,sD,sE,sF])
        | (refine Det.read (v:=?_) (by rfl) ?_ ?_;rotate_left;(· (intro wq hSq;obtain ⟨c0,c1,cf,cb,ce,cg⟩:=HV.out wq hSq;go_simp;try with_reducible rfl));simp only [Act.put,sA,sB,sC,sD,sE,sF])
        | fail)
     refine Det.step (.bool false) (by rfl) (fun wq hSq K hK=>?_) ?_
     ·go_simp
      rw [HE.out,Oper.upon_enter]
      refine (HIv.out wq hSq).mono ?_
      rintro e4 w4 ⟨rfl,hb4⟩
      rw [g0]
      go_wp2_with fail
      refine hK.out _ _ (hSq.trans (hb4.mono hSq.size)) ?_
      rfl
     simp only [Act.put,sA,sB,sC,sD,sE,sF]
     repeat (first
        | ((with_reducible show Det _ _ _ _ (Oper.mk _ (Op.call (Call.mk (Callee.value (Operand.func 175)) _ _)) _ _ _ _::_) _);refine Det.step (.bool false) (by rfl) (fun wq hSq K hK=>?_) ?_;(· (go_simp;refine ((stNetE g1 _)).mono ?_;rintro e4 w4 ⟨rfl,hb4⟩;go_wp2_with fail;refine hK.out _ _ (hSq.trans (hb4.mono hSq.size)) ?_;first | rfl | (simp [Act.put];done)));simp only [Act.put,sA,sB,sC,sD,sE,sF])
        | ((with_reducible show Det _ _ _ _ (Oper.mk _ (Op.call (Call.mk (Callee.value (Operand.func 200)) _ _)) _ _ _ _::_) _);refine Det.step (.bool false) (by rfl) (fun wq hSq K hK=>?_) ?_;(· (go_simp;refine ((stBeforeE g2 _)).mono ?_;rintro e4 w4 ⟨rfl,hb4⟩;go_wp2_with fail;refine hK.out _ _ (hSq.trans (hb4.mono hSq.size)) ?_;first | rfl | (simp [Act.put];done)));simp only [Act.put,sA,sB,sC,sD,sE,sF])
        | (refine Det.skip (by rfl) ?_;simp only [Act.put,sA,sB,sC,sD,sE,sF])
        | (refine Det.read (v:=?_) (by rfl) ?_ ?_;rotate_left;(· (intro wq hSq;obtain ⟨c0,c1,cf,cb,ce,cg⟩:=HV.out wq hSq;go_simp;try with_reducible rfl));simp only [Act.put,sA,sB,sC,sD,sE,sF])
        | fail)
     refine Det.done fun wz hz=>?_
     go_wp2_with fail
     go_ret
     exact ⟨by rw [HG.out,HQ.out];simp,HB0.out.trans ((HAl.out.trans (hz.mono HAl.out.size)).mono HB0.out.size)⟩
    | true =>
    cases g1:toB x.b 0 11 with
    | false =>
     rw [g0,g1] at HOk
     have g2:=trivial
     have HQ:=hid (HBad.out (by rw [HOk.out];rfl))
     clear HBad HDup HTa HTd
     go_wp2_with fail
     refine wp_region_det (S:=(fun wq=>Below wv.heap.size wv wq)) (by kernel_rfl) (by kernel_rfl) (Below.drew (Below.refl _ _)) ?_
     rw [List.toList_toArray]
     repeat (first
        | (refine Det.skip (by rfl) ?_;simp only [Act.put,sA,sB,sC,sD,sE,sF])
        | (refine Det.read (v:=?_) (by rfl) ?_ ?_;rotate_left;(· (intro wq hSq;obtain ⟨c0,c1,cf,cb,ce,cg⟩:=HV.out wq hSq;go_simp;try with_reducible rfl));simp only [Act.put,sA,sB,sC,sD,sE,sF])
        | fail)
     refine Det.step (.bool true) (by rfl) (fun wq hSq K hK=>?_) ?_
     ·go_simp
      rw [HE.out,Oper.upon_enter]
      refine (HIv.out wq hSq).mono ?_
      rintro e4 w4 ⟨rfl,hb4⟩
      rw [g0]
      go_wp2_with fail
      refine hK.out _ _ (hSq.trans (hb4.mono hSq.size)) ?_
      rfl
     simp only [Act.put,sA,sB,sC,sD,sE,sF]
     repeat (first
        | ((with_reducible show Det _ _ _ _ (Oper.mk _ (Op.call (Call.mk (Callee.value (Operand.func 175)) _ _)) _ _ _ _::_) _);refine Det.step (.bool false) (by rfl) (fun wq hSq K hK=>?_) ?_;(· (go_simp;refine ((stNetE g1 _)).mono ?_;rintro e4 w4 ⟨rfl,hb4⟩;go_wp2_with fail;refine hK.out _ _ (hSq.trans (hb4.mono hSq.size)) ?_;first | rfl | (simp [Act.put];done)));simp only [Act.put,sA,sB,sC,sD,sE,sF])
        | ((with_reducible show Det _ _ _ _ (Oper.mk _ (Op.call (Call.mk (Callee.value (Operand.func 200)) _ _)) _ _ _ _::_) _);refine Det.step (.bool false) (by rfl) (fun wq hSq K hK=>?_) ?_;(· (go_simp;refine ((stBeforeE g2 _)).mono ?_;rintro e4 w4 ⟨rfl,hb4⟩;go_wp2_with fail;refine hK.out _ _ (hSq.trans (hb4.mono hSq.size)) ?_;first | rfl | (simp [Act.put];done)));simp only [Act.put,sA,sB,sC,sD,sE,sF])
        | (refine Det.skip (by rfl) ?_;simp only [Act.put,sA,sB,sC,sD,sE,sF])
        | (refine Det.read (v:=?_) (by rfl) ?_ ?_;rotate_left;(· (intro wq hSq;obtain ⟨c0,c1,cf,cb,ce,cg⟩:=HV.out wq hSq;go_simp;try with_reducible rfl));simp only [Act.put,sA,sB,sC,sD,sE,sF])
        | fail)
     refine Det.done fun wz hz=>?_
     go_wp2_with fail
     go_ret
     exact ⟨by rw [HG.out,HQ.out];simp,HB0.out.trans ((HAl.out.trans (hz.mono HAl.out.size)).mono HB0.out.size)⟩
    | true =>
    rw [g0,g1] at HOk
    cases g2:befB y x with
    | false =>
     have HQ:=hid (HDup.out g2)
     clear HBad HDup HTa HTd
     go_wp2_with fail
     refine wp_region_det (S:=(fun wq=>Below wv.heap.size wv wq)) (by kernel_rfl) (by kernel_rfl) (Below.drew (Below.refl _ _)) ?_
     rw [List.toList_toArray]
     repeat (first
        | (refine Det.skip (by rfl) ?_;simp only [Act.put,sA,sB,sC,sD,sE,sF])
        | (refine Det.read (v:=?_) (by rfl) ?_ ?_;rotate_left;(· (intro wq hSq;obtain ⟨c0,c1,cf,cb,ce,cg⟩:=HV.out wq hSq;go_simp;try with_reducible rfl));simp only [Act.put,sA,sB,sC,sD,sE,sF])
        | fail)
     refine Det.step (.bool true) (by rfl) (fun wq hSq K hK=>?_) ?_
     ·go_simp
      rw [HE.out,Oper.upon_enter]
      refine (HIv.out wq hSq).mono ?_
      rintro e4 w4 ⟨rfl,hb4⟩
      rw [g0]
      go_wp2_with fail
      refine hK.out _ _ (hSq.trans (hb4.mono hSq.size)) ?_
      rfl
     simp only [Act.put,sA,sB,sC,sD,sE,sF]
     repeat (first
        | ((with_reducible show Det _ _ _ _ (Oper.mk _ (Op.call (Call.mk (Callee.value (Operand.func 175)) _ _)) _ _ _ _::_) _);refine Det.step (.bool true) (by rfl) (fun wq hSq K hK=>?_) ?_;(· (go_simp;refine ((stNetE g1 _)).mono ?_;rintro e4 w4 ⟨rfl,hb4⟩;go_wp2_with fail;refine hK.out _ _ (hSq.trans (hb4.mono hSq.size)) ?_;first | rfl | (simp [Act.put];done)));simp only [Act.put,sA,sB,sC,sD,sE,sF])
        | ((with_reducible show Det _ _ _ _ (Oper.mk _ (Op.call (Call.mk (Callee.value (Operand.func 200)) _ _)) _ _ _ _::_) _);refine Det.step (.bool false) (by rfl) (fun wq hSq K hK=>?_) ?_;(· (go_simp;refine ((stBeforeE g2 _)).mono ?_;rintro e4 w4 ⟨rfl,hb4⟩;go_wp2_with fail;refine hK.out _ _ (hSq.trans (hb4.mono hSq.size)) ?_;first | rfl | (simp [Act.put];done)));simp only [Act.put,sA,sB,sC,sD,sE,sF])
        | (refine Det.skip (by rfl) ?_;simp only [Act.put,sA,sB,sC,sD,sE,sF])
        | (refine Det.read (v:=?_) (by rfl) ?_ ?_;rotate_left;(· (intro wq hSq;obtain ⟨c0,c1,cf,cb,ce,cg⟩:=HV.out wq hSq;go_simp;try with_reducible rfl));simp only [Act.put,sA,sB,sC,sD,sE,sF])
        | fail)
     refine Det.done fun wz hz=>?_
     go_wp2_with fail
     go_ret
     exact ⟨by rw [HG.out,HQ.out];simp,HB0.out.trans ((HAl.out.trans (hz.mono HAl.out.size)).mono HB0.out.size)⟩
    | true =>
     have HQ1:=hid (HTa.out ((by rw [HOk.out];rfl)))
     have HQ2:=hid (HTd.out (g2))
     clear HBad HDup HTa HTd
     go_wp2_with fail
     refine wp_region_det (S:=(fun wq=>Below wv.heap.size wv wq)) (by kernel_rfl) (by kernel_rfl) (Below.drew (Below.refl _ _)) ?_
     rw [List.toList_toArray]
     repeat (first
        | (refine Det.skip (by rfl) ?_;simp only [Act.put,sA,sB,sC,sD,sE,sF])
        | (refine Det.read (v:=?_) (by rfl) ?_ ?_;rotate_left;(· (intro wq hSq;obtain ⟨c0,c1,cf,cb,ce,cg⟩:=HV.out wq hSq;go_simp;try with_reducible rfl));simp only [Act.put,sA,sB,sC,sD,sE,sF])
        | fail)
     refine Det.step (.bool true) (by rfl) (fun wq hSq K hK=>?_) ?_
     ·go_simp
      rw [HE.out,Oper.upon_enter]
      refine (HIv.out wq hSq).mono ?_
      rintro e4 w4 ⟨rfl,hb4⟩
      rw [g0]
      go_wp2_with fail
      refine hK.out _ _ (hSq.trans (hb4.mono hSq.size)) ?_
      rfl
     simp only [Act.put,sA,sB,sC,sD,sE,sF]
     repeat (first
        | ((with_reducible show Det _ _ _ _ (Oper.mk _ (Op.call (Call.mk (Callee.value (Operand.func 175)) _ _)) _ _ _ _::_) _);refine Det.step (.bool true) (by rfl) (fun wq hSq K hK=>?_) ?_;(· (go_simp;refine ((stNetE g1 _)).mono ?_;rintro e4 w4 ⟨rfl,hb4⟩;go_wp2_with fail;refine hK.out _ _ (hSq.trans (hb4.mono hSq.size)) ?_;first | rfl | (simp [Act.put];done)));simp only [Act.put,sA,sB,sC,sD,sE,sF])
        | ((with_reducible show Det _ _ _ _ (Oper.mk _ (Op.call (Call.mk (Callee.value (Operand.func 200)) _ _)) _ _ _ _::_) _);refine Det.step (.bool true) (by rfl) (fun wq hSq K hK=>?_) ?_;(· (go_simp;refine ((stBeforeE g2 _)).mono ?_;rintro e4 w4 ⟨rfl,hb4⟩;go_wp2_with fail;refine hK.out _ _ (hSq.trans (hb4.mono hSq.size)) ?_;first | rfl | (simp [Act.put];done)));simp only [Act.put,sA,sB,sC,sD,sE,sF])
        | (refine Det.skip (by rfl) ?_;simp only [Act.put,sA,sB,sC,sD,sE,sF])
        | (refine Det.read (v:=?_) (by rfl) ?_ ?_;rotate_left;(· (intro wq hSq;obtain ⟨c0,c1,cf,cb,ce,cg⟩:=HV.out wq hSq;go_simp;try with_reducible rfl));simp only [Act.put,sA,sB,sC,sD,sE,sF])
        | fail)
     refine Det.done fun wz hz=>?_
     go_wp2_with fail
     go_roundw
     case rel=>exact ⟨k+1,by omega,by go_num,HQ1.out,HQ2.out,HAl.out.trans (hz.mono HAl.out.size)⟩
     case measure=>simp [intOf];omega
  ·obtain rfl:k=l.length:=by omega
   have HZ:Hid (debtsB P l=true):=hid (by
    have h1:=HA.out
    have h2:=HD.out
    rw [List.take_length] at h1 h2
    unfold debtsB
    rw [h1,h2];rfl)
   cases q1 <;> cases q2
   all_goals go_wp2_with fail
   all_goals go_ret
   all_goals exact ⟨by rw [HG.out,HZ.out];rfl,HB0.out.trans (HB.out.mono HB0.out.size)⟩
end Go.Proofs.YthlpehhlhebhbaaGreatDoor
