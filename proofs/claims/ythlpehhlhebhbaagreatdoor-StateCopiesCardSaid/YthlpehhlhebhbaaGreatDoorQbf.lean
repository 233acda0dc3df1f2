/- Contracts and plain laws, joined: StY. -/
import Derived.Test.YthlpehhlhebhbaaGreatDoorQbd
import Derived.Test.YthlpehhlhebhbaaGreatDoorQbe
/- Contracts of state.read (layer 46;written by genry.py). -/
set_option linter.unusedSimpArgs false
set_option linter.unusedVariables false
namespace Go.Proofs.YthlpehhlhebhbaaGreatDoor
set_option maxHeartbeats 2000000
open Lib (hid)
open Go.RowKit
set_option maxRecDepth 100000
structure ElOk {T:Type} (ok:World→T→Prop) (see:T→Nat→Prop):Prop where
 frame:∀ w w' x,ok w x→(∀ i,see x i→w'.heap[i]?=w.heap[i]?)→w.heap.size≤w'.heap.size→ok w' x
 lt:∀ w x i,ok w x→see x i→i<w.heap.size
theorem elNo {T:Type}:ElOk (fun (_:World) (_:T)=>True) (fun _ _=>False):=⟨fun _ _ _ _ _ _=>trivial,fun _ _ _ _ h=>h.elim⟩
theorem elEv:ElOk okEv EvL.at_:=⟨fun _ _ _ h hb hs=>h.frame hb hs,fun _ _ i h hi=>h.2 i hi⟩
theorem elNL:ElOk okNL NL.at_:=⟨fun _ _ _ h hb hs=>h.frame hb hs,fun _ _ i h hi=>h.2 i hi⟩
structure RInv {T:Type} (lo:Nat) (w:World) (e:TypeId) (sz:Nat) (enc:T→List Value) (ok:World→T→Prop) (see:T→Nat→Prop) (A:Option Addr) (c:Nat) (out:List T):Prop where
 own:OwnL w lo e sz enc A c out
 el:∀ x∈out,ok w x∧∀ i,see x i→lo≤i∧slBlk A≠some i
section
variable {T:Type} {lo:Nat} {w w' w6:World} {e:TypeId} {sz:Nat} {enc:T→List Value} {ok:World→T→Prop} {see:T→Nat→Prop} {A A2:Option Addr} {c c2:Nat} {out:List T} {x:T}
theorem RInv.nil_:RInv lo w e sz enc ok see none 0 ([]:List T):=⟨OwnL.nil_,fun x hx=>(nomatch hx)⟩
theorem RInv.turn (E:ElOk ok see) {F:Nat→Prop} (h:RInv lo w e sz enc ok see A c out) (t:Turn F w w') (hF:∀ i,F i→i<lo):RInv lo w' e sz enc ok see A c out :=
 ⟨h.own.turn (fun i hi hl=>t.block i hl (fun hf=>by have:=hF i hf;have:=(h.own.blk_lt hi).1;omega)),
  fun x hx=>⟨E.frame _ _ x (h.el x hx).1 (fun i hi=>t.block i (E.lt _ x i (h.el x hx).1 hi) (fun hf=>by have:=hF i hf;have:=((h.el x hx).2 i hi).1;omega)) t.size,(h.el x hx).2⟩⟩
theorem RInv.push (E:ElOk ok see) (h:RInv lo w e sz enc ok see A c out) (hx:ok w x) (hs:∀ i,see x i→lo≤i∧slBlk A≠some i) (o:Obj)
  (hown:OwnL w6 lo e sz enc A2 c2 (out++[x])) (hg:(w.alloc o).grownBy w6 (slBlk A)) (hat:slBlk A2=slBlk A∨slBlk A2=some (w.alloc o).heap.size):RInv lo w6 e sz enc ok see A2 c2 (out++[x]):=by
 have hsz:(w.alloc o).heap.size=w.heap.size+1:=by simp
 have key:∀ y,ok w y→(∀ i,see y i→lo≤i∧slBlk A≠some i)→ok w6 y∧∀ i,see y i→lo≤i∧slBlk A2≠some i:=by
  intro y hy hsy
  refine ⟨E.frame _ _ y hy (fun i hi=>?_) (by have:=hg.size;omega),fun i hi=>⟨(hsy i hi).1,fun he=>?_⟩⟩
  ·have hl:=E.lt _ y i hy hi
   rw [hg.block i (by omega) (fun he=>(hsy i hi).2 he.symm)]
   exact Below.heap_alloc w o i hl
  ·rcases hat with h1 | h1
   ·exact (hsy i hi).2 (h1 ▸ he)
   ·have hl:=E.lt _ y i hy hi
    rw [he] at h1
    have:=Option.some.inj h1
    omega
 refine ⟨hown,fun y hy=>?_⟩
 rcases List.mem_append.1 hy with hy | hy
 ·exact key y (h.el y hy).1 (h.el y hy).2
 ·obtain rfl:y=x:=by simpa using hy
  exact key y hx hs
end
structure FunR {T P:Type} (b:Nat) (w:World) (f:FV) (vx:T→Value) (pl:T→P) (ok:World→T→Prop) (see:T→Nat→Prop) (one:RS→P × RS):Prop where
 ent:∀ args w',(callFunc f.n args).run Tryz.prog w'=.ok (.enter f.n args) w'
 run:∀ (s:RS) (w':World),Turn (One b) w w'→RdAt b s w'→s.rest.length≤1000000000000→Calls Tryz.prog f.n (f.bnd++#[]++f.cap) w' fun e w''=>∃ x,e=.returned (vx x)∧pl x=(one s).1∧ok w'' x∧(∀ i,see x i→w'.heap.size≤i)∧RdAt b (one s).2 w''∧Turn (One b) w' w''
theorem FunR.on {T P:Type} {b:Nat} {w w2:World} {f:FV} {vx:T→Value} {pl:T→P} {ok:World→T→Prop} {see:T→Nat→Prop} {one:RS→P × RS} (h:FunR b w f vx pl ok see one) (t:Turn (One b) w w2):FunR b w2 f vx pl ok see one :=
 ⟨h.ent,fun s w' t'=>h.run s w' (t.trans t' (fun i hi=>.inl hi))⟩
theorem Turn.more' {F:Nat→Prop} {a b c:World} (h:Turn F a b) (k:Below a.heap.size b c):Turn F a c:=h.more k
def slLen:Value→Nat
 | .slice _ n _=>n
 | _=>0
theorem rdGo_end {T:Type} (one:RS→T × RS) (m k:Nat) (q s:RS) (out:List T) (h:rdGo one m q []=rdGo one k s out) (hk:k=0∨s.rest=[]):rdGo one m q []=(out,s):=by
 rw [h]
 rcases hk with rfl | hk
 ·rfl
 ·exact rdGo_nil _ _ _ _ hk
theorem rdGo_more {T:Type} (one:RS→T × RS) (m n k:Nat) (q s:RS) (out:List T) (h:rdGo one m q []=rdGo one (n - k) s out) (hk:k<n) (hs:s.rest≠[]):rdGo one m q []=rdGo one (n - (k+1)) (one s).2 (out++[(one s).1]):=by
 rw [h,show n - k=(n - (k+1))+1 by omega]
 exact rdGo_go _ _ _ _ hs
def RdOut {T P:Type} (b:Nat) (s:RS) (e:TypeId) (sz:Nat) (enc:T→List Value) (pl:T→P) (ok:World→T→Prop) (see:T→Nat→Prop) (one:RS→P × RS) (w:World) (en:Ending) (w':World):Prop :=
 ∃ A c xs,en=.returned (.slice A xs.length c)∧xs.map pl=(rdLs one s).1∧RInv w.heap.size w' e sz enc ok see A c xs∧RdAt b (rdLs one s).2 w'∧Turn (One b) w w'
theorem reEvent_any {B:Nat} (b:Nat) (s:RS) (f:FV) (one:RS→EvM × RS) (w:World) (hV:Vs B w) (hb:B≤b) (h:RdAt b s w) (hl:s.rest.length≤1000000000000) (hE:EatsN one) (hf:FunR b w f EvL.v (fun x:EvL=>x.ev) okEv EvL.at_ one) :
  Calls Tryz.prog 29 #[.pointer (some ⟨b,0,none⟩),.func (.func f.n) f.bnd f.cap] w (RdOut b s 56 12 EvL.cs (fun x:EvL=>x.ev) okEv EvL.at_ one w):=by
 have HBL:=hid h.lt
 have HG:=hid (rNum_ge 59 s)
 have HI:=hid (rNum_in 59 0 s)
 have HR:=hid (rNum_rest 59 0 s)
 have HD:Hid (rdLs one s=rdGo one (rNum 59 0 s).1.toNat (rNum 59 0 s).2 []):=hid rfl
 have HF:=hid hf
 have HE:=hid hE
 have HC:=hid (rdNum_any b s w hV hb h hl)
 have HL:=hid hl
 clear hf hE hV h hl
 go_enter Tryz.func29,Tryz.ntmps29
 go_wp2_with fail
 refine HC.out.mono ?_
 rintro en w1 ⟨rfl,ha,ht⟩
 have HA:=hid ha
 have HT:=hid ht
 have hG:=HG.out
 have hI:=HI.out.2
 have HL:=hid (Nat.le_trans HR.out HL.out)
 clear ha ht HC HG HI HR
 generalize rNum 59 0 s=r at *
 obtain ⟨n,q⟩:=r
 simp only at hG hI HL HA HD ⊢
 obtain ⟨m,rfl⟩:∃ m:Nat,n=m:=⟨n.toNat,by omega⟩
 rw [Int.toNat_natCast] at HD
 clear hG
 go_wp2_with fail
 go_loopw [5] (fun o wr=>∃ (s':RS) (out:List EvL) (A:Option Addr) (c:Nat),o=.slice A out.length c∧out.length≤m∧RInv w.heap.size wr 56 12 EvL.cs okEv EvL.at_ A c out∧RdAt b s' wr∧Turn (One b) w wr∧rdGo one m q []=rdGo one (m - out.length) s' (out.map (fun x:EvL=>x.ev))∧out.length+s'.rest.length≤q.rest.length) (fun o _=>m - slLen o)
 case atStart=>exact ⟨q,[],none,0,rfl,Nat.zero_le _,RInv.nil_,HA.out,HT.out,rfl,by simp⟩
 case round =>
  obtain ⟨s',out,A,c,rfl,hom,hinv,hrd,htu,hgo,hln⟩:=hrel
  have H2:=hid hinv
  have HA2:=hid hrd
  have HT2:=hid htu
  have HGo:=hid hgo
  have HLn:=hid hln
  have HQl:=HL.out
  clear hinv hrd htu hgo hln HA HT
  by_cases hlt:out.length<m
  ·have d1:decide ((out.length:Int)<(m:Int))=true:=decide_eq_true (by omega)
   go_wp2_with fail
   refine (left_any b s' wr HA2.out).mono ?_
   rintro en wq ⟨rfl,rfl⟩
   by_cases hr:s'.rest=[]
   ·have hr0:s'.rest.length=0:=by rw [hr];rfl
    have d2:decide (0<(s'.rest.length:Int))=false:=decide_eq_false (by omega)
    have HX:=hid (rdGo_end one _ _ _ _ _ HGo.out (.inr hr))
    clear hr
    rw [hr0]
    clear d2 hr0
    go_wp2_with fail
    go_ret
    exact ⟨A,c,out,rfl,by rw [HD.out,HX.out],H2.out,by rw [HD.out,HX.out];exact HA2.out,HT2.out⟩
   ·have hr0:0<s'.rest.length:=List.length_pos_iff.2 hr
    have d2:decide (0<(s'.rest.length:Int))=true:=decide_eq_true (by omega)
    have HEt:=hid (HE.out s' hr)
    have HX:=hid (rdGo_more one _ _ _ _ _ _ HGo.out hlt hr)
    have hsl:s'.rest.length≤1000000000000:=by have:=HLn.out;omega
    have HRun:=hid (HF.out.run s' wr HT2.out HA2.out hsl)
    clear hr hsl
    generalize s'.rest.length=rl at *
    go_wp2_with fail
    rw [HF.out.ent,Oper.upon_enter]
    refine HRun.out.mono ?_
    rintro en w4 ⟨x,rfl,hpl,hok,hfr,ha4,ht4⟩
    have HA4:=hid ha4
    have HT4:=hid (HT2.out.trans ht4 (fun i hi=>.inl hi))
    have H4:=hid (H2.out.turn elEv ht4 (fun i hi=>by have:=HBL.out;unfold One at hi;omega))
    have HOk:=hid hok
    have HPl:=hid hpl
    have HFr:Hid (∀ i,EvL.at_ x i→w.heap.size≤i∧slBlk A≠some i):=hid (fun i hi=>⟨Nat.le_trans HT2.out.size (hfr i hi),fun he=>by have:=(H2.out.own.blk_lt he).2;have:=hfr i hi;omega⟩)
    have HBt:Hid ((out.length+1) * 136≤140737488355328):=hid (by have:=HLn.out;omega)
    clear ha4 ht4 hok hpl hfr
    go_wp2_with (at_builtin;refine wp_append_l rfl (.tmp 18) (.tmp 21) rfl slEvents layEvL w.heap.size (xs:=out) (ys:=[x]) rfl rfl (H4.out.own.alloc _) rfl rfl (RdL.one w4 x _ _ rfl _ rfl) (by have:=HBt.out;simp;omega) (by have:=HT4.out.size;simp;omega) ?_;intro A2 c2 w6 hown hg hb2 hat;have HP:=hid (H4.out.push elEv HOk.out HFr.out _ hown (by simpa only [own_blk] using hg) (by simpa only [own_blk] using hat));have HB6:=hid (((Below.refl w.heap.size w4).alloc HT4.out.size _).trans hb2);clear hown hg hb2 hat)
    go_roundw
    case rel =>
     refine ⟨(one s').2,out++[x],A2,c2,by simp,by simp;omega,HP.out,(HB6.out.block b HBL.out).trans HA4.out,HT4.out.more' HB6.out,?_,?_⟩
     ·rw [HX.out,List.length_append,List.length_singleton,List.map_append,List.map_singleton,HPl.out]
     ·have h1:=HEt.out;have h2:=HLn.out;simp only [List.length_append,List.length_singleton];omega
    case measure=>simp [slLen];omega
  ·have hom2:out.length=m:=by omega
   have HX:=hid (rdGo_end one _ _ _ _ _ HGo.out (.inl (by omega)))
   have d1:decide ((out.length:Int)<(m:Int))=false:=decide_eq_false (by omega)
   have HM:=hid hom2
   clear hom2
   go_wp2_with fail
   go_ret
   exact ⟨A,c,out,rfl,by rw [HD.out,HX.out],H2.out,by rw [HD.out,HX.out];exact HA2.out,HT2.out⟩
theorem slWaiting46:SlTy Tryz.prog 23 61 4 32:=by
 obtain ⟨i,hi,h0,h1,h2⟩:=info_parts (show (Tryz.prog.info? 61).map (fun i=>(i.zero,i.size,i.bytes))=some (some (.agg #[.int .i64 0,.int .i64 0,.int .i64 0,.int .i64 0]),4,32) by kernel_rfl)
 exact ⟨Tryz.underlying23,⟨i,_,hi,h0,h1,h2,rfl⟩,by decide,by decide⟩
theorem reWaiting_any {B:Nat} (b:Nat) (s:RS) (f:FV) (one:RS→D4 × RS) (w:World) (hV:Vs B w) (hb:B≤b) (h:RdAt b s w) (hl:s.rest.length≤1000000000000) (hE:EatsN one) (hf:FunR b w f D4.v (fun x:D4=>x) (fun (_:World) (_:D4)=>True) (fun (_:D4) (_:Nat)=>False) one) :
  Calls Tryz.prog 33 #[.pointer (some ⟨b,0,none⟩),.func (.func f.n) f.bnd f.cap] w (RdOut b s 61 4 D4.cs (fun x:D4=>x) (fun (_:World) (_:D4)=>True) (fun (_:D4) (_:Nat)=>False) one w):=by
 have HBL:=hid h.lt
 have HG:=hid (rNum_ge 59 s)
 have HI:=hid (rNum_in 59 0 s)
 have HR:=hid (rNum_rest 59 0 s)
 have HD:Hid (rdLs one s=rdGo one (rNum 59 0 s).1.toNat (rNum 59 0 s).2 []):=hid rfl
 have HF:=hid hf
 have HE:=hid hE
 have HC:=hid (rdNum_any b s w hV hb h hl)
 have HL:=hid hl
 clear hf hE hV h hl
 go_enter Tryz.func33,Tryz.ntmps33
 go_wp2_with fail
 refine HC.out.mono ?_
 rintro en w1 ⟨rfl,ha,ht⟩
 have HA:=hid ha
 have HT:=hid ht
 have hG:=HG.out
 have hI:=HI.out.2
 have HL:=hid (Nat.le_trans HR.out HL.out)
 clear ha ht HC HG HI HR
 generalize rNum 59 0 s=r at *
 obtain ⟨n,q⟩:=r
 simp only at hG hI HL HA HD ⊢
 obtain ⟨m,rfl⟩:∃ m:Nat,n=m:=⟨n.toNat,by omega⟩
 rw [Int.toNat_natCast] at HD
 clear hG
 go_wp2_with fail
 go_loopw [5] (fun o wr=>∃ (s':RS) (out:List D4) (A:Option Addr) (c:Nat),o=.slice A out.length c∧out.length≤m∧RInv w.heap.size wr 61 4 D4.cs (fun (_:World) (_:D4)=>True) (fun (_:D4) (_:Nat)=>False) A c out∧RdAt b s' wr∧Turn (One b) w wr∧rdGo one m q []=rdGo one (m - out.length) s' (out.map (fun x:D4=>x))∧out.length+s'.rest.length≤q.rest.length) (fun o _=>m - slLen o)
 case atStart=>exact ⟨q,[],none,0,rfl,Nat.zero_le _,RInv.nil_,HA.out,HT.out,rfl,by simp⟩
 case round =>
  obtain ⟨s',out,A,c,rfl,hom,hinv,hrd,htu,hgo,hln⟩:=hrel
  have H2:=hid hinv
  have HA2:=hid hrd
  have HT2:=hid htu
  have HGo:=hid hgo
  have HLn:=hid hln
  have HQl:=HL.out
  clear hinv hrd htu hgo hln HA HT
  by_cases hlt:out.length<m
  ·have d1:decide ((out.length:Int)<(m:Int))=true:=decide_eq_true (by omega)
   go_wp2_with fail
   refine (left_any b s' wr HA2.out).mono ?_
   rintro en wq ⟨rfl,rfl⟩
   by_cases hr:s'.rest=[]
   ·have hr0:s'.rest.length=0:=by rw [hr];rfl
    have d2:decide (0<(s'.rest.length:Int))=false:=decide_eq_false (by omega)
    have HX:=hid (rdGo_end one _ _ _ _ _ HGo.out (.inr hr))
    clear hr
    rw [hr0]
    clear d2 hr0
    go_wp2_with fail
    go_ret
    exact ⟨A,c,out,rfl,by rw [HD.out,HX.out],H2.out,by rw [HD.out,HX.out];exact HA2.out,HT2.out⟩
   ·have hr0:0<s'.rest.length:=List.length_pos_iff.2 hr
    have d2:decide (0<(s'.rest.length:Int))=true:=decide_eq_true (by omega)
    have HEt:=hid (HE.out s' hr)
    have HX:=hid (rdGo_more one _ _ _ _ _ _ HGo.out hlt hr)
    have hsl:s'.rest.length≤1000000000000:=by have:=HLn.out;omega
    have HRun:=hid (HF.out.run s' wr HT2.out HA2.out hsl)
    clear hr hsl
    generalize s'.rest.length=rl at *
    go_wp2_with fail
    rw [HF.out.ent,Oper.upon_enter]
    refine HRun.out.mono ?_
    rintro en w4 ⟨x,rfl,hpl,hok,hfr,ha4,ht4⟩
    have HA4:=hid ha4
    have HT4:=hid (HT2.out.trans ht4 (fun i hi=>.inl hi))
    have H4:=hid (H2.out.turn elNo ht4 (fun i hi=>by have:=HBL.out;unfold One at hi;omega))
    have HOk:=hid hok
    have HPl:=hid hpl
    have HFr:Hid (∀ i,(fun (_:D4) (_:Nat)=>False) x i→w.heap.size≤i∧slBlk A≠some i):=hid (fun i hi=>⟨Nat.le_trans HT2.out.size (hfr i hi),fun he=>by have:=(H2.out.own.blk_lt he).2;have:=hfr i hi;omega⟩)
    have HBt:Hid ((out.length+1) * 32≤140737488355328):=hid (by have:=HLn.out;omega)
    clear ha4 ht4 hok hpl hfr
    go_wp2_with (at_builtin;refine wp_append_l rfl (.tmp 18) (.tmp 21) rfl slWaiting46 layD4 w.heap.size (xs:=out) (ys:=[x]) rfl rfl (H4.out.own.alloc _) rfl rfl (RdL.one w4 x _ _ rfl _ rfl) (by have:=HBt.out;simp;omega) (by have:=HT4.out.size;simp;omega) ?_;intro A2 c2 w6 hown hg hb2 hat;have HP:=hid (H4.out.push elNo HOk.out HFr.out _ hown (by simpa only [own_blk] using hg) (by simpa only [own_blk] using hat));have HB6:=hid (((Below.refl w.heap.size w4).alloc HT4.out.size _).trans hb2);clear hown hg hb2 hat)
    go_roundw
    case rel =>
     refine ⟨(one s').2,out++[x],A2,c2,by simp,by simp;omega,HP.out,(HB6.out.block b HBL.out).trans HA4.out,HT4.out.more' HB6.out,?_,?_⟩
     ·rw [HX.out,List.length_append,List.length_singleton,List.map_append,List.map_singleton,HPl.out]
     ·have h1:=HEt.out;have h2:=HLn.out;simp only [List.length_append,List.length_singleton];omega
    case measure=>simp [slLen];omega
  ·have hom2:out.length=m:=by omega
   have HX:=hid (rdGo_end one _ _ _ _ _ HGo.out (.inl (by omega)))
   have d1:decide ((out.length:Int)<(m:Int))=false:=decide_eq_false (by omega)
   have HM:=hid hom2
   clear hom2
   go_wp2_with fail
   go_ret
   exact ⟨A,c,out,rfl,by rw [HD.out,HX.out],H2.out,by rw [HD.out,HX.out];exact HA2.out,HT2.out⟩
theorem slSent46:SlTy Tryz.prog 24 46 3 24:=by
 obtain ⟨i,hi,h0,h1,h2⟩:=info_parts (show (Tryz.prog.info? 46).map (fun i=>(i.zero,i.size,i.bytes))=some (some (.agg #[.int .i64 0,.int .i64 0,.int .i64 0]),3,24) by kernel_rfl)
 exact ⟨Tryz.underlying24,⟨i,_,hi,h0,h1,h2,rfl⟩,by decide,by decide⟩
theorem reSent_any {B:Nat} (b:Nat) (s:RS) (f:FV) (one:RS→D3 × RS) (w:World) (hV:Vs B w) (hb:B≤b) (h:RdAt b s w) (hl:s.rest.length≤1000000000000) (hE:EatsN one) (hf:FunR b w f D3.v (fun x:D3=>x) (fun (_:World) (_:D3)=>True) (fun (_:D3) (_:Nat)=>False) one) :
  Calls Tryz.prog 35 #[.pointer (some ⟨b,0,none⟩),.func (.func f.n) f.bnd f.cap] w (RdOut b s 46 3 D3.cs (fun x:D3=>x) (fun (_:World) (_:D3)=>True) (fun (_:D3) (_:Nat)=>False) one w):=by
 have HBL:=hid h.lt
 have HG:=hid (rNum_ge 59 s)
 have HI:=hid (rNum_in 59 0 s)
 have HR:=hid (rNum_rest 59 0 s)
 have HD:Hid (rdLs one s=rdGo one (rNum 59 0 s).1.toNat (rNum 59 0 s).2 []):=hid rfl
 have HF:=hid hf
 have HE:=hid hE
 have HC:=hid (rdNum_any b s w hV hb h hl)
 have HL:=hid hl
 clear hf hE hV h hl
 go_enter Tryz.func35,Tryz.ntmps35
 go_wp2_with fail
 refine HC.out.mono ?_
 rintro en w1 ⟨rfl,ha,ht⟩
 have HA:=hid ha
 have HT:=hid ht
 have hG:=HG.out
 have hI:=HI.out.2
 have HL:=hid (Nat.le_trans HR.out HL.out)
 clear ha ht HC HG HI HR
 generalize rNum 59 0 s=r at *
 obtain ⟨n,q⟩:=r
 simp only at hG hI HL HA HD ⊢
 obtain ⟨m,rfl⟩:∃ m:Nat,n=m:=⟨n.toNat,by omega⟩
 rw [Int.toNat_natCast] at HD
 clear hG
 go_wp2_with fail
 go_loopw [5] (fun o wr=>∃ (s':RS) (out:List D3) (A:Option Addr) (c:Nat),o=.slice A out.length c∧out.length≤m∧RInv w.heap.size wr 46 3 D3.cs (fun (_:World) (_:D3)=>True) (fun (_:D3) (_:Nat)=>False) A c out∧RdAt b s' wr∧Turn (One b) w wr∧rdGo one m q []=rdGo one (m - out.length) s' (out.map (fun x:D3=>x))∧out.length+s'.rest.length≤q.rest.length) (fun o _=>m - slLen o)
 case atStart=>exact ⟨q,[],none,0,rfl,Nat.zero_le _,RInv.nil_,HA.out,HT.out,rfl,by simp⟩
 case round =>
  obtain ⟨s',out,A,c,rfl,hom,hinv,hrd,htu,hgo,hln⟩:=hrel
  have H2:=hid hinv
  have HA2:=hid hrd
  have HT2:=hid htu
  have HGo:=hid hgo
  have HLn:=hid hln
  have HQl:=HL.out
  clear hinv hrd htu hgo hln HA HT
  by_cases hlt:out.length<m
  ·have d1:decide ((out.length:Int)<(m:Int))=true:=decide_eq_true (by omega)
   go_wp2_with fail
   refine (left_any b s' wr HA2.out).mono ?_
   rintro en wq ⟨rfl,rfl⟩
   by_cases hr:s'.rest=[]
   ·have hr0:s'.rest.length=0:=by rw [hr];rfl
    have d2:decide (0<(s'.rest.length:Int))=false:=decide_eq_false (by omega)
    have HX:=hid (rdGo_end one _ _ _ _ _ HGo.out (.inr hr))
    clear hr
    rw [hr0]
    clear d2 hr0
    go_wp2_with fail
    go_ret
    exact ⟨A,c,out,rfl,by rw [HD.out,HX.out],H2.out,by rw [HD.out,HX.out];exact HA2.out,HT2.out⟩
   ·have hr0:0<s'.rest.length:=List.length_pos_iff.2 hr
    have d2:decide (0<(s'.rest.length:Int))=true:=decide_eq_true (by omega)
    have HEt:=hid (HE.out s' hr)
    have HX:=hid (rdGo_more one _ _ _ _ _ _ HGo.out hlt hr)
    have hsl:s'.rest.length≤1000000000000:=by have:=HLn.out;omega
    have HRun:=hid (HF.out.run s' wr HT2.out HA2.out hsl)
    clear hr hsl
    generalize s'.rest.length=rl at *
    go_wp2_with fail
    rw [HF.out.ent,Oper.upon_enter]
    refine HRun.out.mono ?_
    rintro en w4 ⟨x,rfl,hpl,hok,hfr,ha4,ht4⟩
    have HA4:=hid ha4
    have HT4:=hid (HT2.out.trans ht4 (fun i hi=>.inl hi))
    have H4:=hid (H2.out.turn elNo ht4 (fun i hi=>by have:=HBL.out;unfold One at hi;omega))
    have HOk:=hid hok
    have HPl:=hid hpl
    have HFr:Hid (∀ i,(fun (_:D3) (_:Nat)=>False) x i→w.heap.size≤i∧slBlk A≠some i):=hid (fun i hi=>⟨Nat.le_trans HT2.out.size (hfr i hi),fun he=>by have:=(H2.out.own.blk_lt he).2;have:=hfr i hi;omega⟩)
    have HBt:Hid ((out.length+1) * 24≤140737488355328):=hid (by have:=HLn.out;omega)
    clear ha4 ht4 hok hpl hfr
    go_wp2_with (at_builtin;refine wp_append_l rfl (.tmp 18) (.tmp 21) rfl slSent46 layD3 w.heap.size (xs:=out) (ys:=[x]) rfl rfl (H4.out.own.alloc _) rfl rfl (RdL.one w4 x _ _ rfl _ rfl) (by have:=HBt.out;simp;omega) (by have:=HT4.out.size;simp;omega) ?_;intro A2 c2 w6 hown hg hb2 hat;have HP:=hid (H4.out.push elNo HOk.out HFr.out _ hown (by simpa only [own_blk] using hg) (by simpa only [own_blk] using hat));have HB6:=hid (((Below.refl w.heap.size w4).alloc HT4.out.size _).trans hb2);clear hown hg hb2 hat)
    go_roundw
    case rel =>
     refine ⟨(one s').2,out++[x],A2,c2,by simp,by simp;omega,HP.out,(HB6.out.block b HBL.out).trans HA4.out,HT4.out.more' HB6.out,?_,?_⟩
     ·rw [HX.out,List.length_append,List.length_singleton,List.map_append,List.map_singleton,HPl.out]
     ·have h1:=HEt.out;have h2:=HLn.out;simp only [List.length_append,List.length_singleton];omega
    case measure=>simp [slLen];omega
  ·have hom2:out.length=m:=by omega
   have HX:=hid (rdGo_end one _ _ _ _ _ HGo.out (.inl (by omega)))
   have d1:decide ((out.length:Int)<(m:Int))=false:=decide_eq_false (by omega)
   have HM:=hid hom2
   clear hom2
   go_wp2_with fail
   go_ret
   exact ⟨A,c,out,rfl,by rw [HD.out,HX.out],H2.out,by rw [HD.out,HX.out];exact HA2.out,HT2.out⟩
theorem slDebt46:SlTy Tryz.prog 25 48 2 16:=by
 obtain ⟨i,hi,h0,h1,h2⟩:=info_parts (show (Tryz.prog.info? 48).map (fun i=>(i.zero,i.size,i.bytes))=some (some (.agg #[.int .i64 0,.int .i64 0]),2,16) by kernel_rfl)
 exact ⟨Tryz.underlying25,⟨i,_,hi,h0,h1,h2,rfl⟩,by decide,by decide⟩
theorem reDebt_any {B:Nat} (b:Nat) (s:RS) (f:FV) (one:RS→D2 × RS) (w:World) (hV:Vs B w) (hb:B≤b) (h:RdAt b s w) (hl:s.rest.length≤1000000000000) (hE:EatsN one) (hf:FunR b w f D2.v (fun x:D2=>x) (fun (_:World) (_:D2)=>True) (fun (_:D2) (_:Nat)=>False) one) :
  Calls Tryz.prog 37 #[.pointer (some ⟨b,0,none⟩),.func (.func f.n) f.bnd f.cap] w (RdOut b s 48 2 D2.cs (fun x:D2=>x) (fun (_:World) (_:D2)=>True) (fun (_:D2) (_:Nat)=>False) one w):=by
 have HBL:=hid h.lt
 have HG:=hid (rNum_ge 59 s)
 have HI:=hid (rNum_in 59 0 s)
 have HR:=hid (rNum_rest 59 0 s)
 have HD:Hid (rdLs one s=rdGo one (rNum 59 0 s).1.toNat (rNum 59 0 s).2 []):=hid rfl
 have HF:=hid hf
 have HE:=hid hE
 have HC:=hid (rdNum_any b s w hV hb h hl)
 have HL:=hid hl
 clear hf hE hV h hl
 go_enter Tryz.func37,Tryz.ntmps37
 go_wp2_with fail
 refine HC.out.mono ?_
 rintro en w1 ⟨rfl,ha,ht⟩
 have HA:=hid ha
 have HT:=hid ht
 have hG:=HG.out
 have hI:=HI.out.2
 have HL:=hid (Nat.le_trans HR.out HL.out)
 clear ha ht HC HG HI HR
 generalize rNum 59 0 s=r at *
 obtain ⟨n,q⟩:=r
 simp only at hG hI HL HA HD ⊢
 obtain ⟨m,rfl⟩:∃ m:Nat,n=m:=⟨n.toNat,by omega⟩
 rw [Int.toNat_natCast] at HD
 clear hG
 go_wp2_with fail
 go_loopw [5] (fun o wr=>∃ (s':RS) (out:List D2) (A:Option Addr) (c:Nat),o=.slice A out.length c∧out.length≤m∧RInv w.heap.size wr 48 2 D2.cs (fun (_:World) (_:D2)=>True) (fun (_:D2) (_:Nat)=>False) A c out∧RdAt b s' wr∧Turn (One b) w wr∧rdGo one m q []=rdGo one (m - out.length) s' (out.map (fun x:D2=>x))∧out.length+s'.rest.length≤q.rest.length) (fun o _=>m - slLen o)
 case atStart=>exact ⟨q,[],none,0,rfl,Nat.zero_le _,RInv.nil_,HA.out,HT.out,rfl,by simp⟩
 case round =>
  obtain ⟨s',out,A,c,rfl,hom,hinv,hrd,htu,hgo,hln⟩:=hrel
  have H2:=hid hinv
  have HA2:=hid hrd
  have HT2:=hid htu
  have HGo:=hid hgo
  have HLn:=hid hln
  have HQl:=HL.out
  clear hinv hrd htu hgo hln HA HT
  by_cases hlt:out.length<m
  ·have d1:decide ((out.length:Int)<(m:Int))=true:=decide_eq_true (by omega)
   go_wp2_with fail
   refine (left_any b s' wr HA2.out).mono ?_
   rintro en wq ⟨rfl,rfl⟩
   by_cases hr:s'.rest=[]
   ·have hr0:s'.rest.length=0:=by rw [hr];rfl
    have d2:decide (0<(s'.rest.length:Int))=false:=decide_eq_false (by omega)
    have HX:=hid (rdGo_end one _ _ _ _ _ HGo.out (.inr hr))
    clear hr
    rw [hr0]
    clear d2 hr0
    go_wp2_with fail
    go_ret
    exact ⟨A,c,out,rfl,by rw [HD.out,HX.out],H2.out,by rw [HD.out,HX.out];exact HA2.out,HT2.out⟩
   ·have hr0:0<s'.rest.length:=List.length_pos_iff.2 hr
    have d2:decide (0<(s'.rest.length:Int))=true:=decide_eq_true (by omega)
    have HEt:=hid (HE.out s' hr)
    have HX:=hid (rdGo_more one _ _ _ _ _ _ HGo.out hlt hr)
    have hsl:s'.rest.length≤1000000000000:=by have:=HLn.out;omega
    have HRun:=hid (HF.out.run s' wr HT2.out HA2.out hsl)
    clear hr hsl
    generalize s'.rest.length=rl at *
    go_wp2_with fail
    rw [HF.out.ent,Oper.upon_enter]
    refine HRun.out.mono ?_
    rintro en w4 ⟨x,rfl,hpl,hok,hfr,ha4,ht4⟩
    have HA4:=hid ha4
    have HT4:=hid (HT2.out.trans ht4 (fun i hi=>.inl hi))
    have H4:=hid (H2.out.turn elNo ht4 (fun i hi=>by have:=HBL.out;unfold One at hi;omega))
    have HOk:=hid hok
    have HPl:=hid hpl
    have HFr:Hid (∀ i,(fun (_:D2) (_:Nat)=>False) x i→w.heap.size≤i∧slBlk A≠some i):=hid (fun i hi=>⟨Nat.le_trans HT2.out.size (hfr i hi),fun he=>by have:=(H2.out.own.blk_lt he).2;have:=hfr i hi;omega⟩)
    have HBt:Hid ((out.length+1) * 16≤140737488355328):=hid (by have:=HLn.out;omega)
    clear ha4 ht4 hok hpl hfr
    go_wp2_with (at_builtin;refine wp_append_l rfl (.tmp 18) (.tmp 21) rfl slDebt46 layD2 w.heap.size (xs:=out) (ys:=[x]) rfl rfl (H4.out.own.alloc _) rfl rfl (RdL.one w4 x _ _ rfl _ rfl) (by have:=HBt.out;simp;omega) (by have:=HT4.out.size;simp;omega) ?_;intro A2 c2 w6 hown hg hb2 hat;have HP:=hid (H4.out.push elNo HOk.out HFr.out _ hown (by simpa only [own_blk] using hg) (by simpa only [own_blk] using hat));have HB6:=hid (((Below.refl w.heap.size w4).alloc HT4.out.size _).trans hb2);clear hown hg hb2 hat)
    go_roundw
    case rel =>
     refine ⟨(one s').2,out++[x],A2,c2,by simp,by simp;omega,HP.out,(HB6.out.block b HBL.out).trans HA4.out,HT4.out.more' HB6.out,?_,?_⟩
     ·rw [HX.out,List.length_append,List.length_singleton,List.map_append,List.map_singleton,HPl.out]
     ·have h1:=HEt.out;have h2:=HLn.out;simp only [List.length_append,List.length_singleton];omega
    case measure=>simp [slLen];omega
  ·have hom2:out.length=m:=by omega
   have HX:=hid (rdGo_end one _ _ _ _ _ HGo.out (.inl (by omega)))
   have d1:decide ((out.length:Int)<(m:Int))=false:=decide_eq_false (by omega)
   have HM:=hid hom2
   clear hom2
   go_wp2_with fail
   go_ret
   exact ⟨A,c,out,rfl,by rw [HD.out,HX.out],H2.out,by rw [HD.out,HX.out];exact HA2.out,HT2.out⟩
theorem slPair46:SlTy Tryz.prog 26 88 4 32:=by
 obtain ⟨i,hi,h0,h1,h2⟩:=info_parts (show (Tryz.prog.info? 88).map (fun i=>(i.zero,i.size,i.bytes))=some (some (.agg #[.int .i64 0,.int .i64 0,.int .i64 0,.int .i64 0]),4,32) by kernel_rfl)
 exact ⟨Tryz.underlying26,⟨i,_,hi,h0,h1,h2,rfl⟩,by decide,by decide⟩
theorem rePair_any {B:Nat} (b:Nat) (s:RS) (f:FV) (one:RS→D4 × RS) (w:World) (hV:Vs B w) (hb:B≤b) (h:RdAt b s w) (hl:s.rest.length≤1000000000000) (hE:EatsN one) (hf:FunR b w f D4.v (fun x:D4=>x) (fun (_:World) (_:D4)=>True) (fun (_:D4) (_:Nat)=>False) one) :
  Calls Tryz.prog 38 #[.pointer (some ⟨b,0,none⟩),.func (.func f.n) f.bnd f.cap] w (RdOut b s 88 4 D4.cs (fun x:D4=>x) (fun (_:World) (_:D4)=>True) (fun (_:D4) (_:Nat)=>False) one w):=by
 have HBL:=hid h.lt
 have HG:=hid (rNum_ge 59 s)
 have HI:=hid (rNum_in 59 0 s)
 have HR:=hid (rNum_rest 59 0 s)
 have HD:Hid (rdLs one s=rdGo one (rNum 59 0 s).1.toNat (rNum 59 0 s).2 []):=hid rfl
 have HF:=hid hf
 have HE:=hid hE
 have HC:=hid (rdNum_any b s w hV hb h hl)
 have HL:=hid hl
 clear hf hE hV h hl
 go_enter Tryz.func38,Tryz.ntmps38
 go_wp2_with fail
 refine HC.out.mono ?_
 rintro en w1 ⟨rfl,ha,ht⟩
 have HA:=hid ha
 have HT:=hid ht
 have hG:=HG.out
 have hI:=HI.out.2
 have HL:=hid (Nat.le_trans HR.out HL.out)
 clear ha ht HC HG HI HR
 generalize rNum 59 0 s=r at *
 obtain ⟨n,q⟩:=r
 simp only at hG hI HL HA HD ⊢
 obtain ⟨m,rfl⟩:∃ m:Nat,n=m:=⟨n.toNat,by omega⟩
 rw [Int.toNat_natCast] at HD
 clear hG
 go_wp2_with fail
 go_loopw [5] (fun o wr=>∃ (s':RS) (out:List D4) (A:Option Addr) (c:Nat),o=.slice A out.length c∧out.length≤m∧RInv w.heap.size wr 88 4 D4.cs (fun (_:World) (_:D4)=>True) (fun (_:D4) (_:Nat)=>False) A c out∧RdAt b s' wr∧Turn (One b) w wr∧rdGo one m q []=rdGo one (m - out.length) s' (out.map (fun x:D4=>x))∧out.length+s'.rest.length≤q.rest.length) (fun o _=>m - slLen o)
 case atStart=>exact ⟨q,[],none,0,rfl,Nat.zero_le _,RInv.nil_,HA.out,HT.out,rfl,by simp⟩
 case round =>
  obtain ⟨s',out,A,c,rfl,hom,hinv,hrd,htu,hgo,hln⟩:=hrel
  have H2:=hid hinv
  have HA2:=hid hrd
  have HT2:=hid htu
  have HGo:=hid hgo
  have HLn:=hid hln
  have HQl:=HL.out
  clear hinv hrd htu hgo hln HA HT
  by_cases hlt:out.length<m
  ·have d1:decide ((out.length:Int)<(m:Int))=true:=decide_eq_true (by omega)
   go_wp2_with fail
   refine (left_any b s' wr HA2.out).mono ?_
   rintro en wq ⟨rfl,rfl⟩
   by_cases hr:s'.rest=[]
   ·have hr0:s'.rest.length=0:=by rw [hr];rfl
    have d2:decide (0<(s'.rest.length:Int))=false:=decide_eq_false (by omega)
    have HX:=hid (rdGo_end one _ _ _ _ _ HGo.out (.inr hr))
    clear hr
    rw [hr0]
    clear d2 hr0
    go_wp2_with fail
    go_ret
    exact ⟨A,c,out,rfl,by rw [HD.out,HX.out],H2.out,by rw [HD.out,HX.out];exact HA2.out,HT2.out⟩
   ·have hr0:0<s'.rest.length:=List.length_pos_iff.2 hr
    have d2:decide (0<(s'.rest.length:Int))=true:=decide_eq_true (by omega)
    have HEt:=hid (HE.out s' hr)
    have HX:=hid (rdGo_more one _ _ _ _ _ _ HGo.out hlt hr)
    have hsl:s'.rest.length≤1000000000000:=by have:=HLn.out;omega
    have HRun:=hid (HF.out.run s' wr HT2.out HA2.out hsl)
    clear hr hsl
    generalize s'.rest.length=rl at *
    go_wp2_with fail
    rw [HF.out.ent,Oper.upon_enter]
    refine HRun.out.mono ?_
    rintro en w4 ⟨x,rfl,hpl,hok,hfr,ha4,ht4⟩
    have HA4:=hid ha4
    have HT4:=hid (HT2.out.trans ht4 (fun i hi=>.inl hi))
    have H4:=hid (H2.out.turn elNo ht4 (fun i hi=>by have:=HBL.out;unfold One at hi;omega))
    have HOk:=hid hok
    have HPl:=hid hpl
    have HFr:Hid (∀ i,(fun (_:D4) (_:Nat)=>False) x i→w.heap.size≤i∧slBlk A≠some i):=hid (fun i hi=>⟨Nat.le_trans HT2.out.size (hfr i hi),fun he=>by have:=(H2.out.own.blk_lt he).2;have:=hfr i hi;omega⟩)
    have HBt:Hid ((out.length+1) * 32≤140737488355328):=hid (by have:=HLn.out;omega)
    clear ha4 ht4 hok hpl hfr
    go_wp2_with (at_builtin;refine wp_append_l rfl (.tmp 18) (.tmp 21) rfl slPair46 layD4 w.heap.size (xs:=out) (ys:=[x]) rfl rfl (H4.out.own.alloc _) rfl rfl (RdL.one w4 x _ _ rfl _ rfl) (by have:=HBt.out;simp;omega) (by have:=HT4.out.size;simp;omega) ?_;intro A2 c2 w6 hown hg hb2 hat;have HP:=hid (H4.out.push elNo HOk.out HFr.out _ hown (by simpa only [own_blk] using hg) (by simpa only [own_blk] using hat));have HB6:=hid (((Below.refl w.heap.size w4).alloc HT4.out.size _).trans hb2);clear hown hg hb2 hat)
    go_roundw
    case rel =>
     refine ⟨(one s').2,out++[x],A2,c2,by simp,by simp;omega,HP.out,(HB6.out.block b HBL.out).trans HA4.out,HT4.out.more' HB6.out,?_,?_⟩
     ·rw [HX.out,List.length_append,List.length_singleton,List.map_append,List.map_singleton,HPl.out]
     ·have h1:=HEt.out;have h2:=HLn.out;simp only [List.length_append,List.length_singleton];omega
    case measure=>simp [slLen];omega
  ·have hom2:out.length=m:=by omega
   have HX:=hid (rdGo_end one _ _ _ _ _ HGo.out (.inl (by omega)))
   have d1:decide ((out.length:Int)<(m:Int))=false:=decide_eq_false (by omega)
   have HM:=hid hom2
   clear hom2
   go_wp2_with fail
   go_ret
   exact ⟨A,c,out,rfl,by rw [HD.out,HX.out],H2.out,by rw [HD.out,HX.out];exact HA2.out,HT2.out⟩
theorem slProof46:SlTy Tryz.prog 27 92 3 24:=by
 obtain ⟨i,hi,h0,h1,h2⟩:=info_parts (show (Tryz.prog.info? 92).map (fun i=>(i.zero,i.size,i.bytes))=some (some (.agg #[.int .i64 0,.int .i64 0,.int .i64 0]),3,24) by kernel_rfl)
 exact ⟨Tryz.underlying27,⟨i,_,hi,h0,h1,h2,rfl⟩,by decide,by decide⟩
theorem reProof_any {B:Nat} (b:Nat) (s:RS) (f:FV) (one:RS→D3 × RS) (w:World) (hV:Vs B w) (hb:B≤b) (h:RdAt b s w) (hl:s.rest.length≤1000000000000) (hE:EatsN one) (hf:FunR b w f D3.v (fun x:D3=>x) (fun (_:World) (_:D3)=>True) (fun (_:D3) (_:Nat)=>False) one) :
  Calls Tryz.prog 40 #[.pointer (some ⟨b,0,none⟩),.func (.func f.n) f.bnd f.cap] w (RdOut b s 92 3 D3.cs (fun x:D3=>x) (fun (_:World) (_:D3)=>True) (fun (_:D3) (_:Nat)=>False) one w):=by
 have HBL:=hid h.lt
 have HG:=hid (rNum_ge 59 s)
 have HI:=hid (rNum_in 59 0 s)
 have HR:=hid (rNum_rest 59 0 s)
 have HD:Hid (rdLs one s=rdGo one (rNum 59 0 s).1.toNat (rNum 59 0 s).2 []):=hid rfl
 have HF:=hid hf
 have HE:=hid hE
 have HC:=hid (rdNum_any b s w hV hb h hl)
 have HL:=hid hl
 clear hf hE hV h hl
 go_enter Tryz.func40,Tryz.ntmps40
 go_wp2_with fail
 refine HC.out.mono ?_
 rintro en w1 ⟨rfl,ha,ht⟩
 have HA:=hid ha
 have HT:=hid ht
 have hG:=HG.out
 have hI:=HI.out.2
 have HL:=hid (Nat.le_trans HR.out HL.out)
 clear ha ht HC HG HI HR
 generalize rNum 59 0 s=r at *
 obtain ⟨n,q⟩:=r
 simp only at hG hI HL HA HD ⊢
 obtain ⟨m,rfl⟩:∃ m:Nat,n=m:=⟨n.toNat,by omega⟩
 rw [Int.toNat_natCast] at HD
 clear hG
 go_wp2_with fail
 go_loopw [5] (fun o wr=>∃ (s':RS) (out:List D3) (A:Option Addr) (c:Nat),o=.slice A out.length c∧out.length≤m∧RInv w.heap.size wr 92 3 D3.cs (fun (_:World) (_:D3)=>True) (fun (_:D3) (_:Nat)=>False) A c out∧RdAt b s' wr∧Turn (One b) w wr∧rdGo one m q []=rdGo one (m - out.length) s' (out.map (fun x:D3=>x))∧out.length+s'.rest.length≤q.rest.length) (fun o _=>m - slLen o)
 case atStart=>exact ⟨q,[],none,0,rfl,Nat.zero_le _,RInv.nil_,HA.out,HT.out,rfl,by simp⟩
 case round =>
  obtain ⟨s',out,A,c,rfl,hom,hinv,hrd,htu,hgo,hln⟩:=hrel
  have H2:=hid hinv
  have HA2:=hid hrd
  have HT2:=hid htu
  have HGo:=hid hgo
  have HLn:=hid hln
  have HQl:=HL.out
  clear hinv hrd htu hgo hln HA HT
  by_cases hlt:out.length<m
  ·have d1:decide ((out.length:Int)<(m:Int))=true:=decide_eq_true (by omega)
   go_wp2_with fail
   refine (left_any b s' wr HA2.out).mono ?_
   rintro en wq ⟨rfl,rfl⟩
   by_cases hr:s'.rest=[]
   ·have hr0:s'.rest.length=0:=by rw [hr];rfl
    have d2:decide (0<(s'.rest.length:Int))=false:=decide_eq_false (by omega)
    have HX:=hid (rdGo_end one _ _ _ _ _ HGo.out (.inr hr))
    clear hr
    rw [hr0]
    clear d2 hr0
    go_wp2_with fail
    go_ret
    exact ⟨A,c,out,rfl,by rw [HD.out,HX.out],H2.out,by rw [HD.out,HX.out];exact HA2.out,HT2.out⟩
   ·have hr0:0<s'.rest.length:=List.length_pos_iff.2 hr
    have d2:decide (0<(s'.rest.length:Int))=true:=decide_eq_true (by omega)
    have HEt:=hid (HE.out s' hr)
    have HX:=hid (rdGo_more one _ _ _ _ _ _ HGo.out hlt hr)
    have hsl:s'.rest.length≤1000000000000:=by have:=HLn.out;omega
    have HRun:=hid (HF.out.run s' wr HT2.out HA2.out hsl)
    clear hr hsl
    generalize s'.rest.length=rl at *
    go_wp2_with fail
    rw [HF.out.ent,Oper.upon_enter]
    refine HRun.out.mono ?_
    rintro en w4 ⟨x,rfl,hpl,hok,hfr,ha4,ht4⟩
    have HA4:=hid ha4
    have HT4:=hid (HT2.out.trans ht4 (fun i hi=>.inl hi))
    have H4:=hid (H2.out.turn elNo ht4 (fun i hi=>by have:=HBL.out;unfold One at hi;omega))
    have HOk:=hid hok
    have HPl:=hid hpl
    have HFr:Hid (∀ i,(fun (_:D3) (_:Nat)=>False) x i→w.heap.size≤i∧slBlk A≠some i):=hid (fun i hi=>⟨Nat.le_trans HT2.out.size (hfr i hi),fun he=>by have:=(H2.out.own.blk_lt he).2;have:=hfr i hi;omega⟩)
    have HBt:Hid ((out.length+1) * 24≤140737488355328):=hid (by have:=HLn.out;omega)
    clear ha4 ht4 hok hpl hfr
    go_wp2_with (at_builtin;refine wp_append_l rfl (.tmp 18) (.tmp 21) rfl slProof46 layD3 w.heap.size (xs:=out) (ys:=[x]) rfl rfl (H4.out.own.alloc _) rfl rfl (RdL.one w4 x _ _ rfl _ rfl) (by have:=HBt.out;simp;omega) (by have:=HT4.out.size;simp;omega) ?_;intro A2 c2 w6 hown hg hb2 hat;have HP:=hid (H4.out.push elNo HOk.out HFr.out _ hown (by simpa only [own_blk] using hg) (by simpa only [own_blk] using hat));have HB6:=hid (((Below.refl w.heap.size w4).alloc HT4.out.size _).trans hb2);clear hown hg hb2 hat)
    go_roundw
    case rel =>
     refine ⟨(one s').2,out++[x],A2,c2,by simp,by simp;omega,HP.out,(HB6.out.block b HBL.out).trans HA4.out,HT4.out.more' HB6.out,?_,?_⟩
     ·rw [HX.out,List.length_append,List.length_singleton,List.map_append,List.map_singleton,HPl.out]
     ·have h1:=HEt.out;have h2:=HLn.out;simp only [List.length_append,List.length_singleton];omega
    case measure=>simp [slLen];omega
  ·have hom2:out.length=m:=by omega
   have HX:=hid (rdGo_end one _ _ _ _ _ HGo.out (.inl (by omega)))
   have d1:decide ((out.length:Int)<(m:Int))=false:=decide_eq_false (by omega)
   have HM:=hid hom2
   clear hom2
   go_wp2_with fail
   go_ret
   exact ⟨A,c,out,rfl,by rw [HD.out,HX.out],H2.out,by rw [HD.out,HX.out];exact HA2.out,HT2.out⟩
theorem slNotes46:SlTy Tryz.prog 28 57 1 24:=by
 obtain ⟨i,hi,h0,h1,h2⟩:=info_parts (show (Tryz.prog.info? 57).map (fun i=>(i.zero,i.size,i.bytes))=some (some (.slice none 0 0),1,24) by kernel_rfl)
 exact ⟨Tryz.underlying28,⟨i,_,hi,h0,h1,h2,rfl⟩,by decide,by decide⟩
theorem reNotes_any {B:Nat} (b:Nat) (s:RS) (f:FV) (one:RS→List E5 × RS) (w:World) (hV:Vs B w) (hb:B≤b) (h:RdAt b s w) (hl:s.rest.length≤1000000000000) (hE:EatsN one) (hf:FunR b w f NL.v (fun x:NL=>x.l) okNL NL.at_ one) :
  Calls Tryz.prog 42 #[.pointer (some ⟨b,0,none⟩),.func (.func f.n) f.bnd f.cap] w (RdOut b s 57 1 NL.cs (fun x:NL=>x.l) okNL NL.at_ one w):=by
 have HBL:=hid h.lt
 have HG:=hid (rNum_ge 59 s)
 have HI:=hid (rNum_in 59 0 s)
 have HR:=hid (rNum_rest 59 0 s)
 have HD:Hid (rdLs one s=rdGo one (rNum 59 0 s).1.toNat (rNum 59 0 s).2 []):=hid rfl
 have HF:=hid hf
 have HE:=hid hE
 have HC:=hid (rdNum_any b s w hV hb h hl)
 have HL:=hid hl
 clear hf hE hV h hl
 go_enter Tryz.func42,Tryz.ntmps42
 go_wp2_with fail
 refine HC.out.mono ?_
 rintro en w1 ⟨rfl,ha,ht⟩
 have HA:=hid ha
 have HT:=hid ht
 have hG:=HG.out
 have hI:=HI.out.2
 have HL:=hid (Nat.le_trans HR.out HL.out)
 clear ha ht HC HG HI HR
 generalize rNum 59 0 s=r at *
 obtain ⟨n,q⟩:=r
 simp only at hG hI HL HA HD ⊢
 obtain ⟨m,rfl⟩:∃ m:Nat,n=m:=⟨n.toNat,by omega⟩
 rw [Int.toNat_natCast] at HD
 clear hG
 go_wp2_with fail
 go_loopw [5] (fun o wr=>∃ (s':RS) (out:List NL) (A:Option Addr) (c:Nat),o=.slice A out.length c∧out.length≤m∧RInv w.heap.size wr 57 1 NL.cs okNL NL.at_ A c out∧RdAt b s' wr∧Turn (One b) w wr∧rdGo one m q []=rdGo one (m - out.length) s' (out.map (fun x:NL=>x.l))∧out.length+s'.rest.length≤q.rest.length) (fun o _=>m - slLen o)
 case atStart=>exact ⟨q,[],none,0,rfl,Nat.zero_le _,RInv.nil_,HA.out,HT.out,rfl,by simp⟩
 case round =>
  obtain ⟨s',out,A,c,rfl,hom,hinv,hrd,htu,hgo,hln⟩:=hrel
  have H2:=hid hinv
  have HA2:=hid hrd
  have HT2:=hid htu
  have HGo:=hid hgo
  have HLn:=hid hln
  have HQl:=HL.out
  clear hinv hrd htu hgo hln HA HT
  by_cases hlt:out.length<m
  ·have d1:decide ((out.length:Int)<(m:Int))=true:=decide_eq_true (by omega)
   go_wp2_with fail
   refine (left_any b s' wr HA2.out).mono ?_
   rintro en wq ⟨rfl,rfl⟩
   by_cases hr:s'.rest=[]
   ·have hr0:s'.rest.length=0:=by rw [hr];rfl
    have d2:decide (0<(s'.rest.length:Int))=false:=decide_eq_false (by omega)
    have HX:=hid (rdGo_end one _ _ _ _ _ HGo.out (.inr hr))
    clear hr
    rw [hr0]
    clear d2 hr0
    go_wp2_with fail
    go_ret
    exact ⟨A,c,out,rfl,by rw [HD.out,HX.out],H2.out,by rw [HD.out,HX.out];exact HA2.out,HT2.out⟩
   ·have hr0:0<s'.rest.length:=List.length_pos_iff.2 hr
    have d2:decide (0<(s'.rest.length:Int))=true:=decide_eq_true (by omega)
    have HEt:=hid (HE.out s' hr)
    have HX:=hid (rdGo_more one _ _ _ _ _ _ HGo.out hlt hr)
    have hsl:s'.rest.length≤1000000000000:=by have:=HLn.out;omega
    have HRun:=hid (HF.out.run s' wr HT2.out HA2.out hsl)
    clear hr hsl
    generalize s'.rest.length=rl at *
    go_wp2_with fail
    rw [HF.out.ent,Oper.upon_enter]
    refine HRun.out.mono ?_
    rintro en w4 ⟨x,rfl,hpl,hok,hfr,ha4,ht4⟩
    have HA4:=hid ha4
    have HT4:=hid (HT2.out.trans ht4 (fun i hi=>.inl hi))
    have H4:=hid (H2.out.turn elNL ht4 (fun i hi=>by have:=HBL.out;unfold One at hi;omega))
    have HOk:=hid hok
    have HPl:=hid hpl
    have HFr:Hid (∀ i,NL.at_ x i→w.heap.size≤i∧slBlk A≠some i):=hid (fun i hi=>⟨Nat.le_trans HT2.out.size (hfr i hi),fun he=>by have:=(H2.out.own.blk_lt he).2;have:=hfr i hi;omega⟩)
    have HBt:Hid ((out.length+1) * 24≤140737488355328):=hid (by have:=HLn.out;omega)
    clear ha4 ht4 hok hpl hfr
    go_wp2_with (at_builtin;refine wp_append_l rfl (.tmp 18) (.tmp 21) rfl slNotes46 layNL w.heap.size (xs:=out) (ys:=[x]) rfl rfl (H4.out.own.alloc _) rfl rfl (RdL.one w4 x _ _ rfl _ rfl) (by have:=HBt.out;simp;omega) (by have:=HT4.out.size;simp;omega) ?_;intro A2 c2 w6 hown hg hb2 hat;have HP:=hid (H4.out.push elNL HOk.out HFr.out _ hown (by simpa only [own_blk] using hg) (by simpa only [own_blk] using hat));have HB6:=hid (((Below.refl w.heap.size w4).alloc HT4.out.size _).trans hb2);clear hown hg hb2 hat)
    go_roundw
    case rel =>
     refine ⟨(one s').2,out++[x],A2,c2,by simp,by simp;omega,HP.out,(HB6.out.block b HBL.out).trans HA4.out,HT4.out.more' HB6.out,?_,?_⟩
     ·rw [HX.out,List.length_append,List.length_singleton,List.map_append,List.map_singleton,HPl.out]
     ·have h1:=HEt.out;have h2:=HLn.out;simp only [List.length_append,List.length_singleton];omega
    case measure=>simp [slLen];omega
  ·have hom2:out.length=m:=by omega
   have HX:=hid (rdGo_end one _ _ _ _ _ HGo.out (.inl (by omega)))
   have d1:decide ((out.length:Int)<(m:Int))=false:=decide_eq_false (by omega)
   have HM:=hid hom2
   clear hom2
   go_wp2_with fail
   go_ret
   exact ⟨A,c,out,rfl,by rw [HD.out,HX.out],H2.out,by rw [HD.out,HX.out];exact HA2.out,HT2.out⟩
theorem slNote46:SlTy Tryz.prog 57 59 5 40:=by
 obtain ⟨i,hi,h0,h1,h2⟩:=info_parts (show (Tryz.prog.info? 59).map (fun i=>(i.zero,i.size,i.bytes))=some (some (.agg #[.int .i64 0,.int .i64 0,.int .i64 0,.int .i64 0,.bool false]),5,40) by kernel_rfl)
 exact ⟨Tryz.underlying57,⟨i,_,hi,h0,h1,h2,rfl⟩,by decide,by decide⟩
theorem reNote_any {B:Nat} (b:Nat) (s:RS) (f:FV) (one:RS→E5 × RS) (w:World) (hV:Vs B w) (hb:B≤b) (h:RdAt b s w) (hl:s.rest.length≤1000000000000) (hE:EatsN one) (hf:FunR b w f E5.v (fun x:E5=>x) (fun (_:World) (_:E5)=>True) (fun (_:E5) (_:Nat)=>False) one) :
  Calls Tryz.prog 44 #[.pointer (some ⟨b,0,none⟩),.func (.func f.n) f.bnd f.cap] w (RdOut b s 59 5 E5.cs (fun x:E5=>x) (fun (_:World) (_:E5)=>True) (fun (_:E5) (_:Nat)=>False) one w):=by
 have HBL:=hid h.lt
 have HG:=hid (rNum_ge 59 s)
 have HI:=hid (rNum_in 59 0 s)
 have HR:=hid (rNum_rest 59 0 s)
 have HD:Hid (rdLs one s=rdGo one (rNum 59 0 s).1.toNat (rNum 59 0 s).2 []):=hid rfl
 have HF:=hid hf
 have HE:=hid hE
 have HC:=hid (rdNum_any b s w hV hb h hl)
 have HL:=hid hl
 clear hf hE hV h hl
 go_enter Tryz.func44,Tryz.ntmps44
 go_wp2_with fail
 refine HC.out.mono ?_
 rintro en w1 ⟨rfl,ha,ht⟩
 have HA:=hid ha
 have HT:=hid ht
 have hG:=HG.out
 have hI:=HI.out.2
 have HL:=hid (Nat.le_trans HR.out HL.out)
 clear ha ht HC HG HI HR
 generalize rNum 59 0 s=r at *
 obtain ⟨n,q⟩:=r
 simp only at hG hI HL HA HD ⊢
 obtain ⟨m,rfl⟩:∃ m:Nat,n=m:=⟨n.toNat,by omega⟩
 rw [Int.toNat_natCast] at HD
 clear hG
 go_wp2_with fail
 go_loopw [5] (fun o wr=>∃ (s':RS) (out:List E5) (A:Option Addr) (c:Nat),o=.slice A out.length c∧out.length≤m∧RInv w.heap.size wr 59 5 E5.cs (fun (_:World) (_:E5)=>True) (fun (_:E5) (_:Nat)=>False) A c out∧RdAt b s' wr∧Turn (One b) w wr∧rdGo one m q []=rdGo one (m - out.length) s' (out.map (fun x:E5=>x))∧out.length+s'.rest.length≤q.rest.length) (fun o _=>m - slLen o)
 case atStart=>exact ⟨q,[],none,0,rfl,Nat.zero_le _,RInv.nil_,HA.out,HT.out,rfl,by simp⟩
 case round =>
  obtain ⟨s',out,A,c,rfl,hom,hinv,hrd,htu,hgo,hln⟩:=hrel
  have H2:=hid hinv
  have HA2:=hid hrd
  have HT2:=hid htu
  have HGo:=hid hgo
  have HLn:=hid hln
  have HQl:=HL.out
  clear hinv hrd htu hgo hln HA HT
  by_cases hlt:out.length<m
  ·have d1:decide ((out.length:Int)<(m:Int))=true:=decide_eq_true (by omega)
   go_wp2_with fail
   refine (left_any b s' wr HA2.out).mono ?_
   rintro en wq ⟨rfl,rfl⟩
   by_cases hr:s'.rest=[]
   ·have hr0:s'.rest.length=0:=by rw [hr];rfl
    have d2:decide (0<(s'.rest.length:Int))=false:=decide_eq_false (by omega)
    have HX:=hid (rdGo_end one _ _ _ _ _ HGo.out (.inr hr))
    clear hr
    rw [hr0]
    clear d2 hr0
    go_wp2_with fail
    go_ret
    exact ⟨A,c,out,rfl,by rw [HD.out,HX.out],H2.out,by rw [HD.out,HX.out];exact HA2.out,HT2.out⟩
   ·have hr0:0<s'.rest.length:=List.length_pos_iff.2 hr
    have d2:decide (0<(s'.rest.length:Int))=true:=decide_eq_true (by omega)
    have HEt:=hid (HE.out s' hr)
    have HX:=hid (rdGo_more one _ _ _ _ _ _ HGo.out hlt hr)
    have hsl:s'.rest.length≤1000000000000:=by have:=HLn.out;omega
    have HRun:=hid (HF.out.run s' wr HT2.out HA2.out hsl)
    clear hr hsl
    generalize s'.rest.length=rl at *
    go_wp2_with fail
    rw [HF.out.ent,Oper.upon_enter]
    refine HRun.out.mono ?_
    rintro en w4 ⟨x,rfl,hpl,hok,hfr,ha4,ht4⟩
    have HA4:=hid ha4
    have HT4:=hid (HT2.out.trans ht4 (fun i hi=>.inl hi))
    have H4:=hid (H2.out.turn elNo ht4 (fun i hi=>by have:=HBL.out;unfold One at hi;omega))
    have HOk:=hid hok
    have HPl:=hid hpl
    have HFr:Hid (∀ i,(fun (_:E5) (_:Nat)=>False) x i→w.heap.size≤i∧slBlk A≠some i):=hid (fun i hi=>⟨Nat.le_trans HT2.out.size (hfr i hi),fun he=>by have:=(H2.out.own.blk_lt he).2;have:=hfr i hi;omega⟩)
    have HBt:Hid ((out.length+1) * 40≤140737488355328):=hid (by have:=HLn.out;omega)
    clear ha4 ht4 hok hpl hfr
    go_wp2_with (at_builtin;refine wp_append_l rfl (.tmp 18) (.tmp 21) rfl slNote46 layE5 w.heap.size (xs:=out) (ys:=[x]) rfl rfl (H4.out.own.alloc _) rfl rfl (RdL.one w4 x _ _ rfl _ rfl) (by have:=HBt.out;simp;omega) (by have:=HT4.out.size;simp;omega) ?_;intro A2 c2 w6 hown hg hb2 hat;have HP:=hid (H4.out.push elNo HOk.out HFr.out _ hown (by simpa only [own_blk] using hg) (by simpa only [own_blk] using hat));have HB6:=hid (((Below.refl w.heap.size w4).alloc HT4.out.size _).trans hb2);clear hown hg hb2 hat)
    go_roundw
    case rel =>
     refine ⟨(one s').2,out++[x],A2,c2,by simp,by simp;omega,HP.out,(HB6.out.block b HBL.out).trans HA4.out,HT4.out.more' HB6.out,?_,?_⟩
     ·rw [HX.out,List.length_append,List.length_singleton,List.map_append,List.map_singleton,HPl.out]
     ·have h1:=HEt.out;have h2:=HLn.out;simp only [List.length_append,List.length_singleton];omega
    case measure=>simp [slLen];omega
  ·have hom2:out.length=m:=by omega
   have HX:=hid (rdGo_end one _ _ _ _ _ HGo.out (.inl (by omega)))
   have d1:decide ((out.length:Int)<(m:Int))=false:=decide_eq_false (by omega)
   have HM:=hid hom2
   clear hom2
   go_wp2_with fail
   go_ret
   exact ⟨A,c,out,rfl,by rw [HD.out,HX.out],H2.out,by rw [HD.out,HX.out];exact HA2.out,HT2.out⟩
theorem slVerdict46:SlTy Tryz.prog 29 99 3 24:=by
 obtain ⟨i,hi,h0,h1,h2⟩:=info_parts (show (Tryz.prog.info? 99).map (fun i=>(i.zero,i.size,i.bytes))=some (some (.agg #[.int .i64 0,.int .i64 0,.bool false]),3,24) by kernel_rfl)
 exact ⟨Tryz.underlying29,⟨i,_,hi,h0,h1,h2,rfl⟩,by decide,by decide⟩
theorem reVerdict_any {B:Nat} (b:Nat) (s:RS) (f:FV) (one:RS→E3 × RS) (w:World) (hV:Vs B w) (hb:B≤b) (h:RdAt b s w) (hl:s.rest.length≤1000000000000) (hE:EatsN one) (hf:FunR b w f E3.v (fun x:E3=>x) (fun (_:World) (_:E3)=>True) (fun (_:E3) (_:Nat)=>False) one) :
  Calls Tryz.prog 45 #[.pointer (some ⟨b,0,none⟩),.func (.func f.n) f.bnd f.cap] w (RdOut b s 99 3 E3.cs (fun x:E3=>x) (fun (_:World) (_:E3)=>True) (fun (_:E3) (_:Nat)=>False) one w):=by
 have HBL:=hid h.lt
 have HG:=hid (rNum_ge 59 s)
 have HI:=hid (rNum_in 59 0 s)
 have HR:=hid (rNum_rest 59 0 s)
 have HD:Hid (rdLs one s=rdGo one (rNum 59 0 s).1.toNat (rNum 59 0 s).2 []):=hid rfl
 have HF:=hid hf
 have HE:=hid hE
 have HC:=hid (rdNum_any b s w hV hb h hl)
 have HL:=hid hl
 clear hf hE hV h hl
 go_enter Tryz.func45,Tryz.ntmps45
 go_wp2_with fail
 refine HC.out.mono ?_
 rintro en w1 ⟨rfl,ha,ht⟩
 have HA:=hid ha
 have HT:=hid ht
 have hG:=HG.out
 have hI:=HI.out.2
 have HL:=hid (Nat.le_trans HR.out HL.out)
 clear ha ht HC HG HI HR
 generalize rNum 59 0 s=r at *
 obtain ⟨n,q⟩:=r
 simp only at hG hI HL HA HD ⊢
 obtain ⟨m,rfl⟩:∃ m:Nat,n=m:=⟨n.toNat,by omega⟩
 rw [Int.toNat_natCast] at HD
 clear hG
 go_wp2_with fail
 go_loopw [5] (fun o wr=>∃ (s':RS) (out:List E3) (A:Option Addr) (c:Nat),o=.slice A out.length c∧out.length≤m∧RInv w.heap.size wr 99 3 E3.cs (fun (_:World) (_:E3)=>True) (fun (_:E3) (_:Nat)=>False) A c out∧RdAt b s' wr∧Turn (One b) w wr∧rdGo one m q []=rdGo one (m - out.length) s' (out.map (fun x:E3=>x))∧out.length+s'.rest.length≤q.rest.length) (fun o _=>m - slLen o)
 case atStart=>exact ⟨q,[],none,0,rfl,Nat.zero_le _,RInv.nil_,HA.out,HT.out,rfl,by simp⟩
 case round =>
  obtain ⟨s',out,A,c,rfl,hom,hinv,hrd,htu,hgo,hln⟩:=hrel
  have H2:=hid hinv
  have HA2:=hid hrd
  have HT2:=hid htu
  have HGo:=hid hgo
  have HLn:=hid hln
  have HQl:=HL.out
  clear hinv hrd htu hgo hln HA HT
  by_cases hlt:out.length<m
  ·have d1:decide ((out.length:Int)<(m:Int))=true:=decide_eq_true (by omega)
   go_wp2_with fail
   refine (left_any b s' wr HA2.out).mono ?_
   rintro en wq ⟨rfl,rfl⟩
   by_cases hr:s'.rest=[]
   ·have hr0:s'.rest.length=0:=by rw [hr];rfl
    have d2:decide (0<(s'.rest.length:Int))=false:=decide_eq_false (by omega)
    have HX:=hid (rdGo_end one _ _ _ _ _ HGo.out (.inr hr))
    clear hr
    rw [hr0]
    clear d2 hr0
    go_wp2_with fail
    go_ret
    exact ⟨A,c,out,rfl,by rw [HD.out,HX.out],H2.out,by rw [HD.out,HX.out];exact HA2.out,HT2.out⟩
   ·have hr0:0<s'.rest.length:=List.length_pos_iff.2 hr
    have d2:decide (0<(s'.rest.length:Int))=true:=decide_eq_true (by omega)
    have HEt:=hid (HE.out s' hr)
    have HX:=hid (rdGo_more one _ _ _ _ _ _ HGo.out hlt hr)
    have hsl:s'.rest.length≤1000000000000:=by have:=HLn.out;omega
    have HRun:=hid (HF.out.run s' wr HT2.out HA2.out hsl)
    clear hr hsl
    generalize s'.rest.length=rl at *
    go_wp2_with fail
    rw [HF.out.ent,Oper.upon_enter]
    refine HRun.out.mono ?_
    rintro en w4 ⟨x,rfl,hpl,hok,hfr,ha4,ht4⟩
    have HA4:=hid ha4
    have HT4:=hid (HT2.out.trans ht4 (fun i hi=>.inl hi))
    have H4:=hid (H2.out.turn elNo ht4 (fun i hi=>by have:=HBL.out;unfold One at hi;omega))
    have HOk:=hid hok
    have HPl:=hid hpl
    have HFr:Hid (∀ i,(fun (_:E3) (_:Nat)=>False) x i→w.heap.size≤i∧slBlk A≠some i):=hid (fun i hi=>⟨Nat.le_trans HT2.out.size (hfr i hi),fun he=>by have:=(H2.out.own.blk_lt he).2;have:=hfr i hi;omega⟩)
    have HBt:Hid ((out.length+1) * 24≤140737488355328):=hid (by have:=HLn.out;omega)
    clear ha4 ht4 hok hpl hfr
    go_wp2_with (at_builtin;refine wp_append_l rfl (.tmp 18) (.tmp 21) rfl slVerdict46 layE3 w.heap.size (xs:=out) (ys:=[x]) rfl rfl (H4.out.own.alloc _) rfl rfl (RdL.one w4 x _ _ rfl _ rfl) (by have:=HBt.out;simp;omega) (by have:=HT4.out.size;simp;omega) ?_;intro A2 c2 w6 hown hg hb2 hat;have HP:=hid (H4.out.push elNo HOk.out HFr.out _ hown (by simpa only [own_blk] using hg) (by simpa only [own_blk] using hat));have HB6:=hid (((Below.refl w.heap.size w4).alloc HT4.out.size _).trans hb2);clear hown hg hb2 hat)
    go_roundw
    case rel =>
     refine ⟨(one s').2,out++[x],A2,c2,by simp,by simp;omega,HP.out,(HB6.out.block b HBL.out).trans HA4.out,HT4.out.more' HB6.out,?_,?_⟩
     ·rw [HX.out,List.length_append,List.length_singleton,List.map_append,List.map_singleton,HPl.out]
     ·have h1:=HEt.out;have h2:=HLn.out;simp only [List.length_append,List.length_singleton];omega
    case measure=>simp [slLen];omega
  ·have hom2:out.length=m:=by omega
   have HX:=hid (rdGo_end one _ _ _ _ _ HGo.out (.inl (by omega)))
   have d1:decide ((out.length:Int)<(m:Int))=false:=decide_eq_false (by omega)
   have HM:=hid hom2
   clear hom2
   go_wp2_with fail
   go_ret
   exact ⟨A,c,out,rfl,by rw [HD.out,HX.out],H2.out,by rw [HD.out,HX.out];exact HA2.out,HT2.out⟩
theorem slHold46:SlTy Tryz.prog 30 103 4 32:=by
 obtain ⟨i,hi,h0,h1,h2⟩:=info_parts (show (Tryz.prog.info? 103).map (fun i=>(i.zero,i.size,i.bytes))=some (some (.agg #[.int .i64 0,.int .i64 0,.int .i64 0,.int .i64 0]),4,32) by kernel_rfl)
 exact ⟨Tryz.underlying30,⟨i,_,hi,h0,h1,h2,rfl⟩,by decide,by decide⟩
theorem reHold_any {B:Nat} (b:Nat) (s:RS) (f:FV) (one:RS→D4 × RS) (w:World) (hV:Vs B w) (hb:B≤b) (h:RdAt b s w) (hl:s.rest.length≤1000000000000) (hE:EatsN one) (hf:FunR b w f D4.v (fun x:D4=>x) (fun (_:World) (_:D4)=>True) (fun (_:D4) (_:Nat)=>False) one) :
  Calls Tryz.prog 47 #[.pointer (some ⟨b,0,none⟩),.func (.func f.n) f.bnd f.cap] w (RdOut b s 103 4 D4.cs (fun x:D4=>x) (fun (_:World) (_:D4)=>True) (fun (_:D4) (_:Nat)=>False) one w):=by
 have HBL:=hid h.lt
 have HG:=hid (rNum_ge 59 s)
 have HI:=hid (rNum_in 59 0 s)
 have HR:=hid (rNum_rest 59 0 s)
 have HD:Hid (rdLs one s=rdGo one (rNum 59 0 s).1.toNat (rNum 59 0 s).2 []):=hid rfl
 have HF:=hid hf
 have HE:=hid hE
 have HC:=hid (rdNum_any b s w hV hb h hl)
 have HL:=hid hl
 clear hf hE hV h hl
 go_enter Tryz.func47,Tryz.ntmps47
 go_wp2_with fail
 refine HC.out.mono ?_
 rintro en w1 ⟨rfl,ha,ht⟩
 have HA:=hid ha
 have HT:=hid ht
 have hG:=HG.out
 have hI:=HI.out.2
 have HL:=hid (Nat.le_trans HR.out HL.out)
 clear ha ht HC HG HI HR
 generalize rNum 59 0 s=r at *
 obtain ⟨n,q⟩:=r
 simp only at hG hI HL HA HD ⊢
 obtain ⟨m,rfl⟩:∃ m:Nat,n=m:=⟨n.toNat,by omega⟩
 rw [Int.toNat_natCast] at HD
 clear hG
 go_wp2_with fail
 go_loopw [5] (fun o wr=>∃ (s':RS) (out:List D4) (A:Option Addr) (c:Nat),o=.slice A out.length c∧out.length≤m∧RInv w.heap.size wr 103 4 D4.cs (fun (_:World) (_:D4)=>True) (fun (_:D4) (_:Nat)=>False) A c out∧RdAt b s' wr∧Turn (One b) w wr∧rdGo one m q []=rdGo one (m - out.length) s' (out.map (fun x:D4=>x))∧out.length+s'.rest.length≤q.rest.length) (fun o _=>m - slLen o)
 case atStart=>exact ⟨q,[],none,0,rfl,Nat.zero_le _,RInv.nil_,HA.out,HT.out,rfl,by simp⟩
 case round =>
  obtain ⟨s',out,A,c,rfl,hom,hinv,hrd,htu,hgo,hln⟩:=hrel
  have H2:=hid hinv
  have HA2:=hid hrd
  have HT2:=hid htu
  have HGo:=hid hgo
  have HLn:=hid hln
  have HQl:=HL.out
  clear hinv hrd htu hgo hln HA HT
  by_cases hlt:out.length<m
  ·have d1:decide ((out.length:Int)<(m:Int))=true:=decide_eq_true (by omega)
   go_wp2_with fail
   refine (left_any b s' wr HA2.out).mono ?_
   rintro en wq ⟨rfl,rfl⟩
   by_cases hr:s'.rest=[]
   ·have hr0:s'.rest.length=0:=by rw [hr];rfl
    have d2:decide (0<(s'.rest.length:Int))=false:=decide_eq_false (by omega)
    have HX:=hid (rdGo_end one _ _ _ _ _ HGo.out (.inr hr))
    clear hr
    rw [hr0]
    clear d2 hr0
    go_wp2_with fail
    go_ret
    exact ⟨A,c,out,rfl,by rw [HD.out,HX.out],H2.out,by rw [HD.out,HX.out];exact HA2.out,HT2.out⟩
   ·have hr0:0<s'.rest.length:=List.length_pos_iff.2 hr
    have d2:decide (0<(s'.rest.length:Int))=true:=decide_eq_true (by omega)
    have HEt:=hid (HE.out s' hr)
    have HX:=hid (rdGo_more one _ _ _ _ _ _ HGo.out hlt hr)
    have hsl:s'.rest.length≤1000000000000:=by have:=HLn.out;omega
    have HRun:=hid (HF.out.run s' wr HT2.out HA2.out hsl)
    clear hr hsl
    generalize s'.rest.length=rl at *
    go_wp2_with fail
    rw [HF.out.ent,Oper.upon_enter]
    refine HRun.out.mono ?_
    rintro en w4 ⟨x,rfl,hpl,hok,hfr,ha4,ht4⟩
    have HA4:=hid ha4
    have HT4:=hid (HT2.out.trans ht4 (fun i hi=>.inl hi))
    have H4:=hid (H2.out.turn elNo ht4 (fun i hi=>by have:=HBL.out;unfold One at hi;omega))
    have HOk:=hid hok
    have HPl:=hid hpl
    have HFr:Hid (∀ i,(fun (_:D4) (_:Nat)=>False) x i→w.heap.size≤i∧slBlk A≠some i):=hid (fun i hi=>⟨Nat.le_trans HT2.out.size (hfr i hi),fun he=>by have:=(H2.out.own.blk_lt he).2;have:=hfr i hi;omega⟩)
    have HBt:Hid ((out.length+1) * 32≤140737488355328):=hid (by have:=HLn.out;omega)
    clear ha4 ht4 hok hpl hfr
    go_wp2_with (at_builtin;refine wp_append_l rfl (.tmp 18) (.tmp 21) rfl slHold46 layD4 w.heap.size (xs:=out) (ys:=[x]) rfl rfl (H4.out.own.alloc _) rfl rfl (RdL.one w4 x _ _ rfl _ rfl) (by have:=HBt.out;simp;omega) (by have:=HT4.out.size;simp;omega) ?_;intro A2 c2 w6 hown hg hb2 hat;have HP:=hid (H4.out.push elNo HOk.out HFr.out _ hown (by simpa only [own_blk] using hg) (by simpa only [own_blk] using hat));have HB6:=hid (((Below.refl w.heap.size w4).alloc HT4.out.size _).trans hb2);clear hown hg hb2 hat)
    go_roundw
    case rel =>
     refine ⟨(one s').2,out++[x],A2,c2,by simp,by simp;omega,HP.out,(HB6.out.block b HBL.out).trans HA4.out,HT4.out.more' HB6.out,?_,?_⟩
     ·rw [HX.out,List.length_append,List.length_singleton,List.map_append,List.map_singleton,HPl.out]
     ·have h1:=HEt.out;have h2:=HLn.out;simp only [List.length_append,List.length_singleton];omega
    case measure=>simp [slLen];omega
  ·have hom2:out.length=m:=by omega
   have HX:=hid (rdGo_end one _ _ _ _ _ HGo.out (.inl (by omega)))
   have d1:decide ((out.length:Int)<(m:Int))=false:=decide_eq_false (by omega)
   have HM:=hid hom2
   clear hom2
   go_wp2_with fail
   go_ret
   exact ⟨A,c,out,rfl,by rw [HD.out,HX.out],H2.out,by rw [HD.out,HX.out];exact HA2.out,HT2.out⟩
theorem slOrder46:SlTy Tryz.prog 31 50 4 32:=by
 obtain ⟨i,hi,h0,h1,h2⟩:=info_parts (show (Tryz.prog.info? 50).map (fun i=>(i.zero,i.size,i.bytes))=some (some (.agg #[.int .i64 0,.int .i64 0,.int .i64 0,.int .i64 0]),4,32) by kernel_rfl)
 exact ⟨Tryz.underlying31,⟨i,_,hi,h0,h1,h2,rfl⟩,by decide,by decide⟩
theorem reOrder_any {B:Nat} (b:Nat) (s:RS) (f:FV) (one:RS→D4 × RS) (w:World) (hV:Vs B w) (hb:B≤b) (h:RdAt b s w) (hl:s.rest.length≤1000000000000) (hE:EatsN one) (hf:FunR b w f D4.v (fun x:D4=>x) (fun (_:World) (_:D4)=>True) (fun (_:D4) (_:Nat)=>False) one) :
  Calls Tryz.prog 50 #[.pointer (some ⟨b,0,none⟩),.func (.func f.n) f.bnd f.cap] w (RdOut b s 50 4 D4.cs (fun x:D4=>x) (fun (_:World) (_:D4)=>True) (fun (_:D4) (_:Nat)=>False) one w):=by
 have HBL:=hid h.lt
 have HG:=hid (rNum_ge 59 s)
 have HI:=hid (rNum_in 59 0 s)
 have HR:=hid (rNum_rest 59 0 s)
 have HD:Hid (rdLs one s=rdGo one (rNum 59 0 s).1.toNat (rNum 59 0 s).2 []):=hid rfl
 have HF:=hid hf
 have HE:=hid hE
 have HC:=hid (rdNum_any b s w hV hb h hl)
 have HL:=hid hl
 clear hf hE hV h hl
 go_enter Tryz.func50,Tryz.ntmps50
 go_wp2_with fail
 refine HC.out.mono ?_
 rintro en w1 ⟨rfl,ha,ht⟩
 have HA:=hid ha
 have HT:=hid ht
 have hG:=HG.out
 have hI:=HI.out.2
 have HL:=hid (Nat.le_trans HR.out HL.out)
 clear ha ht HC HG HI HR
 generalize rNum 59 0 s=r at *
 obtain ⟨n,q⟩:=r
 simp only at hG hI HL HA HD ⊢
 obtain ⟨m,rfl⟩:∃ m:Nat,n=m:=⟨n.toNat,by omega⟩
 rw [Int.toNat_natCast] at HD
 clear hG
 go_wp2_with fail
 go_loopw [5] (fun o wr=>∃ (s':RS) (out:List D4) (A:Option Addr) (c:Nat),o=.slice A out.length c∧out.length≤m∧RInv w.heap.size wr 50 4 D4.cs (fun (_:World) (_:D4)=>True) (fun (_:D4) (_:Nat)=>False) A c out∧RdAt b s' wr∧Turn (One b) w wr∧rdGo one m q []=rdGo one (m - out.length) s' (out.map (fun x:D4=>x))∧out.length+s'.rest.length≤q.rest.length) (fun o _=>m - slLen o)
 case atStart=>exact ⟨q,[],none,0,rfl,Nat.zero_le _,RInv.nil_,HA.out,HT.out,rfl,by simp⟩
 case round =>
  obtain ⟨s',out,A,c,rfl,hom,hinv,hrd,htu,hgo,hln⟩:=hrel
  have H2:=hid hinv
  have HA2:=hid hrd
  have HT2:=hid htu
  have HGo:=hid hgo
  have HLn:=hid hln
  have HQl:=HL.out
  clear hinv hrd htu hgo hln HA HT
  by_cases hlt:out.length<m
  ·have d1:decide ((out.length:Int)<(m:Int))=true:=decide_eq_true (by omega)
   go_wp2_with fail
   refine (left_any b s' wr HA2.out).mono ?_
   rintro en wq ⟨rfl,rfl⟩
   by_cases hr:s'.rest=[]
   ·have hr0:s'.rest.length=0:=by rw [hr];rfl
    have d2:decide (0<(s'.rest.length:Int))=false:=decide_eq_false (by omega)
    have HX:=hid (rdGo_end one _ _ _ _ _ HGo.out (.inr hr))
    clear hr
    rw [hr0]
    clear d2 hr0
    go_wp2_with fail
    go_ret
    exact ⟨A,c,out,rfl,by rw [HD.out,HX.out],H2.out,by rw [HD.out,HX.out];exact HA2.out,HT2.out⟩
   ·have hr0:0<s'.rest.length:=List.length_pos_iff.2 hr
    have d2:decide (0<(s'.rest.length:Int))=true:=decide_eq_true (by omega)
    have HEt:=hid (HE.out s' hr)
    have HX:=hid (rdGo_more one _ _ _ _ _ _ HGo.out hlt hr)
    have hsl:s'.rest.length≤1000000000000:=by have:=HLn.out;omega
    have HRun:=hid (HF.out.run s' wr HT2.out HA2.out hsl)
    clear hr hsl
    generalize s'.rest.length=rl at *
    go_wp2_with fail
    rw [HF.out.ent,Oper.upon_enter]
    refine HRun.out.mono ?_
    rintro en w4 ⟨x,rfl,hpl,hok,hfr,ha4,ht4⟩
    have HA4:=hid ha4
    have HT4:=hid (HT2.out.trans ht4 (fun i hi=>.inl hi))
    have H4:=hid (H2.out.turn elNo ht4 (fun i hi=>by have:=HBL.out;unfold One at hi;omega))
    have HOk:=hid hok
    have HPl:=hid hpl
    have HFr:Hid (∀ i,(fun (_:D4) (_:Nat)=>False) x i→w.heap.size≤i∧slBlk A≠some i):=hid (fun i hi=>⟨Nat.le_trans HT2.out.size (hfr i hi),fun he=>by have:=(H2.out.own.blk_lt he).2;have:=hfr i hi;omega⟩)
    have HBt:Hid ((out.length+1) * 32≤140737488355328):=hid (by have:=HLn.out;omega)
    clear ha4 ht4 hok hpl hfr
    go_wp2_with (at_builtin;refine wp_append_l rfl (.tmp 18) (.tmp 21) rfl slOrder46 layD4 w.heap.size (xs:=out) (ys:=[x]) rfl rfl (H4.out.own.alloc _) rfl rfl (RdL.one w4 x _ _ rfl _ rfl) (by have:=HBt.out;simp;omega) (by have:=HT4.out.size;simp;omega) ?_;intro A2 c2 w6 hown hg hb2 hat;have HP:=hid (H4.out.push elNo HOk.out HFr.out _ hown (by simpa only [own_blk] using hg) (by simpa only [own_blk] using hat));have HB6:=hid (((Below.refl w.heap.size w4).alloc HT4.out.size _).trans hb2);clear hown hg hb2 hat)
    go_roundw
    case rel =>
     refine ⟨(one s').2,out++[x],A2,c2,by simp,by simp;omega,HP.out,(HB6.out.block b HBL.out).trans HA4.out,HT4.out.more' HB6.out,?_,?_⟩
     ·rw [HX.out,List.length_append,List.length_singleton,List.map_append,List.map_singleton,HPl.out]
     ·have h1:=HEt.out;have h2:=HLn.out;simp only [List.length_append,List.length_singleton];omega
    case measure=>simp [slLen];omega
  ·have hom2:out.length=m:=by omega
   have HX:=hid (rdGo_end one _ _ _ _ _ HGo.out (.inl (by omega)))
   have d1:decide ((out.length:Int)<(m:Int))=false:=decide_eq_false (by omega)
   have HM:=hid hom2
   clear hom2
   go_wp2_with fail
   go_ret
   exact ⟨A,c,out,rfl,by rw [HD.out,HX.out],H2.out,by rw [HD.out,HX.out];exact HA2.out,HT2.out⟩
theorem slSealed46:SlTy Tryz.prog 32 52 3 24:=by
 obtain ⟨i,hi,h0,h1,h2⟩:=info_parts (show (Tryz.prog.info? 52).map (fun i=>(i.zero,i.size,i.bytes))=some (some (.agg #[.int .i64 0,.int .i64 0,.int .i64 0]),3,24) by kernel_rfl)
 exact ⟨Tryz.underlying32,⟨i,_,hi,h0,h1,h2,rfl⟩,by decide,by decide⟩
theorem reSealed_any {B:Nat} (b:Nat) (s:RS) (f:FV) (one:RS→D3 × RS) (w:World) (hV:Vs B w) (hb:B≤b) (h:RdAt b s w) (hl:s.rest.length≤1000000000000) (hE:EatsN one) (hf:FunR b w f D3.v (fun x:D3=>x) (fun (_:World) (_:D3)=>True) (fun (_:D3) (_:Nat)=>False) one) :
  Calls Tryz.prog 52 #[.pointer (some ⟨b,0,none⟩),.func (.func f.n) f.bnd f.cap] w (RdOut b s 52 3 D3.cs (fun x:D3=>x) (fun (_:World) (_:D3)=>True) (fun (_:D3) (_:Nat)=>False) one w):=by
 have HBL:=hid h.lt
 have HG:=hid (rNum_ge 59 s)
 have HI:=hid (rNum_in 59 0 s)
 have HR:=hid (rNum_rest 59 0 s)
 have HD:Hid (rdLs one s=rdGo one (rNum 59 0 s).1.toNat (rNum 59 0 s).2 []):=hid rfl
 have HF:=hid hf
 have HE:=hid hE
 have HC:=hid (rdNum_any b s w hV hb h hl)
 have HL:=hid hl
 clear hf hE hV h hl
 go_enter Tryz.func52,Tryz.ntmps52
 go_wp2_with fail
 refine HC.out.mono ?_
 rintro en w1 ⟨rfl,ha,ht⟩
 have HA:=hid ha
 have HT:=hid ht
 have hG:=HG.out
 have hI:=HI.out.2
 have HL:=hid (Nat.le_trans HR.out HL.out)
 clear ha ht HC HG HI HR
 generalize rNum 59 0 s=r at *
 obtain ⟨n,q⟩:=r
 simp only at hG hI HL HA HD ⊢
 obtain ⟨m,rfl⟩:∃ m:Nat,n=m:=⟨n.toNat,by omega⟩
 rw [Int.toNat_natCast] at HD
 clear hG
 go_wp2_with fail
 go_loopw [5] (fun o wr=>∃ (s':RS) (out:List D3) (A:Option Addr) (c:Nat),o=.slice A out.length c∧out.length≤m∧RInv w.heap.size wr 52 3 D3.cs (fun (_:World) (_:D3)=>True) (fun (_:D3) (_:Nat)=>False) A c out∧RdAt b s' wr∧Turn (One b) w wr∧rdGo one m q []=rdGo one (m - out.length) s' (out.map (fun x:D3=>x))∧out.length+s'.rest.length≤q.rest.length) (fun o _=>m - slLen o)
 case atStart=>exact ⟨q,[],none,0,rfl,Nat.zero_le _,RInv.nil_,HA.out,HT.out,rfl,by simp⟩
 case round =>
  obtain ⟨s',out,A,c,rfl,hom,hinv,hrd,htu,hgo,hln⟩:=hrel
  have H2:=hid hinv
  have HA2:=hid hrd
  have HT2:=hid htu
  have HGo:=hid hgo
  have HLn:=hid hln
  have HQl:=HL.out
  clear hinv hrd htu hgo hln HA HT
  by_cases hlt:out.length<m
  ·have d1:decide ((out.length:Int)<(m:Int))=true:=decide_eq_true (by omega)
   go_wp2_with fail
   refine (left_any b s' wr HA2.out).mono ?_
   rintro en wq ⟨rfl,rfl⟩
   by_cases hr:s'.rest=[]
   ·have hr0:s'.rest.length=0:=by rw [hr];rfl
    have d2:decide (0<(s'.rest.length:Int))=false:=decide_eq_false (by omega)
    have HX:=hid (rdGo_end one _ _ _ _ _ HGo.out (.inr hr))
    clear hr
    rw [hr0]
    clear d2 hr0
    go_wp2_with fail
    go_ret
    exact ⟨A,c,out,rfl,by rw [HD.out,HX.out],H2.out,by rw [HD.out,HX.out];exact HA2.out,HT2.out⟩
   ·have hr0:0<s'.rest.length:=List.length_pos_iff.2 hr
    have d2:decide (0<(s'.rest.length:Int))=true:=decide_eq_true (by omega)
    have HEt:=hid (HE.out s' hr)
    have HX:=hid (rdGo_more one _ _ _ _ _ _ HGo.out hlt hr)
    have hsl:s'.rest.length≤1000000000000:=by have:=HLn.out;omega
    have HRun:=hid (HF.out.run s' wr HT2.out HA2.out hsl)
    clear hr hsl
    generalize s'.rest.length=rl at *
    go_wp2_with fail
    rw [HF.out.ent,Oper.upon_enter]
    refine HRun.out.mono ?_
    rintro en w4 ⟨x,rfl,hpl,hok,hfr,ha4,ht4⟩
    have HA4:=hid ha4
    have HT4:=hid (HT2.out.trans ht4 (fun i hi=>.inl hi))
    have H4:=hid (H2.out.turn elNo ht4 (fun i hi=>by have:=HBL.out;unfold One at hi;omega))
    have HOk:=hid hok
    have HPl:=hid hpl
    have HFr:Hid (∀ i,(fun (_:D3) (_:Nat)=>False) x i→w.heap.size≤i∧slBlk A≠some i):=hid (fun i hi=>⟨Nat.le_trans HT2.out.size (hfr i hi),fun he=>by have:=(H2.out.own.blk_lt he).2;have:=hfr i hi;omega⟩)
    have HBt:Hid ((out.length+1) * 24≤140737488355328):=hid (by have:=HLn.out;omega)
    clear ha4 ht4 hok hpl hfr
    go_wp2_with (at_builtin;refine wp_append_l rfl (.tmp 18) (.tmp 21) rfl slSealed46 layD3 w.heap.size (xs:=out) (ys:=[x]) rfl rfl (H4.out.own.alloc _) rfl rfl (RdL.one w4 x _ _ rfl _ rfl) (by have:=HBt.out;simp;omega) (by have:=HT4.out.size;simp;omega) ?_;intro A2 c2 w6 hown hg hb2 hat;have HP:=hid (H4.out.push elNo HOk.out HFr.out _ hown (by simpa only [own_blk] using hg) (by simpa only [own_blk] using hat));have HB6:=hid (((Below.refl w.heap.size w4).alloc HT4.out.size _).trans hb2);clear hown hg hb2 hat)
    go_roundw
    case rel =>
     refine ⟨(one s').2,out++[x],A2,c2,by simp,by simp;omega,HP.out,(HB6.out.block b HBL.out).trans HA4.out,HT4.out.more' HB6.out,?_,?_⟩
     ·rw [HX.out,List.length_append,List.length_singleton,List.map_append,List.map_singleton,HPl.out]
     ·have h1:=HEt.out;have h2:=HLn.out;simp only [List.length_append,List.length_singleton];omega
    case measure=>simp [slLen];omega
  ·have hom2:out.length=m:=by omega
   have HX:=hid (rdGo_end one _ _ _ _ _ HGo.out (.inl (by omega)))
   have d1:decide ((out.length:Int)<(m:Int))=false:=decide_eq_false (by omega)
   have HM:=hid hom2
   clear hom2
   go_wp2_with fail
   go_ret
   exact ⟨A,c,out,rfl,by rw [HD.out,HX.out],H2.out,by rw [HD.out,HX.out];exact HA2.out,HT2.out⟩
end Go.Proofs.YthlpehhlhebhbaaGreatDoor
