/- Contracts and plain laws, joined: StCk, StSm. -/
import Derived.Test.YthlpehhlhebhbaaGreatDoorQbl
import Derived.Test.YthlpehhlhebhbaaGreatDoorQae
import Derived.Test.YthlpehhlhebhbaaGreatDoorQbj
import Derived.Test.YthlpehhlhebhbaaGreatDoorQan
import Derived.Deep.CutBlock
import Derived.Deep.DeepCutAuto
/- What stores into a copy's lists leave (layer 46,StateCopies). -/
set_option linter.unusedSimpArgs false
set_option linter.unusedVariables false
namespace Go.Proofs.YthlpehhlhebhbaaGreatDoor
set_option maxHeartbeats 8000000
open Lib (hid)
open Go.RowKit
set_option maxRecDepth 100000
def LikeV (v u:Value):Prop:=u=v∨(∃ n m,v=.int .i64 n∧u=.int .i64 m)∨(∃ x y,v=.string x∧u=.string y)
theorem LikeV.trans {a b c:Value} (h:LikeV a b) (k:LikeV b c):LikeV a c:=by
 rcases h with rfl | ⟨n,m,rfl,rfl⟩ | ⟨x,y,rfl,rfl⟩
 ·exact k
 ·rcases k with rfl | ⟨n',m',_,rfl⟩ | ⟨x,y,e,_⟩
  ·exact .inr (.inl ⟨n,m,rfl,rfl⟩)
  ·exact .inr (.inl ⟨n,m',rfl,rfl⟩)
  ·cases e
 ·rcases k with rfl | ⟨n',m',e,_⟩ | ⟨x',y',_,rfl⟩
  ·exact .inr (.inr ⟨x,y,rfl,rfl⟩)
  ·cases e
  ·exact .inr (.inr ⟨x,y',rfl,rfl⟩)
structure KeepK (lo hi:Nat) (w w':World):Prop where
 turn:Turn (fun i=>lo≤i∧i<hi) w w'
 cell:∀ b o v,w.cell? ⟨b,o,none⟩=some v→∃ u,w'.cell? ⟨b,o,none⟩=some u∧LikeV v u
 froz:∀ b o,b<w.heap.size→w'.frozen? ⟨b,o,none⟩=w.frozen? ⟨b,o,none⟩
theorem cell_lt {w:World} {b o:Nat} {v:Value} (h:w.cell? ⟨b,o,none⟩=some v):b<w.heap.size:=by
 rcases Nat.lt_or_ge b w.heap.size with h1 | h1
 ·exact h1
 ·unfold World.cell? at h
  simp [Array.getElem?_eq_none h1] at h
theorem KeepK.below {lo hi:Nat} {w w':World} (h:Below w.heap.size w w'):KeepK lo hi w w' :=
 ⟨Turn.below h,fun b o v hv=>⟨v,(h.cell (p:=⟨b,o,none⟩) (cell_lt hv)).trans hv,.inl rfl⟩,fun b o hb=>h.frozen (p:=⟨b,o,none⟩) hb⟩
theorem KeepK.set {lo hi:Nat} {w w':World} (h:KeepK lo hi w w') {b o:Nat} {v u:Value} (hb:lo≤b∧b<hi) (hc:w'.cell? ⟨b,o,none⟩=some v) (hl:LikeV v u):KeepK lo hi w (w'.setCell ⟨b,o,none⟩ u):=by
 refine ⟨h.turn.set b o u (.inl hb),fun b' o' v' hv=>?_,fun b' o' hb'=>?_⟩
 ·obtain ⟨u',h1,h2⟩:=h.cell b' o' v' hv
  by_cases e:(⟨b,o,none⟩:Addr)=⟨b',o',none⟩
  ·injection e with e1 e2
   subst e1 e2
   rw [hc] at h1
   obtain rfl:=Option.some.inj h1
   exact ⟨u,World.cell?_setCell_same _ _ _ hc,h2.trans hl⟩
  ·exact ⟨u',(World.cell?_setCell_other _ _ _ _ e).trans h1,h2⟩
 ·rw [World.frozen?_setCell]
  exact h.froz b' o' hb'
theorem KeepK.int {lo hi:Nat} {w w':World} (h:KeepK lo hi w w') {b o:Nat} {n:Int} (hc:w.cell? ⟨b,o,none⟩=some (.int .i64 n)):∃ m,w'.cell? ⟨b,o,none⟩=some (.int .i64 m):=by
 obtain ⟨u,h1,h2⟩:=h.cell b o _ hc
 rcases h2 with rfl | ⟨_,m,_,rfl⟩ | ⟨x,y,e,_⟩
 ·exact ⟨n,h1⟩
 ·exact ⟨m,h1⟩
 ·cases e
theorem KeepK.slice {lo hi:Nat} {w w':World} (h:KeepK lo hi w w') {b o:Nat} {A:Option Addr} {n c:Nat} (hc:w.cell? ⟨b,o,none⟩=some (.slice A n c)):w'.cell? ⟨b,o,none⟩=some (.slice A n c):=by
 obtain ⟨u,h1,h2⟩:=h.cell b o _ hc
 rcases h2 with rfl | ⟨_,m,e,_⟩ | ⟨x,y,e,_⟩
 ·exact h1
 ·cases e
 ·cases e
theorem KeepK.ints {lo hi:Nat} {w w':World} {A:Option Addr} {l:List Int} (h:KeepK lo hi w w') (hr:RdI w w.heap.size A l):∃ l':List Int,l'.length=l.length∧RdI w' w'.heap.size A l':=by
 have key:∀ k (hk:k<l.length),∃ m:Int,∃ b off,A=some ⟨b,off,none⟩∧b<w.heap.size∧w'.cell? ⟨b,off+k,none⟩=some (.int .i64 m):=fun k hk=>by
  obtain ⟨b,off,e,hb,hc⟩:=RdI_at hr hk
  obtain ⟨m,hm⟩:=h.int hc
  exact ⟨m,b,off,e,hb,hm⟩
 let f:Nat→Int:=fun k=>if hk:k<l.length then (key k hk).choose else 0
 refine ⟨(List.range l.length).map f,by simp,fun k x hx=>?_⟩
 have hk:k<l.length:=by
  have:=(List.getElem?_eq_some_iff.1 hx).1
  simpa using this
 obtain ⟨b,off,e,hb,hc⟩:=(key k hk).choose_spec
 refine ⟨b,off,e,Nat.lt_of_lt_of_le hb h.turn.size,fun j v hj=>?_⟩
 have hxv:x=(key k hk).choose:=by
  rw [List.getElem?_map,List.getElem?_range hk] at hx
  have:=Option.some.inj hx
  rw [← this]
  simp only [f,dif_pos hk]
 cases j with
 | zero =>
  have hv:Value.int .i64 x=v:=Option.some.inj hj
  rw [← hv,hxv,Nat.mul_one,Nat.add_zero]
  exact hc
 | succ j=>simp [intC] at hj
structure CsI (lo hi g:Nat) (ts:List (List UInt8)) (w3 w6:World) (i:Nat) (w:World):Prop where
 k:KeepK lo hi w3 w
 t:Turn (fun i=>lo≤i∧i<hi) w6 w
 x:∀ j (h:j<ts.length),w.cell? ⟨g,j * 12+9,none⟩=some (.string (bs (if j<i then ts[j]++[120] else ts[j])))
theorem CsI.drew {lo hi g:Nat} {ts:List (List UInt8)} {w3 w6 w:World} {i:Nat} (h:CsI lo hi g ts w3 w6 i w):CsI lo hi g ts w3 w6 i w.drew :=
 ⟨⟨h.k.turn.drew,fun b o v hv=>h.k.cell b o v hv,fun b o hb=>h.k.froz b o hb⟩,h.t.drew,fun j hj=>h.x j hj⟩
theorem CsI.setInt {lo hi g:Nat} {ts:List (List UInt8)} {w3 w6 w:World} {i:Nat} (h:CsI lo hi g ts w3 w6 i w) {b o:Nat} {n m:Int} (hb:lo≤b∧b<hi) (hc:w.cell? ⟨b,o,none⟩=some (.int .i64 n)):CsI lo hi g ts w3 w6 i (w.setCell ⟨b,o,none⟩ (.int .i64 m)):=by
 refine ⟨h.k.set hb hc (.inr (.inl ⟨n,m,rfl,rfl⟩)),h.t.set b o _ (.inl hb),fun j hj=>?_⟩
 have h1:=h.x j hj
 refine (World.cell?_setCell_other _ _ _ _ (fun e=>?_)).trans h1
 rw [e] at hc
 rw [hc] at h1
 cases Option.some.inj h1
theorem CsI.setTxt {lo hi g:Nat} {ts:List (List UInt8)} {w3 w6 w:World} {i:Nat} (h:CsI lo hi g ts w3 w6 i w) (hi':i<ts.length) (hb:lo≤g∧g<hi):CsI lo hi g ts w3 w6 (i+1) (w.setCell ⟨g,i * 12+9,none⟩ (.string (bs (ts[i]++[120])))):=by
 have hc:=h.x i hi'
 rw [if_neg (Nat.lt_irrefl i)] at hc
 refine ⟨h.k.set hb hc (.inr (.inr ⟨_,_,rfl,rfl⟩)),h.t.set g _ _ (.inl hb),fun j hj=>?_⟩
 by_cases e:j=i
 ·subst e
  rw [if_pos (by omega)]
  exact World.cell?_setCell_same _ _ _ hc
 ·have h1:=h.x j hj
  have e2:(if j<i+1 then ts[j]++[120] else ts[j])=(if j<i then ts[j]++[120] else ts[j]):=by
   by_cases h3:j<i
   ·rw [if_pos (by omega),if_pos h3]
   ·rw [if_neg (by omega),if_neg h3]
  rw [e2]
  refine (World.cell?_setCell_other _ _ _ _ (fun q=>?_)).trans h1
  injection q with _ q2
  omega
theorem CsI.event {lo hi g:Nat} {ts:List (List UInt8)} {w3 w6 w:World} {i:Nat} (h:CsI lo hi g ts w3 w6 i w) {xs:List EvL} {B ec:Nat} (ho:OwnL w3 B 56 12 EvL.cs (some ⟨g,0,none⟩) ec xs) {j:Nat} (hj:j<xs.length) (hj2:j<ts.length) (hk:EvLOk w3 w3.heap.size xs[j]) (hts:ts[j].length+1≤9223372036854775807) :
  ∃ y:EvL,w.rangeAt g (j * 12) y.cs∧EvLOk w w.heap.size y∧y.ev.text=bs (if j<i then ts[j]++[120] else ts[j]):=by
 have c:=fun o v (hv:(EvL.cs xs[j])[o]?=some v)=>ho.cellc layEvL j o hj v hv
 obtain ⟨m0,h0⟩:=h.k.int (c 0 _ rfl)
 obtain ⟨m1,h1⟩:=h.k.int (c 1 _ rfl)
 have h2:=h.k.slice (c 2 _ rfl)
 obtain ⟨m3,h3⟩:=h.k.int (c 3 _ rfl)
 obtain ⟨m4,h4⟩:=h.k.int (c 4 _ rfl)
 obtain ⟨m5,h5⟩:=h.k.int (c 5 _ rfl)
 obtain ⟨m6,h6⟩:=h.k.int (c 6 _ rfl)
 obtain ⟨m7,h7⟩:=h.k.int (c 7 _ rfl)
 obtain ⟨m8,h8⟩:=h.k.int (c 8 _ rfl)
 have h9:=h.x j hj2
 have h10:=h.k.slice (c 10 _ rfl)
 obtain ⟨m11,h11⟩:=h.k.int (c 11 _ rfl)
 obtain ⟨cl,e1,r1⟩:=h.k.ints hk.ok.ca
 obtain ⟨fl,e2,r2⟩:=h.k.ints hk.ok.fi
 rw [← e1] at h2
 rw [← e2] at h10
 refine ⟨⟨⟨m0,m1,cl,m3,m4,m5,m6,m7,m8,bs (if j<i then ts[j]++[120] else ts[j]),fl,m11⟩,xs[j].cA,xs[j].cc,xs[j].fA,xs[j].fc⟩,?_,⟨⟨r1,r2,by show cl.length≤_;rw [e1];exact hk.ok.cl,by show fl.length≤_;rw [e2];exact hk.ok.fl,?_⟩,by show fl.length≤_;rw [e2];exact hk.cap⟩,rfl⟩
 ·intro o v hv
  match o,hv with
  | 0,hv=>obtain rfl:=Option.some.inj hv;exact h0
  | 1,hv=>obtain rfl:=Option.some.inj hv;exact h1
  | 2,hv=>obtain rfl:=Option.some.inj hv;exact h2
  | 3,hv=>obtain rfl:=Option.some.inj hv;exact h3
  | 4,hv=>obtain rfl:=Option.some.inj hv;exact h4
  | 5,hv=>obtain rfl:=Option.some.inj hv;exact h5
  | 6,hv=>obtain rfl:=Option.some.inj hv;exact h6
  | 7,hv=>obtain rfl:=Option.some.inj hv;exact h7
  | 8,hv=>obtain rfl:=Option.some.inj hv;exact h8
  | 9,hv=>obtain rfl:=Option.some.inj hv;exact h9
  | 10,hv=>obtain rfl:=Option.some.inj hv;exact h10
  | 11,hv=>obtain rfl:=Option.some.inj hv;exact h11
  | o+12,hv=>simp [EvL.cs,EvM.cs] at hv
 ·show (bs _).size≤_
  rw [bs_size]
  split
  ·rw [List.length_append];simp;omega
  ·omega
/- Contracts of lingualaw46's example and small (written by gensm.py). -/
def exS:Stt:=⟨7,[],[],[],[],[],[],[],[⟨9,5,true⟩],[⟨2,0,3,-1⟩],[],[],[]⟩
def exA (n:Nat):StAd:=⟨(none,0),(none,0),(none,0),(none,0),(none,0),(none,0),(none,0),(some ⟨n+1,0,none⟩,1),(some ⟨n+1+1,0,none⟩,1),(none,0),(none,0),(none,0)⟩
theorem exOk {n:Nat} (w:World) (h1:RdL 3 E3.cs w w.heap.size (some ⟨n+1,0,none⟩) [⟨9,5,true⟩]) (h2:RdL 4 D4.cs w w.heap.size (some ⟨n+1+1,0,none⟩) [⟨2,0,3,-1⟩]):StOk w w.heap.size exS (exA n):=by
 refine ⟨RdL.nil_,RdL.nil_,RdL.nil_,RdL.nil_,RdL.nil_,RdL.nil_,RdL.nil_,h1,h2,RdL.nil_,RdL.nil_,RdL.nil_,fun x hx=>(nomatch hx),fun x hx=>(nomatch hx),?_,?_,?_,?_,?_,?_,?_,?_,?_,?_,?_,?_,?_,?_,?_,?_,?_,?_,?_,?_,?_,?_,?_,?_⟩ <;> simp [exS,exA]
theorem example_any (w:World):Calls Tryz.prog 23 #[] w fun e w'=>∃ n,e=.returned (exS.v (exA n))∧StOk w' w'.heap.size exS (exA n)∧Below w.heap.size w w':=by
 have hb0:Below w.heap.size w (w.alloc (.cells ((sttZ 0).arr adZ) 34)):=by repeat (first | with_reducible exact Below.refl _ _ | with_reducible assumption | with_reducible refine Below.drew ?_ | with_reducible refine Below.alloc ?_ (by first | omega | (simp;done) | (simp;omega)) _)
 have HO:Hid ((w.alloc (.cells ((sttZ 0).arr adZ) 34)).heap[w.heap.size]?=some (.cells ((sttZ 0).arr adZ) 34 (0,0))):=hid (MapKept.heap_alloc w _).1
 have hsz:(w.alloc (.cells ((sttZ 0).arr adZ) 34)).heap.size=w.heap.size+1:=by simp
 have HB0:=hid hb0
 have HSz:=hid hsz
 clear hb0 hsz
 go_enter Tryz.func23,Tryz.ntmps23
 go_upto_region 1 with fail
 change Code.wp _ _ _ _ (w.alloc (.cells ((sttZ 0).arr adZ) 34))
 generalize w.alloc (.cells ((sttZ 0).arr adZ) 34)=w0 at *
 obtain ⟨b0,hb0⟩:∃ x,x=w.heap.size:=⟨_,rfl⟩
 rw [← hb0] at HO ⊢
 have Hb0:=hid hb0
 clear hb0
 have h1:=RdL.blockW layE3 w0 [⟨9,5,true⟩] #[.int .i64 9,.int .i64 5,.bool true] 99 rfl w0.heap.size rfl
 have hw1:Below w0.heap.size w0 (w0.alloc (.cells #[.int .i64 9,.int .i64 5,.bool true] 99)):=by repeat (first | with_reducible exact Below.refl _ _ | with_reducible assumption | with_reducible refine Below.drew ?_ | with_reducible refine Below.alloc ?_ (by first | omega | (simp;done) | (simp;omega)) _)
 have h2:=RdL.blockW layD4 (w0.alloc (.cells #[.int .i64 9,.int .i64 5,.bool true] 99)) [⟨2,0,3,-1⟩] #[.int .i64 2,.int .i64 0,.int .i64 3,.int .i64 (-1)] 103 rfl (w0.heap.size+1) (by simp)
 have hw2:Below (w0.alloc (.cells #[.int .i64 9,.int .i64 5,.bool true] 99)).heap.size (w0.alloc (.cells #[.int .i64 9,.int .i64 5,.bool true] 99)) ((w0.alloc (.cells #[.int .i64 9,.int .i64 5,.bool true] 99)).alloc (.cells #[.int .i64 2,.int .i64 0,.int .i64 3,.int .i64 (-1)] 103)):=by repeat (first | with_reducible exact Below.refl _ _ | with_reducible assumption | with_reducible refine Below.drew ?_ | with_reducible refine Below.alloc ?_ (by first | omega | (simp;done) | (simp;omega)) _)
 have h1':=h1.now hw2
 have HB2:Hid (Below w0.heap.size w0 ((w0.alloc (.cells #[.int .i64 9,.int .i64 5,.bool true] 99)).alloc (.cells #[.int .i64 2,.int .i64 0,.int .i64 3,.int .i64 (-1)] 103))):=hid (hw1.trans (hw2.mono hw1.size))
 have HR1:=hid h1'
 have HR2:=hid h2
 have HTh:Hid (World.there ((w0.alloc (.cells #[.int .i64 9,.int .i64 5,.bool true] 99)).alloc (.cells #[.int .i64 2,.int .i64 0,.int .i64 3,.int .i64 (-1)] 103)) b0 0 13):=hid (there_of_box ((HB2.out.block b0 (by have:=HSz.out;have:=Hb0.out;omega)).trans HO.out))
 have HNn:Hid (w0.heap.size=b0+1):=hid (by have:=HSz.out;have:=Hb0.out;omega)
 clear h1 h1' h2 hw1 hw2
 go_wp2_with (first
  | ((with_reducible show wpList _ _ _ (Oper.mk _ (Op.store 34 (.tmp 0) _) _ _ _ _::_) _ _);refine wpList_store_box rfl 34 _ _ rfl b0 (exS.arr ⟨(none,0),(none,0),(none,0),(none,0),(none,0),(none,0),(none,0),(some ⟨w0.heap.size,0,none⟩,1),(some ⟨w0.heap.size+1,0,none⟩,1),(none,0),(none,0),(none,0)⟩) rfl rfl HTh.out (by kernel_rfl) (by simp [Value.oneCell']) ?_;intro wS hrS htS hgS;have HRS:=hid hrS;have HGS:=hid hgS;clear hrS htS hgS)
  | fail)
 refine ret_box 0 34 rfl b0 _ _ rfl HRS.out Tryz.underlying34 rfl (by kernel_rfl) rfl ?_
 have hB:=(HB0.out.trans (HB2.out.mono HB0.out.size)).grown HGS.out (by have:=HB0.out.size;have:=HB2.out.size;omega) (fun k hk=>by injection hk with hk;have:=Hb0.out;omega)
 have hT:Turn (One b0) _ wS:=Turn.grown HGS.out (fun k hk=>(Option.some.inj hk).symm)
 refine ⟨b0,by rw [HNn.out];rfl,exOk (n:=b0) wS ?_ ?_,hB⟩
 ·have h:=HR1.out
  rw [HNn.out] at h
  exact h.turn (fun i hi hl=>hT.block i hl (by have:i=b0+1:=(Option.some.inj hi).symm;unfold One;omega)) hT.size
 ·have h:=HR2.out
  rw [HNn.out] at h
  exact h.turn (fun i hi hl=>hT.block i hl (by have:i=b0+1+1:=(Option.some.inj hi).symm;unfold One;omega)) hT.size
theorem exRight:stateB exS=true:=by
 simp [stateB,exS,evsL,openC,openGo,carriedB,rightB,rightGo,notedB,holdsB,hoOk,idD4,askedB,badB,adjB,debtsB,toB]
theorem exText:bs (textP exS.pl)=⟨#[55,59,48,59,48,59,48,59,48,59,48,59,48,59,48,59,49,59,57,59,53,59,49,59,49,59,50,59,48,59,51,59,45,49,59,48,59,48,59,48,59]⟩:=by
 have h:stateP exS.pl=true:=by rw [← stateB_pl];exact exRight
 unfold textP
 rw [if_pos h]
 simp [bodyP,partsP,Stt.pl,exS,evsL,lstE,numsL,encE3,encH,encN,encI,Lib.itoa,Lib.decDigits,bitI,bs]
theorem zRight:stateB (sttZ 0)=true:=by
 simp [stateB,sttZ,evsL,openC,openGo,carriedB,rightB,rightGo,notedB,holdsB,askedB,badB,adjB,debtsB,toB]
theorem zText:bs (textP (sttZ 0).pl)=⟨#[48,59,48,59,48,59,48,59,48,59,48,59,48,59,48,59,48,59,48,59,48,59,48,59,48,59]⟩:=by
 have h:stateP (sttZ 0).pl=true:=by rw [← stateB_pl];exact zRight
 unfold textP
 rw [if_pos h]
 simp [bodyP,partsP,Stt.pl,sttZ,evsL,lstE,encN,encI,Lib.itoa,Lib.decDigits,bs]
theorem mText:bs (textP (sttZ (-1)).pl)=⟨#[]⟩:=by
 have h:stateP (sttZ (-1)).pl=false:=by
  rw [← stateB_pl]
  simp [stateB,sttZ,evsL,openC,openGo,toB]
 unfold textP
 rw [if_neg (by rw [h];decide)]
 rfl
theorem exNums:NumsP exS.pl:=by
 refine ⟨?_,?_,?_,?_,?_,?_,?_,?_,?_,?_,?_,?_,?_,?_⟩ <;> simp [exS,Stt.pl,evsL]
theorem zNums (n:Int):NumsP (sttZ n).pl:=by
 refine ⟨?_,?_,?_,?_,?_,?_,?_,?_,?_,?_,?_,?_,?_,?_⟩ <;> simp [sttZ,Stt.pl,evsL]
theorem zOk (w:World) (n:Int):StOk w w.heap.size (sttZ n) adZ:=(RdSt.zero w 0 n).ok
theorem exCap:CapS exS:=by
 refine ⟨?_,?_,?_,?_,?_,?_,?_,?_,?_,?_,?_,?_,?_,?_⟩ <;> simp [exS]
theorem exRead:readP [55,59,48,59,48,59,48,59,48,59,48,59,48,59,48,59,49,59,57,59,53,59,49,59,49,59,50,59,48,59,51,59,45,49,59,48,59,48,59,48,59]=(exS.pl,0):=by
 have h:stateP exS.pl=true:=by rw [← stateB_pl];exact exRight
 have h1:=readP_back h exNums
 have h2:textP exS.pl=[55,59,48,59,48,59,48,59,48,59,48,59,48,59,48,59,49,59,57,59,53,59,49,59,49,59,50,59,48,59,51,59,45,49,59,48,59,48,59,48,59]:=bs_inj (exText.trans rfl)
 rw [h2] at h1
 exact h1
section
variable {P:Program} {ops:Array Oper} {Q:Exit→Act→World→Prop}
theorem wp_region_belowS {id:Nat} {a:Act} {w:World} (l:List (Nat × (Stt × StAd→Value) × (Stt × StAd→World→Prop))) (hm:P.follows .mixedOrders=true) (hok:detOk ops=true)
  (hl:Lasts (fun w'=>Below w.heap.size w w') (fun wa wb=>Below wa.heap.size wa wb) l)
  (h:DetE P ops (fun w'=>Below w.heap.size w w') (fun wa wb=>Below wa.heap.size wa wb) (effs l) (Q .normal) ops.toList 0 [] a):(Code.region id ops true).wp P Q a w :=
 @wp_region_eff _ _ _ _ _ _ _ _ _ _ ⟨(sttZ 0,adZ)⟩ hm hok (Below.refl _ _).drew (Lasts.all l hl) h
theorem DetE.loadS {G:Type} {S:World→Prop} {T:World→World→Prop} {Fs:Nat→Option ((G→Value) × (G→World→Prop))} {Z:Act→World→Prop} {o:Oper} {r:List Oper} {i:Nat} {Γ:List (Nat × (World→Prop))} {a:Act} (hF:Fs i=none) (hw:Region.wanted o (yielded ops a.tmps)=true)
  (ty:TypeId) (x:Operand) (ho:o.op=.load ty x) (b off:Nat) (hx:a.eval x=.pointer (some ⟨b,off,none⟩)) (cs:List Value) (d:TypeDesc) (hS:∀ w,S w→w.rangeAt b off cs)
  (hu:P.underlying ty=some d) (hd:d.isRow=true) (hi:(P.info? ty).map (·.size)=some cs.length) (h:DetE P ops S T Fs Z r (i+1) Γ (a.put o.dst (.agg cs.toArray))):DetE P ops S T Fs Z (o::r) i Γ a :=
 DetE.read hF hw (fun w hs _=>by
  unfold execOp
  simp only [ho,hx,Instr.loadAt,Instr.sureAddr,Sem.run_bind,Sem.run_pure,Result.andThen_ok,run_loadVar_mid w b off ty cs d (hS w hs) hu hd hi]) h
end
theorem text_c {B:Nat} (s:Stt) (a:StAd) (l:ByteArray) (w:World) (hV:Vs B w) (h:StOk w w.heap.size s a) (hp:∀ x∈s.pairs.map prD,x.wf) (hN:NumsP s.pl) (hl:bs (textP s.pl)=l) :
  Calls Tryz.prog 15 #[s.v a] w fun e w'=>e=.returned (.string l)∧Below w.heap.size w w':=by
 subst hl
 exact stText_any s a w hV h hp hN
theorem rsame_c (s t:Stt) (a c:StAd) (w:World) (hs:StOk w w.heap.size s a) (ht:StOk w w.heap.size t c) (he:s.pl=t.pl) :
  Calls Tryz.prog 12 #[s.v a,t.v c] w fun e w'=>e=.returned (.bool true)∧Below w.heap.size w w' :=
 (rsSame_any s t a c w hs ht).mono fun e w' ⟨v,h1,h2,h3⟩=>⟨by rw [h1,h2.2 he],h3⟩
theorem ssame_c (s t:Stt) (a c:StAd) (w:World) (hs:StOk w w.heap.size s a) (ht:StOk w w.heap.size t c) (he:s.pl=t.pl) :
  Calls Tryz.prog 17 #[s.v a,t.v c] w fun e w'=>e=.returned (.bool true)∧Below w.heap.size w w' :=
 (stSame_any s t a c w hs ht).mono fun e w' ⟨v,h1,h2,h3⟩=>⟨by rw [h1,h2.2 he],h3⟩
theorem right_c (s:Stt) (a:StAd) (w:World) (h:StOk w w.heap.size s a) (hp:s.pairs.length≤1000000) (hpw:∀ x∈s.pairs.map prD,x.wf) (hr:stateB s=true) :
  Calls Tryz.prog 13 #[s.v a] w fun e w'=>e=.returned (.bool true)∧Below w.heap.size w w' :=
 (stRight_any s a w h hp hpw).mono fun e w' ⟨h1,h2⟩=>⟨by rw [h1,hr],h2⟩
theorem small46_any {B:Nat} (w:World) (hV:Vs B w):Calls Tryz.prog 8 #[] w fun e w'=>e=.returned (.bool true)∧Below w.heap.size w w':=by
 have HV:=hid hV
 clear hV
 go_enter Tryz.func8,Tryz.ntmps8
 go_wp2_with fail
 refine (stRead_any [55,59,48,59,48,59,48,59,48,59,48,59,48,59,48,59,49,59,57,59,53,59,49,59,49,59,50,59,48,59,51,59,45,49,59,48,59,48,59,48,59] w HV.out (by simp)).mono ?_
 rintro en w1 ⟨s,a,rfl,hpl,hrd,hb1⟩
 have hpl2:s.pl=exS.pl:=by rw [hpl,exRead]
 have HPl:=hid hpl2
 have HR:=hid hrd.ok
 have HB:=hid hb1
 have HV1:=hid (HV.out.now hb1)
 have hrs:(readP [55,59,48,59,48,59,48,59,48,59,48,59,48,59,48,59,49,59,57,59,53,59,49,59,49,59,50,59,48,59,51,59,45,49,59,48,59,48,59,48,59]).2=0:=by rw [exRead]
 clear hpl hpl2 hrd hb1
 rw [hrs]
 clear hrs
 go_upto_region 3 with fail
 change Code.wp _ _ _ _ (w1.alloc (.cells (s.arr a) 34))
 have hb2:Below w1.heap.size w1 (w1.alloc (.cells (s.arr a) 34)):=by repeat (first | with_reducible exact Below.refl _ _ | with_reducible assumption | with_reducible refine Below.drew ?_ | with_reducible refine Below.alloc ?_ (by first | omega | (simp;done) | (simp;omega)) _)
 have hx2:StBox w1.heap.size s a (w1.alloc (.cells (s.arr a) 34)):=(MapKept.heap_alloc w1 _).1
 have HB:=hid (HB.out.trans (hb2.mono HB.out.size))
 have HR:=hid (HR.out.now hb2)
 have HV1:=hid (HV1.out.now hb2)
 have HX:=hid hx2
 clear hb2 hx2
 generalize w1.alloc (.cells (s.arr a) 34)=w2 at *
 obtain ⟨b2,hb2⟩:∃ x,x=w1.heap.size:=⟨_,rfl⟩
 rw [← hb2] at HX ⊢
 clear hb2
 go_cut [4] (fun v wx=>v=.bool true∧Below w2.heap.size w2 wx)
 case first =>
  refine wp_region_belowS [(1,fun _=>.string ⟨#[48,59,48,59,48,59,48,59,48,59,48,59,48,59,48,59,48,59,48,59,48,59,48,59,48,59]⟩,fun _ _=>True),(4,fun g=>exS.v g.2,fun g w'=>StOk w' w'.heap.size exS g.2),(5,fun _=>.string ⟨#[55,59,48,59,48,59,48,59,48,59,48,59,48,59,48,59,49,59,57,59,53,59,49,59,49,59,50,59,48,59,51,59,45,49,59,48,59,48,59,48,59]⟩,fun _ _=>True),(15,fun g=>exS.v g.2,fun g w'=>StOk w' w'.heap.size exS g.2),(16,fun _=>.bool true,fun _ _=>True)] (by kernel_rfl) (by kernel_rfl) (by repeat (first | exact trivial | refine ⟨fun g wa wb hs hs' ht h=>by first | exact trivial | exact ⟨h.1,h.2.now ht⟩ | exact h.now ht | exact h,?_⟩)) ?_
  rw [List.toList_toArray]
  repeat (first
   | (refine DetE.skip (by rfl) ?_;simp only [Act.put,sA,sB,sC])
   | (refine DetE.read (v:=?_) (by rfl) (by rfl) ?_ ?_;rotate_left;(· (intro wq hSq hkq;skip;go_simp;try with_reducible rfl));simp only [Act.put,sA,sB,sC])
   | fail)
  refine DetE.eff _ _ (by rfl) (by rfl) (fun wq hSq hkq K hK=>?_) (fun g1=>?_)
  ·go_simp
   refine (text_c (sttZ 0) adZ _ wq (HV1.out.now hSq) (zOk wq 0) (fun x hx=>(nomatch hx)) (zNums 0) zText).mono ?_
   rintro e4 w4 ⟨rfl,hb4⟩
   go_wp2_with fail
   exact hK.out ((sttZ 0,adZ)) _ (hSq.trans (hb4.mono hSq.size)) hb4 (trivial) _ rfl
  simp only [Act.put,sA,sB,sC]
  repeat (first
   | (refine DetE.skip (by rfl) ?_;simp only [Act.put,sA,sB,sC])
   | (refine DetE.read (v:=?_) (by rfl) (by rfl) ?_ ?_;rotate_left;(· (intro wq hSq hkq;skip;go_simp;try with_reducible rfl));simp only [Act.put,sA,sB,sC])
   | fail)
  refine DetE.eff _ _ (by rfl) (by rfl) (fun wq hSq hkq K hK=>?_) (fun g4=>?_)
  ·go_simp
   refine (example_any wq).mono ?_
   rintro e4 w4 ⟨n4,rfl,hr4,hb4⟩
   go_wp2_with fail
   exact hK.out ((exS,exA n4)) _ (hSq.trans (hb4.mono hSq.size)) hb4 (hr4) _ rfl
  simp only [Act.put,sA,sB,sC]
  refine DetE.eff _ _ (by rfl) (by rfl) (fun wq hSq hkq K hK=>?_) (fun g5=>?_)
  ·go_simp
   refine (text_c exS g4.2 _ wq (HV1.out.now hSq) (hkq 4 _ rfl (by kernel_rfl)) (fun x hx=>(nomatch hx)) exNums exText).mono ?_
   rintro e4 w4 ⟨rfl,hb4⟩
   go_wp2_with fail
   exact hK.out ((sttZ 0,adZ)) _ (hSq.trans (hb4.mono hSq.size)) hb4 (trivial) _ rfl
  simp only [Act.put,sA,sB,sC]
  repeat (first
   | (refine DetE.skip (by rfl) ?_;simp only [Act.put,sA,sB,sC])
   | (refine DetE.read (v:=?_) (by rfl) (by rfl) ?_ ?_;rotate_left;(· (intro wq hSq hkq;skip;go_simp;try with_reducible rfl));simp only [Act.put,sA,sB,sC])
   | fail)
  refine DetE.loadS (by rfl) (by rfl) 34 _ rfl b2 0 rfl (s.arr a).toList _ (fun wq hSq=>range_block (HX.out.now hSq) rfl) Tryz.underlying34 rfl (by kernel_rfl) ?_
  simp only [Act.put,sA,sB,sC]
  refine DetE.eff _ _ (by rfl) (by rfl) (fun wq hSq hkq K hK=>?_) (fun g15=>?_)
  ·go_simp
   refine (example_any wq).mono ?_
   rintro e4 w4 ⟨n4,rfl,hr4,hb4⟩
   go_wp2_with fail
   exact hK.out ((exS,exA n4)) _ (hSq.trans (hb4.mono hSq.size)) hb4 (hr4) _ rfl
  simp only [Act.put,sA,sB,sC]
  refine DetE.eff _ _ (by rfl) (by rfl) (fun wq hSq hkq K hK=>?_) (fun g16=>?_)
  ·go_simp
   refine (rsame_c s exS a g15.2 wq (HR.out.now hSq) (hkq 15 _ rfl (by kernel_rfl)) HPl.out).mono ?_
   rintro e4 w4 ⟨rfl,hb4⟩
   go_wp2_with fail
   exact hK.out ((sttZ 0,adZ)) _ (hSq.trans (hb4.mono hSq.size)) hb4 (trivial) _ rfl
  simp only [Act.put,sA,sB,sC]
  repeat (first
   | (refine DetE.skip (by rfl) ?_;simp only [Act.put,sA,sB,sC])
   | (refine DetE.read (v:=?_) (by rfl) (by rfl) ?_ ?_;rotate_left;(· (intro wq hSq hkq;skip;go_simp;try with_reducible rfl));simp only [Act.put,sA,sB,sC])
   | fail)
  refine DetE.done fun wz hz hkz=>?_
  go_wp2
  go_meet
  exact ⟨rfl,hz⟩
 obtain ⟨rfl,hbc⟩:=hcut
 have HB:=hid (HB.out.trans (hbc.mono HB.out.size))
 have HR:=hid (HR.out.now hbc)
 have HV1:=hid (HV1.out.now hbc)
 have HX:=hid (HX.out.now hbc)
 have HBr:Hid (stateB s=true):=hid (by rw [stateB_pl,HPl.out,← stateB_pl];exact exRight)
 have HPp:Hid (s.pairs=[]):=hid (congrArg StP.pairs HPl.out)
 clear hbc
 go_wp2_with fail
 refine wp_region_belowS [(3,fun _=>.string ⟨#[]⟩,fun _ _=>True),(8,fun g=>exS.v g.2,fun g w'=>StOk w' w'.heap.size exS g.2),(9,fun _=>.bool true,fun _ _=>True),(13,fun _=>.bool true,fun _ _=>True),(16,fun g=>exS.v g.2,fun g w'=>StOk w' w'.heap.size exS g.2),(17,fun g=>g.1.v g.2,fun g w'=>g.1.pl=exS.pl∧StOk w' w'.heap.size g.1 g.2),(19,fun _=>.bool true,fun _ _=>True)] (by kernel_rfl) (by kernel_rfl) (by repeat (first | exact trivial | refine ⟨fun g wa wb hs hs' ht h=>by first | exact trivial | exact ⟨h.1,h.2.now ht⟩ | exact h.now ht | exact h,?_⟩)) ?_
 rw [List.toList_toArray]
 repeat (first
  | (refine DetE.skip (by rfl) ?_;simp only [Act.put,sA,sB,sC])
  | (refine DetE.read (v:=?_) (by rfl) (by rfl) ?_ ?_;rotate_left;(· (intro wq hSq hkq;skip;go_simp;try with_reducible rfl));simp only [Act.put,sA,sB,sC])
  | fail)
 refine DetE.eff _ _ (by rfl) (by rfl) (fun wq hSq hkq K hK=>?_) (fun g1=>?_)
 ·go_simp
  refine (text_c (sttZ (-1)) adZ _ wq (HV1.out.now hSq) (zOk wq (-1)) (fun x hx=>(nomatch hx)) (zNums (-1)) mText).mono ?_
  rintro e4 w4 ⟨rfl,hb4⟩
  go_wp2_with fail
  exact hK.out ((sttZ 0,adZ)) _ (hSq.trans (hb4.mono hSq.size)) hb4 (trivial) _ rfl
 simp only [Act.put,sA,sB,sC]
 repeat (first
  | (refine DetE.skip (by rfl) ?_;simp only [Act.put,sA,sB,sC])
  | (refine DetE.read (v:=?_) (by rfl) (by rfl) ?_ ?_;rotate_left;(· (intro wq hSq hkq;skip;go_simp;try with_reducible rfl));simp only [Act.put,sA,sB,sC])
  | fail)
 refine DetE.loadS (by rfl) (by rfl) 34 _ rfl b2 0 rfl (s.arr a).toList _ (fun wq hSq=>range_block (HX.out.now hSq) rfl) Tryz.underlying34 rfl (by kernel_rfl) ?_
 simp only [Act.put,sA,sB,sC]
 refine DetE.eff _ _ (by rfl) (by rfl) (fun wq hSq hkq K hK=>?_) (fun g8=>?_)
 ·go_simp
  refine (example_any wq).mono ?_
  rintro e4 w4 ⟨n4,rfl,hr4,hb4⟩
  go_wp2_with fail
  exact hK.out ((exS,exA n4)) _ (hSq.trans (hb4.mono hSq.size)) hb4 (hr4) _ rfl
 simp only [Act.put,sA,sB,sC]
 refine DetE.eff _ _ (by rfl) (by rfl) (fun wq hSq hkq K hK=>?_) (fun g9=>?_)
 ·go_simp
  refine (ssame_c s exS a g8.2 wq (HR.out.now hSq) (hkq 8 _ rfl (by kernel_rfl)) HPl.out).mono ?_
  rintro e4 w4 ⟨rfl,hb4⟩
  go_wp2_with fail
  exact hK.out ((sttZ 0,adZ)) _ (hSq.trans (hb4.mono hSq.size)) hb4 (trivial) _ rfl
 simp only [Act.put,sA,sB,sC]
 repeat (first
  | (refine DetE.skip (by rfl) ?_;simp only [Act.put,sA,sB,sC])
  | (refine DetE.read (v:=?_) (by rfl) (by rfl) ?_ ?_;rotate_left;(· (intro wq hSq hkq;skip;go_simp;try with_reducible rfl));simp only [Act.put,sA,sB,sC])
  | fail)
 refine DetE.loadS (by rfl) (by rfl) 34 _ rfl b2 0 rfl (s.arr a).toList _ (fun wq hSq=>range_block (HX.out.now hSq) rfl) Tryz.underlying34 rfl (by kernel_rfl) ?_
 simp only [Act.put,sA,sB,sC]
 refine DetE.eff _ _ (by rfl) (by rfl) (fun wq hSq hkq K hK=>?_) (fun g13=>?_)
 ·go_simp
  refine (right_c s a wq (HR.out.now hSq) (by rw [HPp.out];simp) (by rw [HPp.out];intro x hx;simp at hx) HBr.out).mono ?_
  rintro e4 w4 ⟨rfl,hb4⟩
  go_wp2_with fail
  exact hK.out ((sttZ 0,adZ)) _ (hSq.trans (hb4.mono hSq.size)) hb4 (trivial) _ rfl
 simp only [Act.put,sA,sB,sC]
 repeat (first
  | (refine DetE.skip (by rfl) ?_;simp only [Act.put,sA,sB,sC])
  | (refine DetE.read (v:=?_) (by rfl) (by rfl) ?_ ?_;rotate_left;(· (intro wq hSq hkq;skip;go_simp;try with_reducible rfl));simp only [Act.put,sA,sB,sC])
  | fail)
 refine DetE.eff _ _ (by rfl) (by rfl) (fun wq hSq hkq K hK=>?_) (fun g16=>?_)
 ·go_simp
  refine (example_any wq).mono ?_
  rintro e4 w4 ⟨n4,rfl,hr4,hb4⟩
  go_wp2_with fail
  exact hK.out ((exS,exA n4)) _ (hSq.trans (hb4.mono hSq.size)) hb4 (hr4) _ rfl
 simp only [Act.put,sA,sB,sC]
 refine DetE.eff _ _ (by rfl) (by rfl) (fun wq hSq hkq K hK=>?_) (fun g17=>?_)
 ·go_simp
  refine (stCopy_any exS g16.2 wq (hkq 16 _ rfl (by kernel_rfl)) exCap).mono ?_
  rintro e4 w4 ⟨t4,c4,lo4,rfl,hp4,_,hr4,_,_,hb4⟩
  go_wp2_with fail
  exact hK.out ((t4,c4)) _ (hSq.trans (hb4.mono hSq.size)) hb4 (⟨hp4,hr4.ok⟩) _ rfl
 simp only [Act.put,sA,sB,sC]
 refine DetE.loadS (by rfl) (by rfl) 34 _ rfl b2 0 rfl (s.arr a).toList _ (fun wq hSq=>range_block (HX.out.now hSq) rfl) Tryz.underlying34 rfl (by kernel_rfl) ?_
 simp only [Act.put,sA,sB,sC]
 refine DetE.eff _ _ (by rfl) (by rfl) (fun wq hSq hkq K hK=>?_) (fun g19=>?_)
 ·go_simp
  refine (rsame_c g17.1 s g17.2 a wq (hkq 17 _ rfl (by kernel_rfl)).2 (HR.out.now hSq) ((hkq 17 _ rfl (by kernel_rfl)).1.trans HPl.out.symm)).mono ?_
  rintro e4 w4 ⟨rfl,hb4⟩
  go_wp2_with fail
  exact hK.out ((sttZ 0,adZ)) _ (hSq.trans (hb4.mono hSq.size)) hb4 (trivial) _ rfl
 simp only [Act.put,sA,sB,sC]
 repeat (first
  | (refine DetE.skip (by rfl) ?_;simp only [Act.put,sA,sB,sC])
  | (refine DetE.read (v:=?_) (by rfl) (by rfl) ?_ ?_;rotate_left;(· (intro wq hSq hkq;skip;go_simp;try with_reducible rfl));simp only [Act.put,sA,sB,sC])
  | fail)
 refine DetE.done fun wz hz hkz=>?_
 go_wp2
 go_ret
 exact ⟨rfl,HB.out.trans (hz.mono HB.out.size)⟩
end Go.Proofs.YthlpehhlhebhbaaGreatDoor
