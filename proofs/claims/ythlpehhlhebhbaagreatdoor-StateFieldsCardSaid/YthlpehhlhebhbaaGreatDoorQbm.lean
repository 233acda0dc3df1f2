/- Contracts and plain laws, joined: StSm. -/
import Derived.Test.YthlpehhlhebhbaaGreatDoorQbl
import Derived.Test.YthlpehhlhebhbaaGreatDoorQbj
import Derived.Test.YthlpehhlhebhbaaGreatDoorQan
import Derived.Deep.CutBlock
import Derived.Deep.DeepCutAuto
/- Contracts of lingualaw46's example and small (written by gensm.py). -/
set_option linter.unusedSimpArgs false
set_option linter.unusedVariables false
namespace Go.Proofs.YthlpehhlhebhbaaGreatDoor
set_option maxHeartbeats 8000000
open Lib (hid)
open Go.RowKit
set_option maxRecDepth 100000
def exS:Stt:=⟨7,[],[],[],[],[],[],[],[⟨9,5,true⟩],[⟨2,0,3,-1⟩],[],[],[]⟩
def exA (n:Nat):StAd:=⟨(none,0),(none,0),(none,0),(none,0),(none,0),(none,0),(none,0),(some ⟨n+1,0,none⟩,1),(some ⟨n+1+1,0,none⟩,1),(none,0),(none,0),(none,0)⟩
theorem exOk {n:Nat} (w:World) (h1:RdL 3 E3.cs w w.heap.size (some ⟨n+1,0,none⟩) [⟨9,5,true⟩]) (h2:RdL 4 D4.cs w w.heap.size (some ⟨n+1+1,0,none⟩) [⟨2,0,3,-1⟩]):StOk w w.heap.size exS (exA n):=by
 refine ⟨RdL.nil_,RdL.nil_,RdL.nil_,RdL.nil_,RdL.nil_,RdL.nil_,RdL.nil_,h1,h2,RdL.nil_,RdL.nil_,RdL.nil_,fun x hx=>(nomatch hx),fun x hx=>(nomatch hx),?_,?_,?_,?_,?_,?_,?_,?_,?_,?_,?_,?_,?_,?_,?_,?_,?_,?_,?_,?_,?_,?_,?_,?_⟩ <;> simp [exS,exA]
theorem example_any (w:World):Calls Tryz.prog 23 #[] w fun e w'=>∃ n,e=.returned (exS.v (exA n))∧StOk w' w'.heap.size exS (exA n)∧Below w.heap.size w w':=by
 have hb0:Below w.heap.size w (w.alloc (.cells ((sttZ 0).arr adZ) 34)):=by repeat (first | with_reducible exact Below.refl _ _ | with_reducible assumption | with_reducible refine Below.drew ?_ | with_reducible refine Below.alloc ?_ (by first | omega | (simp;done) | (simp;omega)) _)
 have HO:Hid ((w.alloc (.cells ((sttZ 0).arr adZ) 34)).heap[w.heap.size]?=some (.cells ((sttZ 0).arr adZ) 34 (0,0))):=hid (MapKept.heap_alloc w _).1
 have hsz:(w.alloc (.cells ((sttZ 0).arr adZ) 34)).heap.size=w.heap.size+1:=by simp
 have HB0:=hid hb0
 have HSz:=hid hsz
 clear hb0 hsz
 go_enter Tryz.func23,Tryz.ntmps23
 go_upto_region 1 with fail
 change Code.wp _ _ _ _ (w.alloc (.cells ((sttZ 0).arr adZ) 34))
 generalize w.alloc (.cells ((sttZ 0).arr adZ) 34)=w0 at *
 obtain ⟨b0,hb0⟩:∃ x,x=w.heap.size:=⟨_,rfl⟩
 rw [← hb0] at HO ⊢
 have Hb0:=hid hb0
 clear hb0
 have h1:=RdL.blockW layE3 w0 [⟨9,5,true⟩] #[.int .i64 9,.int .i64 5,.bool true] 99 rfl w0.heap.size rfl
 have hw1:Below w0.heap.size w0 (w0.alloc (.cells #[.int .i64 9,.int .i64 5,.bool true] 99)):=by repeat (first | with_reducible exact Below.refl _ _ | with_reducible assumption | with_reducible refine Below.drew ?_ | with_reducible refine Below.alloc ?_ (by first | omega | (simp;done) | (simp;omega)) _)
 have h2:=RdL.blockW layD4 (w0.alloc (.cells #[.int .i64 9,.int .i64 5,.bool true] 99)) [⟨2,0,3,-1⟩] #[.int .i64 2,.int .i64 0,.int .i64 3,.int .i64 (-1)] 103 rfl (w0.heap.size+1) (by simp)
 have hw2:Below (w0.alloc (.cells #[.int .i64 9,.int .i64 5,.bool true] 99)).heap.size (w0.alloc (.cells #[.int .i64 9,.int .i64 5,.bool true] 99)) ((w0.alloc (.cells #[.int .i64 9,.int .i64 5,.bool true] 99)).alloc (.cells #[.int .i64 2,.int .i64 0,.int .i64 3,.int .i64 (-1)] 103)):=by repeat (first | with_reducible exact Below.refl _ _ | with_reducible assumption | with_reducible refine Below.drew ?_ | with_reducible refine Below.alloc ?_ (by first | omega | (simp;done) | (simp;omega)) _)
 have h1':=h1.now hw2
 have HB2:Hid (Below w0.heap.size w0 ((w0.alloc (.cells #[.int .i64 9,.int .i64 5,.bool true] 99)).alloc (.cells #[.int .i64 2,.int .i64 0,.int .i64 3,.int .i64 (-1)] 103))):=hid (hw1.trans (hw2.mono hw1.size))
 have HR1:=hid h1'
 have HR2:=hid h2
 have HTh:Hid (World.there ((w0.alloc (.cells #[.int .i64 9,.int .i64 5,.bool true] 99)).alloc (.cells #[.int .i64 2,.int .i64 0,.int .i64 3,.int .i64 (-1)] 103)) b0 0 13):=hid (there_of_box ((HB2.out.block b0 (by have:=HSz.out;have:=Hb0.out;omega)).trans HO.out))
 have HNn:Hid (w0.heap.size=b0+1):=hid (by have:=HSz.out;have:=Hb0.out;omega)
 clear h1 h1' h2 hw1 hw2
 go_wp2_with (first
  | ((with_reducible show wpList _ _ _ (Oper.mk _ (Op.store 34 (.tmp 0) _) _ _ _ _::_) _ _);refine wpList_store_box rfl 34 _ _ rfl b0 (exS.arr ⟨(none,0),(none,0),(none,0),(none,0),(none,0),(none,0),(none,0),(some ⟨w0.heap.size,0,none⟩,1),(some ⟨w0.heap.size+1,0,none⟩,1),(none,0),(none,0),(none,0)⟩) rfl rfl HTh.out (by kernel_rfl) (by simp [Value.oneCell']) ?_;intro wS hrS htS hgS;have HRS:=hid hrS;have HGS:=hid hgS;clear hrS htS hgS)
  | fail)
 refine ret_box 0 34 rfl b0 _ _ rfl HRS.out Tryz.underlying34 rfl (by kernel_rfl) rfl ?_
 have hB:=(HB0.out.trans (HB2.out.mono HB0.out.size)).grown HGS.out (by have:=HB0.out.size;have:=HB2.out.size;omega) (fun k hk=>by injection hk with hk;have:=Hb0.out;omega)
 have hT:Turn (One b0) _ wS:=Turn.grown HGS.out (fun k hk=>(Option.some.inj hk).symm)
 refine ⟨b0,by rw [HNn.out];rfl,exOk (n:=b0) wS ?_ ?_,hB⟩
 ·have h:=HR1.out
  rw [HNn.out] at h
  exact h.turn (fun i hi hl=>hT.block i hl (by have:i=b0+1:=(Option.some.inj hi).symm;unfold One;omega)) hT.size
 ·have h:=HR2.out
  rw [HNn.out] at h
  exact h.turn (fun i hi hl=>hT.block i hl (by have:i=b0+1+1:=(Option.some.inj hi).symm;unfold One;omega)) hT.size
theorem exRight:stateB exS=true:=by
 simp [stateB,exS,evsL,openC,openGo,carriedB,rightB,rightGo,notedB,holdsB,hoOk,idD4,askedB,badB,adjB,debtsB,toB]
theorem exText:bs (textP exS.pl)=⟨#[55,59,48,59,48,59,48,59,48,59,48,59,48,59,48,59,49,59,57,59,53,59,49,59,49,59,50,59,48,59,51,59,45,49,59,48,59,48,59,48,59]⟩:=by
 have h:stateP exS.pl=true:=by rw [← stateB_pl];exact exRight
 unfold textP
 rw [if_pos h]
 simp [bodyP,partsP,Stt.pl,exS,evsL,lstE,numsL,encE3,encH,encN,encI,Lib.itoa,Lib.decDigits,bitI,bs]
theorem zRight:stateB (sttZ 0)=true:=by
 simp [stateB,sttZ,evsL,openC,openGo,carriedB,rightB,rightGo,notedB,holdsB,askedB,badB,adjB,debtsB,toB]
theorem zText:bs (textP (sttZ 0).pl)=⟨#[48,59,48,59,48,59,48,59,48,59,48,59,48,59,48,59,48,59,48,59,48,59,48,59,48,59]⟩:=by
 have h:stateP (sttZ 0).pl=true:=by rw [← stateB_pl];exact zRight
 unfold textP
 rw [if_pos h]
 simp [bodyP,partsP,Stt.pl,sttZ,evsL,lstE,encN,encI,Lib.itoa,Lib.decDigits,bs]
theorem mText:bs (textP (sttZ (-1)).pl)=⟨#[]⟩:=by
 have h:stateP (sttZ (-1)).pl=false:=by
  rw [← stateB_pl]
  simp [stateB,sttZ,evsL,openC,openGo,toB]
 unfold textP
 rw [if_neg (by rw [h];decide)]
 rfl
theorem exNums:NumsP exS.pl:=by
 refine ⟨?_,?_,?_,?_,?_,?_,?_,?_,?_,?_,?_,?_,?_,?_⟩ <;> simp [exS,Stt.pl,evsL]
theorem zNums (n:Int):NumsP (sttZ n).pl:=by
 refine ⟨?_,?_,?_,?_,?_,?_,?_,?_,?_,?_,?_,?_,?_,?_⟩ <;> simp [sttZ,Stt.pl,evsL]
theorem zOk (w:World) (n:Int):StOk w w.heap.size (sttZ n) adZ:=(RdSt.zero w 0 n).ok
theorem exCap:CapS exS:=by
 refine ⟨?_,?_,?_,?_,?_,?_,?_,?_,?_,?_,?_,?_,?_,?_⟩ <;> simp [exS]
theorem exRead:readP [55,59,48,59,48,59,48,59,48,59,48,59,48,59,48,59,49,59,57,59,53,59,49,59,49,59,50,59,48,59,51,59,45,49,59,48,59,48,59,48,59]=(exS.pl,0):=by
 have h:stateP exS.pl=true:=by rw [← stateB_pl];exact exRight
 have h1:=readP_back h exNums
 have h2:textP exS.pl=[55,59,48,59,48,59,48,59,48,59,48,59,48,59,48,59,49,59,57,59,53,59,49,59,49,59,50,59,48,59,51,59,45,49,59,48,59,48,59,48,59]:=bs_inj (exText.trans rfl)
 rw [h2] at h1
 exact h1
section
variable {P:Program} {ops:Array Oper} {Q:Exit→Act→World→Prop}
theorem wp_region_belowS {id:Nat} {a:Act} {w:World} (l:List (Nat × (Stt × StAd→Value) × (Stt × StAd→World→Prop))) (hm:P.follows .mixedOrders=true) (hok:detOk ops=true)
  (hl:Lasts (fun w'=>Below w.heap.size w w') (fun wa wb=>Below wa.heap.size wa wb) l)
  (h:DetE P ops (fun w'=>Below w.heap.size w w') (fun wa wb=>Below wa.heap.size wa wb) (effs l) (Q .normal) ops.toList 0 [] a):(Code.region id ops true).wp P Q a w :=
 @wp_region_eff _ _ _ _ _ _ _ _ _ _ ⟨(sttZ 0,adZ)⟩ hm hok (Below.refl _ _).drew (Lasts.all l hl) h
theorem DetE.loadS {G:Type} {S:World→Prop} {T:World→World→Prop} {Fs:Nat→Option ((G→Value) × (G→World→Prop))} {Z:Act→World→Prop} {o:Oper} {r:List Oper} {i:Nat} {Γ:List (Nat × (World→Prop))} {a:Act} (hF:Fs i=none) (hw:Region.wanted o (yielded ops a.tmps)=true)
  (ty:TypeId) (x:Operand) (ho:o.op=.load ty x) (b off:Nat) (hx:a.eval x=.pointer (some ⟨b,off,none⟩)) (cs:List Value) (d:TypeDesc) (hS:∀ w,S w→w.rangeAt b off cs)
  (hu:P.underlying ty=some d) (hd:d.isRow=true) (hi:(P.info? ty).map (·.size)=some cs.length) (h:DetE P ops S T Fs Z r (i+1) Γ (a.put o.dst (.agg cs.toArray))):DetE P ops S T Fs Z (o::r) i Γ a :=
 DetE.read hF hw (fun w hs _=>by
  unfold execOp
  simp only [ho,hx,Instr.loadAt,Instr.sureAddr,Sem.run_bind,Sem.run_pure,Result.andThen_ok,run_loadVar_mid w b off ty cs d (hS w hs) hu hd hi]) h
end
theorem text_c {B:Nat} (s:Stt) (a:StAd) (l:ByteArray) (w:World) (hV:Vs B w) (h:StOk w w.heap.size s a) (hp:∀ x∈s.pairs.map prD,x.wf) (hN:NumsP s.pl) (hl:bs (textP s.pl)=l) :
  Calls Tryz.prog 15 #[s.v a] w fun e w'=>e=.returned (.string l)∧Below w.heap.size w w':=by
 subst hl
 exact stText_any s a w hV h hp hN
theorem rsame_c (s t:Stt) (a c:StAd) (w:World) (hs:StOk w w.heap.size s a) (ht:StOk w w.heap.size t c) (he:s.pl=t.pl) :
  Calls Tryz.prog 12 #[s.v a,t.v c] w fun e w'=>e=.returned (.bool true)∧Below w.heap.size w w' :=
 (rsSame_any s t a c w hs ht).mono fun e w' ⟨v,h1,h2,h3⟩=>⟨by rw [h1,h2.2 he],h3⟩
theorem ssame_c (s t:Stt) (a c:StAd) (w:World) (hs:StOk w w.heap.size s a) (ht:StOk w w.heap.size t c) (he:s.pl=t.pl) :
  Calls Tryz.prog 17 #[s.v a,t.v c] w fun e w'=>e=.returned (.bool true)∧Below w.heap.size w w' :=
 (stSame_any s t a c w hs ht).mono fun e w' ⟨v,h1,h2,h3⟩=>⟨by rw [h1,h2.2 he],h3⟩
theorem right_c (s:Stt) (a:StAd) (w:World) (h:StOk w w.heap.size s a) (hp:s.pairs.length≤1000000) (hpw:∀ x∈s.pairs.map prD,x.wf) (hr:stateB s=true) :
  Calls Tryz.prog 13 #[s.v a] w fun e w'=>e=.returned (.bool true)∧Below w.heap.size w w' :=
 (stRight_any s a w h hp hpw).mono fun e w' ⟨h1,h2⟩=>⟨by rw [h1,hr],h2⟩
theorem small46_any {B:Nat} (w:World) (hV:Vs B w):Calls Tryz.prog 8 #[] w fun e w'=>e=.returned (.bool true)∧Below w.heap.size w w':=by
 have HV:=hid hV
 clear hV
 go_enter Tryz.func8,Tryz.ntmps8
 go_wp2_with fail
 refine (stRead_any [55,59,48,59,48,59,48,59,48,59,48,59,48,59,48,59,49,59,57,59,53,59,49,59,49,59,50,59,48,59,51,59,45,49,59,48,59,48,59,48,59] w HV.out (by simp)).mono ?_
 rintro en w1 ⟨s,a,rfl,hpl,hrd,hb1⟩
 have hpl2:s.pl=exS.pl:=by rw [hpl,exRead]
 have HPl:=hid hpl2
 have HR:=hid hrd.ok
 have HB:=hid hb1
 have HV1:=hid (HV.out.now hb1)
 have hrs:(readP [55,59,48,59,48,59,48,59,48,59,48,59,48,59,48,59,49,59,57,59,53,59,49,59,49,59,50,59,48,59,51,59,45,49,59,48,59,48,59,48,59]).2=0:=by rw [exRead]
 clear hpl hpl2 hrd hb1
 rw [hrs]
 clear hrs
 go_upto_region 3 with fail
 change Code.wp _ _ _ _ (w1.alloc (.cells (s.arr a) 34))
 have hb2:Below w1.heap.size w1 (w1.alloc (.cells (s.arr a) 34)):=by repeat (first | with_reducible exact Below.refl _ _ | with_reducible assumption | with_reducible refine Below.drew ?_ | with_reducible refine Below.alloc ?_ (by first | omega | (simp;done) | (simp;omega)) _)
 have hx2:StBox w1.heap.size s a (w1.alloc (.cells (s.arr a) 34)):=(MapKept.heap_alloc w1 _).1
 have HB:=hid (HB.out.trans (hb2.mono HB.out.size))
 have HR:=hid (HR.out.now hb2)
 have HV1:=hid (HV1.out.now hb2)
 have HX:=hid hx2
 clear hb2 hx2
 generalize w1.alloc (.cells (s.arr a) 34)=w2 at *
 obtain ⟨b2,hb2⟩:∃ x,x=w1.heap.size:=⟨_,rfl⟩
 rw [← hb2] at HX ⊢
 clear hb2
 go_cut [4] (fun v wx=>v=.bool true∧Below w2.heap.size w2 wx)
 case first =>
  refine wp_region_belowS [(1,fun _=>.string ⟨#[48,59,48,59,48,59,48,59,48,59,48,59,48,59,48,59,48,59,48,59,48,59,48,59,48,59]⟩,fun _ _=>True),(4,fun g=>exS.v g.2,fun g w'=>StOk w' w'.heap.size exS g.2),(5,fun _=>.string ⟨#[55,59,48,59,48,59,48,59,48,59,48,59,48,59,48,59,49,59,57,59,53,59,49,59,49,59,50,59,48,59,51,59,45,49,59,48,59,48,59,48,59]⟩,fun _ _=>True),(15,fun g=>exS.v g.2,fun g w'=>StOk w' w'.heap.size exS g.2),(16,fun _=>.bool true,fun _ _=>True)] (by kernel_rfl) (by kernel_rfl) (by repeat (first | exact trivial | refine ⟨fun g wa wb hs hs' ht h=>by first | exact trivial | exact ⟨h.1,h.2.now ht⟩ | exact h.now ht | exact h,?_⟩)) ?_
  rw [List.toList_toArray]
  repeat (first
   | (refine DetE.skip (by rfl) ?_;simp only [Act.put,sA,sB,sC])
   | (refine DetE.read (v:=?_) (by rfl) (by rfl) ?_ ?_;rotate_left;(· (intro wq hSq hkq;skip;go_simp;try with_reducible rfl));simp only [Act.put,sA,sB,sC])
   | fail)
  refine DetE.eff _ _ (by rfl) (by rfl) (fun wq hSq hkq K hK=>?_) (fun g1=>?_)
  ·go_simp
   refine (text_c (sttZ 0) adZ _ wq (HV1.out.now hSq) (zOk wq 0) (fun x hx=>(nomatch hx)) (zNums 0) zText).mono ?_
   rintro e4 w4 ⟨rfl,hb4⟩
   go_wp2_with fail
   exact hK.out ((sttZ 0,adZ)) _ (hSq.trans (hb4.mono hSq.size)) hb4 (trivial) _ rfl
  simp only [Act.put,sA,sB,sC]
  repeat (first
   | (refine DetE.skip (by rfl) ?_;simp only [Act.put,sA,sB,sC])
   | (refine DetE.read (v:=?_) (by rfl) (by rfl) ?_ ?_;rotate_left;(· (intro wq hSq hkq;skip;go_simp;try with_reducible rfl));simp only [Act.put,sA,sB,sC])
   | fail)
  refine DetE.eff _ _ (by rfl) (by rfl) (fun wq hSq hkq K hK=>?_) (fun g4=>?_)
  ·go_simp
   refine (example_any wq).mono ?_
   rintro e4 w4 ⟨n4,rfl,hr4,hb4⟩
   go_wp2_with fail
   exact hK.out ((exS,exA n4)) _ (hSq.trans (hb4.mono hSq.size)) hb4 (hr4) _ rfl
  simp only [Act.put,sA,sB,sC]
  refine DetE.eff _ _ (by rfl) (by rfl) (fun wq hSq hkq K hK=>?_) (fun g5=>?_)
  ·go_simp
   refine (text_c exS g4.2 _ wq (HV1.out.now hSq) (hkq 4 _ rfl (by kernel_rfl)) (fun x hx=>(nomatch hx)) exNums exText).mono ?_
   rintro e4 w4 ⟨rfl,hb4⟩
   go_wp2_with fail
   exact hK.out ((sttZ 0,adZ)) _ (hSq.trans (hb4.mono hSq.size)) hb4 (trivial) _ rfl
  simp only [Act.put,sA,sB,sC]
  repeat (first
   | (refine DetE.skip (by rfl) ?_;simp only [Act.put,sA,sB,sC])
   | (refine DetE.read (v:=?_) (by rfl) (by rfl) ?_ ?_;rotate_left;(· (intro wq hSq hkq;skip;go_simp;try with_reducible rfl));simp only [Act.put,sA,sB,sC])
   | fail)
  refine DetE.loadS (by rfl) (by rfl) 34 _ rfl b2 0 rfl (s.arr a).toList _ (fun wq hSq=>range_block (HX.out.now hSq) rfl) Tryz.underlying34 rfl (by kernel_rfl) ?_
  simp only [Act.put,sA,sB,sC]
  refine DetE.eff _ _ (by rfl) (by rfl) (fun wq hSq hkq K hK=>?_) (fun g15=>?_)
  ·go_simp
   refine (example_any wq).mono ?_
   rintro e4 w4 ⟨n4,rfl,hr4,hb4⟩
   go_wp2_with fail
   exact hK.out ((exS,exA n4)) _ (hSq.trans (hb4.mono hSq.size)) hb4 (hr4) _ rfl
  simp only [Act.put,sA,sB,sC]
  refine DetE.eff _ _ (by rfl) (by rfl) (fun wq hSq hkq K hK=>?_) (fun g16=>?_)
  ·go_simp
   refine (rsame_c s exS a g15.2 wq (HR.out.now hSq) (hkq 15 _ rfl (by kernel_rfl)) HPl.out).mono ?_
   rintro e4 w4 ⟨rfl,hb4⟩
   go_wp2_with fail
   exact hK.out ((sttZ 0,adZ)) _ (hSq.trans (hb4.mono hSq.size)) hb4 (trivial) _ rfl
  simp only [Act.put,sA,sB,sC]
  repeat (first
   | (refine DetE.skip (by rfl) ?_;simp only [Act.put,sA,sB,sC])
   | (refine DetE.read (v:=?_) (by rfl) (by rfl) ?_ ?_;rotate_left;(· (intro wq hSq hkq;skip;go_simp;try with_reducible rfl));simp only [Act.put,sA,sB,sC])
   | fail)
  refine DetE.done fun wz hz hkz=>?_
  go_wp2
  go_meet
  exact ⟨rfl,hz⟩
 obtain ⟨rfl,hbc⟩:=hcut
 have HB:=hid (HB.out.trans (hbc.mono HB.out.size))
 have HR:=hid (HR.out.now hbc)
 have HV1:=hid (HV1.out.now hbc)
 have HX:=hid (HX.out.now hbc)
 have HBr:Hid (stateB s=true):=hid (by rw [stateB_pl,HPl.out,← stateB_pl];exact exRight)
 have HPp:Hid (s.pairs=[]):=hid (congrArg StP.pairs HPl.out)
 clear hbc
 go_wp2_with fail
 refine wp_region_belowS [(3,fun _=>.string ⟨#[]⟩,fun _ _=>True),(8,fun g=>exS.v g.2,fun g w'=>StOk w' w'.heap.size exS g.2),(9,fun _=>.bool true,fun _ _=>True),(13,fun _=>.bool true,fun _ _=>True),(16,fun g=>exS.v g.2,fun g w'=>StOk w' w'.heap.size exS g.2),(17,fun g=>g.1.v g.2,fun g w'=>g.1.pl=exS.pl∧StOk w' w'.heap.size g.1 g.2),(19,fun _=>.bool true,fun _ _=>True)] (by kernel_rfl) (by kernel_rfl) (by repeat (first | exact trivial | refine ⟨fun g wa wb hs hs' ht h=>by first | exact trivial | exact ⟨h.1,h.2.now ht⟩ | exact h.now ht | exact h,?_⟩)) ?_
 rw [List.toList_toArray]
 repeat (first
  | (refine DetE.skip (by rfl) ?_;simp only [Act.put,sA,sB,sC])
  | (refine DetE.read (v:=?_) (by rfl) (by rfl) ?_ ?_;rotate_left;(· (intro wq hSq hkq;skip;go_simp;try with_reducible rfl));simp only [Act.put,sA,sB,sC])
  | fail)
 refine DetE.eff _ _ (by rfl) (by rfl) (fun wq hSq hkq K hK=>?_) (fun g1=>?_)
 ·go_simp
  refine (text_c (sttZ (-1)) adZ _ wq (HV1.out.now hSq) (zOk wq (-1)) (fun x hx=>(nomatch hx)) (zNums (-1)) mText).mono ?_
  rintro e4 w4 ⟨rfl,hb4⟩
  go_wp2_with fail
  exact hK.out ((sttZ 0,adZ)) _ (hSq.trans (hb4.mono hSq.size)) hb4 (trivial) _ rfl
 simp only [Act.put,sA,sB,sC]
 repeat (first
  | (refine DetE.skip (by rfl) ?_;simp only [Act.put,sA,sB,sC])
  | (refine DetE.read (v:=?_) (by rfl) (by rfl) ?_ ?_;rotate_left;(· (intro wq hSq hkq;skip;go_simp;try with_reducible rfl));simp only [Act.put,sA,sB,sC])
  | fail)
 refine DetE.loadS (by rfl) (by rfl) 34 _ rfl b2 0 rfl (s.arr a).toList _ (fun wq hSq=>range_block (HX.out.now hSq) rfl) Tryz.underlying34 rfl (by kernel_rfl) ?_
 simp only [Act.put,sA,sB,sC]
 refine DetE.eff _ _ (by rfl) (by rfl) (fun wq hSq hkq K hK=>?_) (fun g8=>?_)
 ·go_simp
  refine (example_any wq).mono ?_
  rintro e4 w4 ⟨n4,rfl,hr4,hb4⟩
  go_wp2_with fail
  exact hK.out ((exS,exA n4)) _ (hSq.trans (hb4.mono hSq.size)) hb4 (hr4) _ rfl
 simp only [Act.put,sA,sB,sC]
 refine DetE.eff _ _ (by rfl) (by rfl) (fun wq hSq hkq K hK=>?_) (fun g9=>?_)
 ·go_simp
  refine (ssame_c s exS a g8.2 wq (HR.out.now hSq) (hkq 8 _ rfl (by kernel_rfl)) HPl.out).mono ?_
  rintro e4 w4 ⟨rfl,hb4⟩
  go_wp2_with fail
  exact hK.out ((sttZ 0,adZ)) _ (hSq.trans (hb4.mono hSq.size)) hb4 (trivial) _ rfl
 simp only [Act.put,sA,sB,sC]
 repeat (first
  | (refine DetE.skip (by rfl) ?_;simp only [Act.put,sA,sB,sC])
  | (refine DetE.read (v:=?_) (by rfl) (by rfl) ?_ ?_;rotate_left;(· (intro wq hSq hkq;skip;go_simp;try with_reducible rfl));simp only [Act.put,sA,sB,sC])
  | fail)
 refine DetE.loadS (by rfl) (by rfl) 34 _ rfl b2 0 rfl (s.arr a).toList _ (fun wq hSq=>range_block (HX.out.now hSq) rfl) Tryz.underlying34 rfl (by kernel_rfl) ?_
 simp only [Act.put,sA,sB,sC]
 refine DetE.eff _ _ (by rfl) (by rfl) (fun wq hSq hkq K hK=>?_) (fun g13=>?_)
 ·go_simp
  refine (right_c s a wq (HR.out.now hSq) (by rw [HPp.out];simp) (by rw [HPp.out];intro x hx;simp at hx) HBr.out).mono ?_
  rintro e4 w4 ⟨rfl,hb4⟩
  go_wp2_with fail
  exact hK.out ((sttZ 0,adZ)) _ (hSq.trans (hb4.mono hSq.size)) hb4 (trivial) _ rfl
 simp only [Act.put,sA,sB,sC]
 repeat (first
  | (refine DetE.skip (by rfl) ?_;simp only [Act.put,sA,sB,sC])
  | (refine DetE.read (v:=?_) (by rfl) (by rfl) ?_ ?_;rotate_left;(· (intro wq hSq hkq;skip;go_simp;try with_reducible rfl));simp only [Act.put,sA,sB,sC])
  | fail)
 refine DetE.eff _ _ (by rfl) (by rfl) (fun wq hSq hkq K hK=>?_) (fun g16=>?_)
 ·go_simp
  refine (example_any wq).mono ?_
  rintro e4 w4 ⟨n4,rfl,hr4,hb4⟩
  go_wp2_with fail
  exact hK.out ((exS,exA n4)) _ (hSq.trans (hb4.mono hSq.size)) hb4 (hr4) _ rfl
 simp only [Act.put,sA,sB,sC]
 refine DetE.eff _ _ (by rfl) (by rfl) (fun wq hSq hkq K hK=>?_) (fun g17=>?_)
 ·go_simp
  refine (stCopy_any exS g16.2 wq (hkq 16 _ rfl (by kernel_rfl)) exCap).mono ?_
  rintro e4 w4 ⟨t4,c4,lo4,rfl,hp4,_,hr4,_,_,hb4⟩
  go_wp2_with fail
  exact hK.out ((t4,c4)) _ (hSq.trans (hb4.mono hSq.size)) hb4 (⟨hp4,hr4.ok⟩) _ rfl
 simp only [Act.put,sA,sB,sC]
 refine DetE.loadS (by rfl) (by rfl) 34 _ rfl b2 0 rfl (s.arr a).toList _ (fun wq hSq=>range_block (HX.out.now hSq) rfl) Tryz.underlying34 rfl (by kernel_rfl) ?_
 simp only [Act.put,sA,sB,sC]
 refine DetE.eff _ _ (by rfl) (by rfl) (fun wq hSq hkq K hK=>?_) (fun g19=>?_)
 ·go_simp
  refine (rsame_c g17.1 s g17.2 a wq (hkq 17 _ rfl (by kernel_rfl)).2 (HR.out.now hSq) ((hkq 17 _ rfl (by kernel_rfl)).1.trans HPl.out.symm)).mono ?_
  rintro e4 w4 ⟨rfl,hb4⟩
  go_wp2_with fail
  exact hK.out ((sttZ 0,adZ)) _ (hSq.trans (hb4.mono hSq.size)) hb4 (trivial) _ rfl
 simp only [Act.put,sA,sB,sC]
 repeat (first
  | (refine DetE.skip (by rfl) ?_;simp only [Act.put,sA,sB,sC])
  | (refine DetE.read (v:=?_) (by rfl) (by rfl) ?_ ?_;rotate_left;(· (intro wq hSq hkq;skip;go_simp;try with_reducible rfl));simp only [Act.put,sA,sB,sC])
  | fail)
 refine DetE.done fun wz hz hkz=>?_
 go_wp2
 go_ret
 exact ⟨rfl,HB.out.trans (hz.mono HB.out.size)⟩
end Go.Proofs.YthlpehhlhebhbaaGreatDoor
