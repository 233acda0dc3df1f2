/- Contracts and plain laws, joined: StV. -/
import Derived.Test.YthlpehhlhebhbaaGreatDoorQbe
import Derived.Test.YthlpehhlhebhbaaGreatDoorQaz
import Derived.Test.YthlpehhlhebhbaaGreatDoorQan
/- Contracts of the closures of state.Text (layer 46;written by genstw.py). -/
set_option linter.unusedSimpArgs false
set_option linter.unusedVariables false
namespace Go.Proofs.YthlpehhlhebhbaaGreatDoor
set_option maxHeartbeats 1000000
open Lib (hid)
open Go.RowKit
set_option maxRecDepth 100000
theorem rd_lit (w:World) (xs:List Int) (cs:Array Value) (t:TypeId) (h:cs.toList=xs.map (fun n=>Value.int .i64 n)) (b:Nat) (hb:b=w.heap.size):RdL 1 intE (w.alloc (.cells cs t)) (w.alloc (.cells cs t)).heap.size (some ⟨b,0,none⟩) xs:=by
 subst hb
 intro k x hx
 refine ⟨_,_,rfl,by simp,fun j v hj=>?_⟩
 have hj0:j=0:=by
  have:=(List.getElem?_eq_some_iff.1 hj).1
  simp [intE] at this
  exact this
 subst hj0
 have hv:v=.int .i64 x:=by simpa [intE] using hj.symm
 subst hv
 unfold World.cell?
 simp only [heap_alloc_new]
 have:cs.toList[k]?=some (.int .i64 x):=by rw [h,List.getElem?_map,hx];rfl
 simpa using this
theorem tc1_any {B:Nat} (x:D2) (w:World) (hV:Vs B w) (hx:InInt x.a∧InInt x.b) :
  Calls Tryz.prog 88 #[D2.v x] w fun e w'=>e=.returned (.string (bs (encD2 x)))∧Below w.heap.size w w':=by
 have HV:=hid hV
 have HX:=hid hx
 clear hV hx
 go_enter Tryz.func88,Tryz.ntmps88
 go_wp2_with fail
 try go_quiet (fail)
 refine (stNums_any [x.a,x.b] _ 2 _ (HV.out.now (show Below w.heap.size w _ by repeat (first | with_reducible exact Below.refl _ _ | with_reducible assumption | with_reducible refine Below.drew ?_ | with_reducible refine Below.alloc ?_ (by first | omega | (simp;done) | (simp;omega)) _))) (rd_lit _ [x.a,x.b] _ _ rfl _ (by simp)) (fun y hy=>by
  have h:=HX.out
  simp only [List.mem_cons,List.not_mem_nil,or_false] at hy
  rcases hy with rfl | rfl
  ·exact h.1
  ·exact h.2) (by simp)).mono ?_
 rintro e w1 ⟨rfl,hb1⟩
 have hB:Below w.heap.size w w1:=Below.trans (by repeat (first | with_reducible exact Below.refl _ _ | with_reducible assumption | with_reducible refine Below.drew ?_ | with_reducible refine Below.alloc ?_ (by first | omega | (simp;done) | (simp;omega)) _)) (hb1.mono (by simp;try omega))
 have HB:=hid hB
 clear hB hb1
 go_wp2_with fail
 go_ret
 exact ⟨rfl,HB.out⟩
theorem tc3_any {B:Nat} (x:D4) (w:World) (hV:Vs B w) (hx:InInt x.a∧InInt x.b∧InInt x.c∧InInt x.d) :
  Calls Tryz.prog 97 #[D4.v x] w fun e w'=>e=.returned (.string (bs (encD4 x)))∧Below w.heap.size w w':=by
 have HV:=hid hV
 have HX:=hid hx
 clear hV hx
 go_enter Tryz.func97,Tryz.ntmps97
 go_wp2_with fail
 try go_quiet (fail)
 refine (stNums_any [x.a,x.b,x.c,x.d] _ 4 _ (HV.out.now (show Below w.heap.size w _ by repeat (first | with_reducible exact Below.refl _ _ | with_reducible assumption | with_reducible refine Below.drew ?_ | with_reducible refine Below.alloc ?_ (by first | omega | (simp;done) | (simp;omega)) _))) (rd_lit _ [x.a,x.b,x.c,x.d] _ _ rfl _ (by simp)) (fun y hy=>by
  have h:=HX.out
  simp only [List.mem_cons,List.not_mem_nil,or_false] at hy
  rcases hy with rfl | rfl | rfl | rfl
  ·exact h.1
  ·exact h.2.1
  ·exact h.2.2.1
  ·exact h.2.2.2) (by simp)).mono ?_
 rintro e w1 ⟨rfl,hb1⟩
 have hB:Below w.heap.size w w1:=Below.trans (by repeat (first | with_reducible exact Below.refl _ _ | with_reducible assumption | with_reducible refine Below.drew ?_ | with_reducible refine Below.alloc ?_ (by first | omega | (simp;done) | (simp;omega)) _)) (hb1.mono (by simp;try omega))
 have HB:=hid hB
 clear hB hb1
 go_wp2_with fail
 go_ret
 exact ⟨rfl,HB.out⟩
theorem tc4_any {B:Nat} (x:D3) (w:World) (hV:Vs B w) (hx:InInt x.a∧InInt x.b∧InInt x.c) :
  Calls Tryz.prog 99 #[D3.v x] w fun e w'=>e=.returned (.string (bs (encD3 x)))∧Below w.heap.size w w':=by
 have HV:=hid hV
 have HX:=hid hx
 clear hV hx
 go_enter Tryz.func99,Tryz.ntmps99
 go_wp2_with fail
 try go_quiet (fail)
 refine (stNums_any [x.a,x.b,x.c] _ 3 _ (HV.out.now (show Below w.heap.size w _ by repeat (first | with_reducible exact Below.refl _ _ | with_reducible assumption | with_reducible refine Below.drew ?_ | with_reducible refine Below.alloc ?_ (by first | omega | (simp;done) | (simp;omega)) _))) (rd_lit _ [x.a,x.b,x.c] _ _ rfl _ (by simp)) (fun y hy=>by
  have h:=HX.out
  simp only [List.mem_cons,List.not_mem_nil,or_false] at hy
  rcases hy with rfl | rfl | rfl
  ·exact h.1
  ·exact h.2.1
  ·exact h.2.2) (by simp)).mono ?_
 rintro e w1 ⟨rfl,hb1⟩
 have hB:Below w.heap.size w w1:=Below.trans (by repeat (first | with_reducible exact Below.refl _ _ | with_reducible assumption | with_reducible refine Below.drew ?_ | with_reducible refine Below.alloc ?_ (by first | omega | (simp;done) | (simp;omega)) _)) (hb1.mono (by simp;try omega))
 have HB:=hid hB
 clear hB hb1
 go_wp2_with fail
 go_ret
 exact ⟨rfl,HB.out⟩
theorem tc5_any {B:Nat} (x:D4) (w:World) (hV:Vs B w) (hx:InInt x.a∧InInt x.b∧InInt x.c∧InInt x.d) :
  Calls Tryz.prog 102 #[D4.v x] w fun e w'=>e=.returned (.string (bs (encD4 x)))∧Below w.heap.size w w':=by
 have HV:=hid hV
 have HX:=hid hx
 clear hV hx
 go_enter Tryz.func102,Tryz.ntmps102
 go_wp2_with fail
 try go_quiet (fail)
 refine (stNums_any [x.a,x.b,x.c,x.d] _ 4 _ (HV.out.now (show Below w.heap.size w _ by repeat (first | with_reducible exact Below.refl _ _ | with_reducible assumption | with_reducible refine Below.drew ?_ | with_reducible refine Below.alloc ?_ (by first | omega | (simp;done) | (simp;omega)) _))) (rd_lit _ [x.a,x.b,x.c,x.d] _ _ rfl _ (by simp)) (fun y hy=>by
  have h:=HX.out
  simp only [List.mem_cons,List.not_mem_nil,or_false] at hy
  rcases hy with rfl | rfl | rfl | rfl
  ·exact h.1
  ·exact h.2.1
  ·exact h.2.2.1
  ·exact h.2.2.2) (by simp)).mono ?_
 rintro e w1 ⟨rfl,hb1⟩
 have hB:Below w.heap.size w w1:=Below.trans (by repeat (first | with_reducible exact Below.refl _ _ | with_reducible assumption | with_reducible refine Below.drew ?_ | with_reducible refine Below.alloc ?_ (by first | omega | (simp;done) | (simp;omega)) _)) (hb1.mono (by simp;try omega))
 have HB:=hid hB
 clear hB hb1
 go_wp2_with fail
 go_ret
 exact ⟨rfl,HB.out⟩
theorem tc6_any {B:Nat} (x:D3) (w:World) (hV:Vs B w) (hx:InInt x.a∧InInt x.b∧InInt x.c) :
  Calls Tryz.prog 104 #[D3.v x] w fun e w'=>e=.returned (.string (bs (encD3 x)))∧Below w.heap.size w w':=by
 have HV:=hid hV
 have HX:=hid hx
 clear hV hx
 go_enter Tryz.func104,Tryz.ntmps104
 go_wp2_with fail
 try go_quiet (fail)
 refine (stNums_any [x.a,x.b,x.c] _ 3 _ (HV.out.now (show Below w.heap.size w _ by repeat (first | with_reducible exact Below.refl _ _ | with_reducible assumption | with_reducible refine Below.drew ?_ | with_reducible refine Below.alloc ?_ (by first | omega | (simp;done) | (simp;omega)) _))) (rd_lit _ [x.a,x.b,x.c] _ _ rfl _ (by simp)) (fun y hy=>by
  have h:=HX.out
  simp only [List.mem_cons,List.not_mem_nil,or_false] at hy
  rcases hy with rfl | rfl | rfl
  ·exact h.1
  ·exact h.2.1
  ·exact h.2.2) (by simp)).mono ?_
 rintro e w1 ⟨rfl,hb1⟩
 have hB:Below w.heap.size w w1:=Below.trans (by repeat (first | with_reducible exact Below.refl _ _ | with_reducible assumption | with_reducible refine Below.drew ?_ | with_reducible refine Below.alloc ?_ (by first | omega | (simp;done) | (simp;omega)) _)) (hb1.mono (by simp;try omega))
 have HB:=hid hB
 clear hB hb1
 go_wp2_with fail
 go_ret
 exact ⟨rfl,HB.out⟩
theorem tc10_any {B:Nat} (x:D4) (w:World) (hV:Vs B w) (hx:InInt x.a∧InInt x.b∧InInt x.c∧InInt x.d) :
  Calls Tryz.prog 116 #[D4.v x] w fun e w'=>e=.returned (.string (bs (encD4 x)))∧Below w.heap.size w w':=by
 have HV:=hid hV
 have HX:=hid hx
 clear hV hx
 go_enter Tryz.func116,Tryz.ntmps116
 go_wp2_with fail
 try go_quiet (fail)
 refine (stNums_any [x.a,x.b,x.c,x.d] _ 4 _ (HV.out.now (show Below w.heap.size w _ by repeat (first | with_reducible exact Below.refl _ _ | with_reducible assumption | with_reducible refine Below.drew ?_ | with_reducible refine Below.alloc ?_ (by first | omega | (simp;done) | (simp;omega)) _))) (rd_lit _ [x.a,x.b,x.c,x.d] _ _ rfl _ (by simp)) (fun y hy=>by
  have h:=HX.out
  simp only [List.mem_cons,List.not_mem_nil,or_false] at hy
  rcases hy with rfl | rfl | rfl | rfl
  ·exact h.1
  ·exact h.2.1
  ·exact h.2.2.1
  ·exact h.2.2.2) (by simp)).mono ?_
 rintro e w1 ⟨rfl,hb1⟩
 have hB:Below w.heap.size w w1:=Below.trans (by repeat (first | with_reducible exact Below.refl _ _ | with_reducible assumption | with_reducible refine Below.drew ?_ | with_reducible refine Below.alloc ?_ (by first | omega | (simp;done) | (simp;omega)) _)) (hb1.mono (by simp;try omega))
 have HB:=hid hB
 clear hB hb1
 go_wp2_with fail
 go_ret
 exact ⟨rfl,HB.out⟩
theorem tc11_any {B:Nat} (x:D3) (w:World) (hV:Vs B w) (hx:InInt x.a∧InInt x.b∧InInt x.c) :
  Calls Tryz.prog 118 #[D3.v x] w fun e w'=>e=.returned (.string (bs (encD3 x)))∧Below w.heap.size w w':=by
 have HV:=hid hV
 have HX:=hid hx
 clear hV hx
 go_enter Tryz.func118,Tryz.ntmps118
 go_wp2_with fail
 try go_quiet (fail)
 refine (stNums_any [x.a,x.b,x.c] _ 3 _ (HV.out.now (show Below w.heap.size w _ by repeat (first | with_reducible exact Below.refl _ _ | with_reducible assumption | with_reducible refine Below.drew ?_ | with_reducible refine Below.alloc ?_ (by first | omega | (simp;done) | (simp;omega)) _))) (rd_lit _ [x.a,x.b,x.c] _ _ rfl _ (by simp)) (fun y hy=>by
  have h:=HX.out
  simp only [List.mem_cons,List.not_mem_nil,or_false] at hy
  rcases hy with rfl | rfl | rfl
  ·exact h.1
  ·exact h.2.1
  ·exact h.2.2) (by simp)).mono ?_
 rintro e w1 ⟨rfl,hb1⟩
 have hB:Below w.heap.size w w1:=Below.trans (by repeat (first | with_reducible exact Below.refl _ _ | with_reducible assumption | with_reducible refine Below.drew ?_ | with_reducible refine Below.alloc ?_ (by first | omega | (simp;done) | (simp;omega)) _)) (hb1.mono (by simp;try omega))
 have HB:=hid hB
 clear hB hb1
 go_wp2_with fail
 go_ret
 exact ⟨rfl,HB.out⟩
abbrev E5.arr (x:E5):Array Value:=#[.int .i64 x.a,.int .i64 x.b,.int .i64 x.c,.int .i64 x.d,.bool x.t]
abbrev E3.arr (x:E3):Array Value:=#[.int .i64 x.a,.int .i64 x.b,.bool x.t]
abbrev D4.arr (x:D4):Array Value:=#[.int .i64 x.a,.int .i64 x.b,.int .i64 x.c,.int .i64 x.d]
theorem E5.cells {w:World} {b:Nat} {t:TypeId} {x:E5} (h:w.heap[b]?=some (.cells x.arr t (0,0))):w.cell? ⟨b,0,none⟩=some (.int .i64 x.a)∧w.cell? ⟨b,1,none⟩=some (.int .i64 x.b)∧w.cell? ⟨b,2,none⟩=some (.int .i64 x.c)∧w.cell? ⟨b,3,none⟩=some (.int .i64 x.d)∧w.cell? ⟨b,4,none⟩=some (.bool x.t) :=
 ⟨box_cell h 0 _ rfl,box_cell h 1 _ rfl,box_cell h 2 _ rfl,box_cell h 3 _ rfl,box_cell h 4 _ rfl⟩
theorem E3.cells {w:World} {b:Nat} {t:TypeId} {x:E3} (h:w.heap[b]?=some (.cells x.arr t (0,0))):w.cell? ⟨b,0,none⟩=some (.int .i64 x.a)∧w.cell? ⟨b,1,none⟩=some (.int .i64 x.b)∧w.cell? ⟨b,2,none⟩=some (.bool x.t) :=
 ⟨box_cell h 0 _ rfl,box_cell h 1 _ rfl,box_cell h 2 _ rfl⟩
theorem D4.cells {w:World} {b:Nat} {t:TypeId} {x:D4} (h:w.heap[b]?=some (.cells x.arr t (0,0))):w.cell? ⟨b,0,none⟩=some (.int .i64 x.a)∧w.cell? ⟨b,1,none⟩=some (.int .i64 x.b)∧w.cell? ⟨b,2,none⟩=some (.int .i64 x.c)∧w.cell? ⟨b,3,none⟩=some (.int .i64 x.d) :=
 ⟨box_cell h 0 _ rfl,box_cell h 1 _ rfl,box_cell h 2 _ rfl,box_cell h 3 _ rfl⟩
theorem stNoteC_any {B:Nat} (x:E5) (w:World) (hV:Vs B w) (hx:InInt x.a∧InInt x.b∧InInt x.c∧InInt x.d) :
  Calls Tryz.prog 108 #[E5.v x] w fun e w'=>e=.returned (.string (bs (encE5 x)))∧Below w.heap.size w w':=by
 have HX:=hid hx
 clear hx
 go_enter Tryz.func108,Tryz.ntmps108
 go_upto_region 1 with fail
 have hb0:Below w.heap.size w (w.alloc (.cells x.arr 59)):=by repeat (first | with_reducible exact Below.refl _ _ | with_reducible assumption | with_reducible refine Below.drew ?_ | with_reducible refine Below.alloc ?_ (by first | omega | (simp;done) | (simp;omega)) _)
 have hx0:(w.alloc (.cells x.arr 59)).heap[w.heap.size]?=some (.cells x.arr 59 (0,0)):=(MapKept.heap_alloc w _).1
 have HB0:=hid hb0
 have HX0:=hid hx0
 have HV:=hid (hV.now hb0)
 clear hb0 hx0 hV
 change Code.wp _ _ _ _ (w.alloc (.cells x.arr 59))
 generalize w.alloc (.cells x.arr 59)=wb at *
 obtain ⟨bx,hbx⟩:∃ bx,bx=w.heap.size:=⟨_,rfl⟩
 rw [← hbx] at HX0 ⊢
 clear hbx
 have HC:=hid (fun wq (h:Below wb.heap.size wb wq)=>E5.cells ((h.block _ (box_lt HX0.out)).trans HX0.out))
 refine wp_region_below [(10,fun _=>.int .i64 (bitI x.t),fun _ _=>True),(11,fun g=>.slice (some ⟨g.2,0,none⟩) 5 5,fun g w'=>RdL 1 intE w' w'.heap.size (some ⟨g.2,0,none⟩) [x.a,x.b,x.c,x.d,bitI x.t]),(12,fun _=>.string (bs (encE5 x)),fun _ _=>True)] (by kernel_rfl) (by kernel_rfl) (by repeat (first | exact trivial | refine ⟨fun g wa wb hs hs' ht h=>by first | exact trivial | exact h.now ht | exact h.below ht | exact ht.cell h | exact h,?_⟩)) ?_
 rw [List.toList_toArray]
 repeat (first
  | (refine DetE.skip (by rfl) ?_;simp only [Act.put,sA,sB,sC])
  | (refine DetE.read (v:=?_) (by rfl) (by rfl) ?_ ?_;rotate_left;(· (intro wq hSq hkq;obtain ⟨q0,q1,q2,q3,q4⟩:=HC.out _ hSq;go_simp;try with_reducible rfl));simp only [Act.put,sA,sB,sC])
  | fail)
 refine DetE.eff _ _ (by rfl) (by rfl) (fun wq hSq hkq K hK=>?_) (fun g2=>?_)
 ·go_simp
  refine ((stBit_any x.t wq)).mono ?_
  rintro e4 w4 ⟨rfl,rfl⟩
  go_wp2_with fail
  exact hK.out ((none,0)) _ hSq (Below.refl _ _) (trivial) _ rfl
 simp only [Act.put,sA,sB,sC]
 refine DetE.eff _ _ (by rfl) (by rfl) (fun wq hSq hkq K hK=>?_) (fun g9=>?_)
 ·go_simp
  have hb4:=fun o=>(Below.refl wq.heap.size wq).alloc (Nat.le_refl _) o
  exact hK.out ((none,wq.heap.size)) _ (hSq.trans ((hb4 _).mono hSq.size)) (hb4 _) (rd_lit wq [x.a,x.b,x.c,x.d,bitI x.t] _ _ rfl _ rfl) _ rfl
 simp only [Act.put,sA,sB,sC]
 have hall:∀ y∈[x.a,x.b,x.c,x.d,bitI x.t],InInt y:=fun y hy=>by
  have h:=HX.out
  simp only [List.mem_cons,List.not_mem_nil,or_false] at hy
  rcases hy with rfl | rfl | rfl | rfl | rfl
  ·exact h.1
  ·exact h.2.1
  ·exact h.2.2.1
  ·exact h.2.2.2
  ·cases x.t <;> exact ⟨by decide,by decide⟩
 have HAll:=hid hall
 clear hall
 refine DetE.eff _ _ (by rfl) (by rfl) (fun wq hSq hkq K hK=>?_) (fun g10=>?_)
 ·go_simp
  refine (stNums_any [x.a,x.b,x.c,x.d,bitI x.t] (some ⟨g9.2,0,none⟩) 5 wq (HV.out.now hSq) (hkq 11 _ rfl (by kernel_rfl)) HAll.out (by simp)).mono ?_
  rintro e4 w4 ⟨rfl,hb4⟩
  go_wp2_with fail
  exact hK.out ((none,0)) _ (hSq.trans (hb4.mono hSq.size)) hb4 (trivial) _ rfl
 simp only [Act.put,sA,sB,sC]
 repeat (first
  | (refine DetE.skip (by rfl) ?_;simp only [Act.put,sA,sB,sC])
  | (refine DetE.read (v:=?_) (by rfl) (by rfl) ?_ ?_;rotate_left;(· (intro wq hSq hkq;skip;go_simp;try with_reducible rfl));simp only [Act.put,sA,sB,sC])
  | fail)
 refine DetE.done fun wz hz hkz=>?_
 go_wp2
 go_ret
 exact ⟨rfl,HB0.out.trans (hz.mono HB0.out.size)⟩
theorem tc8_any {B:Nat} (x:E3) (w:World) (hV:Vs B w) (hx:InInt x.a∧InInt x.b) :
  Calls Tryz.prog 110 #[E3.v x] w fun e w'=>e=.returned (.string (bs (encE3 x)))∧Below w.heap.size w w':=by
 have HX:=hid hx
 clear hx
 go_enter Tryz.func110,Tryz.ntmps110
 go_upto_region 1 with fail
 have hb0:Below w.heap.size w (w.alloc (.cells x.arr 99)):=by repeat (first | with_reducible exact Below.refl _ _ | with_reducible assumption | with_reducible refine Below.drew ?_ | with_reducible refine Below.alloc ?_ (by first | omega | (simp;done) | (simp;omega)) _)
 have hx0:(w.alloc (.cells x.arr 99)).heap[w.heap.size]?=some (.cells x.arr 99 (0,0)):=(MapKept.heap_alloc w _).1
 have HB0:=hid hb0
 have HX0:=hid hx0
 have HV:=hid (hV.now hb0)
 clear hb0 hx0 hV
 change Code.wp _ _ _ _ (w.alloc (.cells x.arr 99))
 generalize w.alloc (.cells x.arr 99)=wb at *
 obtain ⟨bx,hbx⟩:∃ bx,bx=w.heap.size:=⟨_,rfl⟩
 rw [← hbx] at HX0 ⊢
 clear hbx
 have HC:=hid (fun wq (h:Below wb.heap.size wb wq)=>E3.cells ((h.block _ (box_lt HX0.out)).trans HX0.out))
 refine wp_region_below [(6,fun _=>.int .i64 (bitI x.t),fun _ _=>True),(7,fun g=>.slice (some ⟨g.2,0,none⟩) 3 3,fun g w'=>RdL 1 intE w' w'.heap.size (some ⟨g.2,0,none⟩) [x.a,x.b,bitI x.t]),(8,fun _=>.string (bs (encE3 x)),fun _ _=>True)] (by kernel_rfl) (by kernel_rfl) (by repeat (first | exact trivial | refine ⟨fun g wa wb hs hs' ht h=>by first | exact trivial | exact h.now ht | exact h.below ht | exact ht.cell h | exact h,?_⟩)) ?_
 rw [List.toList_toArray]
 repeat (first
  | (refine DetE.skip (by rfl) ?_;simp only [Act.put,sA,sB,sC])
  | (refine DetE.read (v:=?_) (by rfl) (by rfl) ?_ ?_;rotate_left;(· (intro wq hSq hkq;obtain ⟨q0,q1,q2⟩:=HC.out _ hSq;go_simp;try with_reducible rfl));simp only [Act.put,sA,sB,sC])
  | fail)
 refine DetE.eff _ _ (by rfl) (by rfl) (fun wq hSq hkq K hK=>?_) (fun g2=>?_)
 ·go_simp
  refine ((stBit_any x.t wq)).mono ?_
  rintro e4 w4 ⟨rfl,rfl⟩
  go_wp2_with fail
  exact hK.out ((none,0)) _ hSq (Below.refl _ _) (trivial) _ rfl
 simp only [Act.put,sA,sB,sC]
 refine DetE.eff _ _ (by rfl) (by rfl) (fun wq hSq hkq K hK=>?_) (fun g9=>?_)
 ·go_simp
  have hb4:=fun o=>(Below.refl wq.heap.size wq).alloc (Nat.le_refl _) o
  exact hK.out ((none,wq.heap.size)) _ (hSq.trans ((hb4 _).mono hSq.size)) (hb4 _) (rd_lit wq [x.a,x.b,bitI x.t] _ _ rfl _ rfl) _ rfl
 simp only [Act.put,sA,sB,sC]
 have hall:∀ y∈[x.a,x.b,bitI x.t],InInt y:=fun y hy=>by
  have h:=HX.out
  simp only [List.mem_cons,List.not_mem_nil,or_false] at hy
  rcases hy with rfl | rfl | rfl
  ·exact h.1
  ·exact h.2
  ·cases x.t <;> exact ⟨by decide,by decide⟩
 have HAll:=hid hall
 clear hall
 refine DetE.eff _ _ (by rfl) (by rfl) (fun wq hSq hkq K hK=>?_) (fun g10=>?_)
 ·go_simp
  refine (stNums_any [x.a,x.b,bitI x.t] (some ⟨g9.2,0,none⟩) 3 wq (HV.out.now hSq) (hkq 7 _ rfl (by kernel_rfl)) HAll.out (by simp)).mono ?_
  rintro e4 w4 ⟨rfl,hb4⟩
  go_wp2_with fail
  exact hK.out ((none,0)) _ (hSq.trans (hb4.mono hSq.size)) hb4 (trivial) _ rfl
 simp only [Act.put,sA,sB,sC]
 repeat (first
  | (refine DetE.skip (by rfl) ?_;simp only [Act.put,sA,sB,sC])
  | (refine DetE.read (v:=?_) (by rfl) (by rfl) ?_ ?_;rotate_left;(· (intro wq hSq hkq;skip;go_simp;try with_reducible rfl));simp only [Act.put,sA,sB,sC])
  | fail)
 refine DetE.done fun wz hz hkz=>?_
 go_wp2
 go_ret
 exact ⟨rfl,HB0.out.trans (hz.mono HB0.out.size)⟩
theorem tc9_any {B:Nat} (x:D4) (w:World) (hV:Vs B w) (hx:InInt x.a∧InInt x.b∧InInt x.c∧InInt x.d) :
  Calls Tryz.prog 113 #[D4.v x] w fun e w'=>e=.returned (.string (bs (encH x)))∧Below w.heap.size w w':=by
 have HX:=hid hx
 clear hx
 go_enter Tryz.func113,Tryz.ntmps113
 go_upto_region 1 with fail
 have hb0:Below w.heap.size w (w.alloc (.cells x.arr 103)):=by repeat (first | with_reducible exact Below.refl _ _ | with_reducible assumption | with_reducible refine Below.drew ?_ | with_reducible refine Below.alloc ?_ (by first | omega | (simp;done) | (simp;omega)) _)
 have hx0:(w.alloc (.cells x.arr 103)).heap[w.heap.size]?=some (.cells x.arr 103 (0,0)):=(MapKept.heap_alloc w _).1
 have HB0:=hid hb0
 have HX0:=hid hx0
 have HV:=hid (hV.now hb0)
 clear hb0 hx0 hV
 change Code.wp _ _ _ _ (w.alloc (.cells x.arr 103))
 generalize w.alloc (.cells x.arr 103)=wb at *
 obtain ⟨bx,hbx⟩:∃ bx,bx=w.heap.size:=⟨_,rfl⟩
 rw [← hbx] at HX0 ⊢
 clear hbx
 have HC:=hid (fun wq (h:Below wb.heap.size wb wq)=>D4.cells ((h.block _ (box_lt HX0.out)).trans HX0.out))
 have hall:∀ y∈[x.a,x.b,x.c],InInt y:=fun y hy=>by
  have h:=HX.out
  simp only [List.mem_cons,List.not_mem_nil,or_false] at hy
  rcases hy with rfl | rfl | rfl
  ·exact h.1
  ·exact h.2.1
  ·exact h.2.2.1
 have hl1:=numsL_len _ hall
 have hl2:=encI_len x.d HX.out.2.2.2
 have HAll:=hid hall
 have HE:Hid (encH x=numsL [x.a,x.b,x.c]++encI x.d):=hid rfl
 clear hall
 simp only [List.length_cons,List.length_nil] at hl1
 refine wp_region_below [(6,fun g=>.slice (some ⟨g.2,0,none⟩) 3 3,fun g w'=>RdL 1 intE w' w'.heap.size (some ⟨g.2,0,none⟩) [x.a,x.b,x.c]),(7,fun _=>.string (bs (numsL [x.a,x.b,x.c])),fun _ _=>True),(10,fun _=>.string (bs (encI x.d)),fun _ _=>True)] (by kernel_rfl) (by kernel_rfl) (by repeat (first | exact trivial | refine ⟨fun g wa wb hs hs' ht h=>by first | exact trivial | exact h.now ht | exact h.below ht | exact ht.cell h | exact h,?_⟩)) ?_
 rw [List.toList_toArray]
 repeat (first
  | (refine DetE.cat (by rfl) (by rfl) rfl Tryz.underlying9 rfl rfl (by first | omega | (simp;done) | (simp;omega) | (simp only [List.length_append,List.length_cons,List.length_nil];omega)) ?_;simp only [Act.put,sA,sB,sC])
  | (refine DetE.read (v:=?_) (by rfl) (by rfl) ?_ ?_;rotate_left;(· (intro wq hSq hkq;obtain ⟨q0,q1,q2,q3⟩:=HC.out _ hSq;go_simp;try with_reducible rfl));simp only [Act.put,sA,sB,sC])
  | fail)
 refine DetE.eff _ _ (by rfl) (by rfl) (fun wq hSq hkq K hK=>?_) (fun g9=>?_)
 ·go_simp
  have hb4:=fun o=>(Below.refl wq.heap.size wq).alloc (Nat.le_refl _) o
  exact hK.out ((none,wq.heap.size)) _ (hSq.trans ((hb4 _).mono hSq.size)) (hb4 _) (rd_lit wq [x.a,x.b,x.c] _ _ rfl _ rfl) _ rfl
 simp only [Act.put,sA,sB,sC]
 refine DetE.eff _ _ (by rfl) (by rfl) (fun wq hSq hkq K hK=>?_) (fun g10=>?_)
 ·go_simp
  refine (stNums_any [x.a,x.b,x.c] (some ⟨g9.2,0,none⟩) 3 wq (HV.out.now hSq) (hkq 6 _ rfl (by kernel_rfl)) HAll.out (by simp)).mono ?_
  rintro e4 w4 ⟨rfl,hb4⟩
  go_wp2_with fail
  exact hK.out ((none,0)) _ (hSq.trans (hb4.mono hSq.size)) hb4 (trivial) _ rfl
 simp only [Act.put,sA,sB,sC]
 repeat (first
  | (refine DetE.cat (by rfl) (by rfl) rfl Tryz.underlying9 rfl rfl (by first | omega | (simp;done) | (simp;omega) | (simp only [List.length_append,List.length_cons,List.length_nil];omega)) ?_;simp only [Act.put,sA,sB,sC])
  | (refine DetE.read (v:=?_) (by rfl) (by rfl) ?_ ?_;rotate_left;(· (intro wq hSq hkq;obtain ⟨q0,q1,q2,q3⟩:=HC.out _ hSq;go_simp;try with_reducible rfl));simp only [Act.put,sA,sB,sC])
  | fail)
 refine DetE.eff _ _ (by rfl) (by rfl) (fun wq hSq hkq K hK=>?_) (fun g11=>?_)
 ·go_simp
  refine (wInt_any x.d wq (HV.out.now hSq) HX.out.2.2.2).mono ?_
  rintro e4 w4 ⟨rfl,hb4⟩
  go_wp2_with fail
  exact hK.out ((none,0)) _ (hSq.trans (hb4.mono hSq.size)) hb4 (trivial) _ rfl
 simp only [Act.put,sA,sB,sC]
 repeat (first
  | (refine DetE.cat (by rfl) (by rfl) rfl Tryz.underlying9 rfl rfl (by first | omega | (simp;done) | (simp;omega) | (simp only [List.length_append,List.length_cons,List.length_nil];omega)) ?_;simp only [Act.put,sA,sB,sC])
  | (refine DetE.read (v:=?_) (by rfl) (by rfl) ?_ ?_;rotate_left;(· (intro wq hSq hkq;skip;go_simp;try with_reducible rfl));simp only [Act.put,sA,sB,sC])
  | fail)
 refine DetE.done fun wz hz hkz=>?_
 go_wp2
 go_ret
 exact ⟨ret_str (by rw [HE.out]),HB0.out.trans (hz.mono HB0.out.size)⟩
theorem tc2_any {B:Nat} (x:EvL) (w:World) (hV:Vs B w) (hx:EvLOk w w.heap.size x) :
  Calls Tryz.prog 93 #[x.v] w fun e w'=>e=.returned (.string (bs (encEv x.ev)))∧Below w.heap.size w w':=by
 have hb0:Below w.heap.size w (w.alloc (.cells (x.ev.cs x.cA x.cc x.fA x.fc) 56)):=by repeat (first | with_reducible exact Below.refl _ _ | with_reducible assumption | with_reducible refine Below.drew ?_ | with_reducible refine Below.alloc ?_ (by first | omega | (simp;done) | (simp;omega)) _)
 have hx0:(w.alloc (.cells (x.ev.cs x.cA x.cc x.fA x.fc) 56)).rangeAt w.heap.size 0 (x.ev.cs x.cA x.cc x.fA x.fc).toList:=range_block (MapKept.heap_alloc w _).1 rfl
 have HB0:=hid hb0
 have HX0:=hid hx0
 have HV:=hid (hV.now hb0)
 have HO:=hid (hx.now hb0)
 clear hb0 hx0 hV hx
 go_enter Tryz.func93,Tryz.ntmps93
 go_upto_region 1 with fail
 generalize w.alloc (.cells (x.ev.cs x.cA x.cc x.fA x.fc) 56)=wb at *
 go_wp2_with (first
  | ((with_reducible show wpList _ _ _ (Oper.mk _ (Op.load 56 _) _ _ _ _::_) _ _);refine wpList_load_g rfl 56 (.tmp 1) rfl w.heap.size 0 rfl (x.ev.cs x.cA x.cc x.fA x.fc).toList _ HX0.out Tryz.underlying56 rfl (by kernel_rfl) ?_)
  | fail)
 refine (evText_any x wb HV.out HO.out).mono ?_
 rintro e w1 ⟨rfl,hb1⟩
 have HV1:=hid (HV.out.now hb1)
 have HB1:=hid (HB0.out.trans (hb1.mono HB0.out.size))
 have hl:=textE_len x.ev
 have HE:Hid (encEv x.ev=encT (textE x.ev)):=hid rfl
 clear hb1
 generalize textE x.ev=tx at *
 go_wp2_with fail
 refine (wText_any tx w1 HV1.out (by omega)).mono ?_
 rintro e w2 ⟨rfl,hb2⟩
 have HB2:=hid (HB1.out.trans (hb2.mono HB1.out.size))
 clear hb2
 go_wp2_with fail
 go_ret
 exact ⟨ret_str HE.out.symm,HB2.out⟩
def E5.wf4 (x:E5):Prop:=InInt x.a∧InInt x.b∧InInt x.c∧InInt x.d
theorem encE5_len (x:E5) (h:E5.wf4 x):(encE5 x).length≤110:=by
 have:=numsL_len [x.a,x.b,x.c,x.d,bitI x.t] (fun y hy=>by
  simp only [List.mem_cons,List.not_mem_nil,or_false] at hy
  rcases hy with rfl | rfl | rfl | rfl | rfl
  ·exact h.1
  ·exact h.2.1
  ·exact h.2.2.1
  ·exact h.2.2.2
  ·cases x.t <;> exact ⟨by decide,by decide⟩)
 simpa [encE5] using this
theorem tc7_any {B:Nat} (x:NL) (w:World) (hV:Vs B w) (hr:RdL 5 E5.cs w w.heap.size x.A x.l) (hx:∀ y∈x.l,E5.wf4 y) (hl:x.l.length≤1000) :
  Calls Tryz.prog 106 #[x.v] w fun e w'=>e=.returned (.string (bs (lstE encE5 x.l)))∧Below w.heap.size w w':=by
 have HV:=hid hV
 have HC:=hid (liNote_any x.l encE5 ⟨108,#[],#[]⟩ x.A x.c w hV hr (by omega) (by have:=flat_bound encE5 110 x.l (fun y hy=>encE5_len y (hx y hy));omega)
  ⟨fun args w'=>enter_fn Tryz.func108 (by kernel_rfl) rfl args w',fun y hy w2 h2=>stNoteC_any y w2 (hV.now h2) (hx y hy)⟩)
 clear hV hr hx hl
 go_enter Tryz.func106,Tryz.ntmps106
 go_wp2_with fail
 refine HC.out.mono ?_
 rintro e w1 ⟨rfl,hb1⟩
 go_wp2_with fail
 go_ret
 exact ⟨rfl,hb1⟩
end Go.Proofs.YthlpehhlhebhbaaGreatDoor
