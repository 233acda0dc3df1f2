/- Contracts and plain laws, joined: StD, StE, StF, StG, StH. -/
import Derived.Test.YthlpehhlhebhbaaGreatDoorQao
import Derived.Test.YthlpehhlhebhbaaGreatDoorQaf
import Derived.Test.YthlpehhlhebhbaaGreatDoorQal
import Derived.Deep.DeepCutAuto
import Derived.Deep.CutBlock
import Derived.Test.YthlpehhlhebhbaaGreatDoorQaj
/- state.once at Waiting,Sent,Debt (written by genstd.py). -/
set_option linter.unusedSimpArgs false
set_option linter.unusedVariables false
namespace Go.Proofs.YthlpehhlhebhbaaGreatDoor
set_option maxHeartbeats 4000000
open Lib (hid)
open Go.RowKit
set_option maxRecDepth 100000
theorem rd_take {T:Type} {sz:Nat} {enc:T→List Value} {w:World} {B:Nat} {A:Option Addr} {xs:List T} (h:RdL sz enc w B A xs) (k:Nat):RdL sz enc w B A (xs.take k):=fun j x hx=>by
 refine h j x ?_
 rw [List.getElem?_take] at hx
 split at hx
 ·exact hx
 ·cases hx
theorem eqlDebt (x y:D2) (w:World):(binOp .eql 48 (.agg #[.int .i64 x.a,.int .i64 x.b]) (.agg #[.int .i64 y.a,.int .i64 y.b])).run Tryz.prog w=.ok (.bool (decide (x=y))) w:=by
 obtain ⟨a,b⟩:=x
 obtain ⟨c,d⟩:=y
 by_cases h0:a=c <;> by_cases h1:b=d <;> simp [go_sem,h0,h1]
theorem nodup_take {T U:Type} [DecidableEq U] (of:T→U) (xs:List T) (k:Nat) (hk:k<xs.length) (h:((xs.take k).map of).Nodup) (hn:(xs.take k).any (fun y=>decide (of y=of xs[k]))=false):((xs.take (k+1)).map of).Nodup:=by
 rw [List.take_succ_eq_append_getElem hk,List.map_append,List.nodup_append]
 refine ⟨h,by simp,fun a ha b hb e=>?_⟩
 rw [List.any_eq_false] at hn
 obtain ⟨y,hy,rfl⟩:=List.mem_map.1 ha
 simp only [List.map_cons,List.map_nil,List.mem_singleton] at hb
 subst hb
 exact hn y hy (by simpa using e)
theorem nodup_not {T U:Type} [DecidableEq U] (of:T→U) (xs:List T) (k:Nat) (hk:k<xs.length) (hn:(xs.take k).any (fun y=>decide (of y=of xs[k]))=true):¬ (xs.map of).Nodup:=by
 intro h
 obtain ⟨y,hy,e⟩:=List.any_eq_true.1 hn
 have e':of y=of xs[k]:=by simpa using e
 obtain ⟨j,hj,rfl⟩:=List.getElem_of_mem hy
 rw [List.length_take] at hj
 rw [List.getElem_take] at e'
 exact (List.pairwise_iff_getElem.1 h) j k (by simp;omega) (by simp;omega) (by omega) (by simpa using e')
structure FunD {T:Type} (w:World) (f:FV) (xs:List T) (vx:T→Value) (of:T→D2):Prop where
 ent:∀ args w',(callFunc f.n args).run Tryz.prog w'=.ok (.enter f.n args) w'
 run:∀ x∈xs,∀ w',Below w.heap.size w w'→Calls Tryz.prog f.n (f.bnd++#[vx x]++f.cap) w' fun e w''=>e=.returned (.agg #[.int .i64 (of x).a,.int .i64 (of x).b])∧Below w'.heap.size w' w''
theorem FunD.now {T:Type} {w w':World} {f:FV} {xs:List T} {vx:T→Value} {of:T→D2} (h:FunD w f xs vx of) (hb:Below w.heap.size w w'):FunD w' f xs vx of :=
 ⟨h.ent,fun x hx w2 h2=>h.run x hx w2 (hb.trans (h2.mono hb.size))⟩
def keyWaiting (x:D4):D2:=⟨x.a,x.b⟩
theorem cloc4_any (x:D4) (w:World):Calls Tryz.prog 181 #[.agg #[.int .i64 x.a,.int .i64 x.b,.int .i64 x.c,.int .i64 x.d]] w fun e w'=>e=.returned (.agg #[.int .i64 (keyWaiting x).a,.int .i64 (keyWaiting x).b])∧Below w.heap.size w w':=by
 go_enter Tryz.func181,Tryz.ntmps181
 go_wp2_with fail
 refine bodyPost_ret (v:=.agg #[.int .i64 x.a,.int .i64 x.b]) (by simp [results,Tryz.results181,go_sem]) rfl ?_
 exact ⟨rfl,by repeat (first | with_reducible exact Below.refl _ _ | with_reducible assumption | with_reducible refine Below.drew ?_ | with_reducible refine Below.alloc ?_ (by first | omega | (simp;done) | (simp;omega)) _)⟩
theorem oncWaiting_any (x y:D4) (of:D4→D2) (f:FV) (b bx:Nat) (w:World) (hc:w.cell? ⟨b,0,none⟩=some (.func (.func f.n) f.bnd f.cap)) (hl:b<w.heap.size) (hx:∀ wq,Below w.heap.size w wq→wq.cell? ⟨bx,0,none⟩=some (.int .i64 x.a)∧wq.cell? ⟨bx,1,none⟩=some (.int .i64 x.b)∧wq.cell? ⟨bx,2,none⟩=some (.int .i64 x.c)∧wq.cell? ⟨bx,3,none⟩=some (.int .i64 x.d)) (hlx:bx<w.heap.size)
  (he:∀ args w',(callFunc f.n args).run Tryz.prog w'=.ok (.enter f.n args) w')
  (hf:∀ z,z=x∨z=y→∀ w',Below w.heap.size w w'→Calls Tryz.prog f.n (f.bnd++#[D4.v z]++f.cap) w' fun e w''=>e=.returned (.agg #[.int .i64 (of z).a,.int .i64 (of z).b])∧Below w'.heap.size w' w'') :
  Calls Tryz.prog 240 #[.agg #[.int .i64 y.a,.int .i64 y.b,.int .i64 y.c,.int .i64 y.d],.pointer (some ⟨b,0,none⟩),.pointer (some ⟨bx,0,none⟩)] w fun e w'=>e=.returned (.bool (decide (of y=of x)))∧Below w.heap.size w w':=by
 have hb0:Below w.heap.size w (w.alloc (.cells #[.int .i64 y.a,.int .i64 y.b,.int .i64 y.c,.int .i64 y.d] 61)):=by repeat (first | with_reducible exact Below.refl _ _ | with_reducible assumption | with_reducible refine Below.drew ?_ | with_reducible refine Below.alloc ?_ (by first | omega | (simp;done) | (simp;omega)) _)
 have HX:=hid (fun wq (h:Below (w.alloc (.cells #[.int .i64 y.a,.int .i64 y.b,.int .i64 y.c,.int .i64 y.d] 61)).heap.size (w.alloc (.cells #[.int .i64 y.a,.int .i64 y.b,.int .i64 y.c,.int .i64 y.d] 61)) wq)=>hx wq (hb0.trans (h.mono hb0.size)))
 have HY:=hid (fun wq (h:Below (w.alloc (.cells #[.int .i64 y.a,.int .i64 y.b,.int .i64 y.c,.int .i64 y.d] 61)).heap.size (w.alloc (.cells #[.int .i64 y.a,.int .i64 y.b,.int .i64 y.c,.int .i64 y.d] 61)) wq)=>show wq.cell? ⟨w.heap.size,0,none⟩=some (.int .i64 y.a)∧wq.cell? ⟨w.heap.size,1,none⟩=some (.int .i64 y.b)∧wq.cell? ⟨w.heap.size,2,none⟩=some (.int .i64 y.c)∧wq.cell? ⟨w.heap.size,3,none⟩=some (.int .i64 y.d) from ⟨(h.cell (p:=⟨w.heap.size,0,none⟩) (by simp)).trans (by simp),(h.cell (p:=⟨w.heap.size,1,none⟩) (by simp)).trans (by simp),(h.cell (p:=⟨w.heap.size,2,none⟩) (by simp)).trans (by simp),(h.cell (p:=⟨w.heap.size,3,none⟩) (by simp)).trans (by simp)⟩)
 have HC:=hid (fun wq (h:Below (w.alloc (.cells #[.int .i64 y.a,.int .i64 y.b,.int .i64 y.c,.int .i64 y.d] 61)).heap.size (w.alloc (.cells #[.int .i64 y.a,.int .i64 y.b,.int .i64 y.c,.int .i64 y.d] 61)) wq)=>show wq.cell? ⟨b,0,none⟩=some (.func (.func f.n) f.bnd f.cap) from ((hb0.trans (h.mono hb0.size)).cell (p:=⟨b,0,none⟩) hl).trans hc)
 have HE:=hid he
 have HF:=hid (fun z hz wq (h:Below (w.alloc (.cells #[.int .i64 y.a,.int .i64 y.b,.int .i64 y.c,.int .i64 y.d] 61)).heap.size (w.alloc (.cells #[.int .i64 y.a,.int .i64 y.b,.int .i64 y.c,.int .i64 y.d] 61)) wq)=>hf z hz wq (hb0.trans (h.mono hb0.size)))
 have HB0:=hid hb0
 have HEq:=hid (fun w=>eqlDebt (of y) (of x) w)
 clear hb0 hx hc he hf
 go_enter Tryz.func240,Tryz.ntmps240
 go_upto_region 1 with fail
 generalize w.alloc (.cells #[.int .i64 y.a,.int .i64 y.b,.int .i64 y.c,.int .i64 y.d] 61)=wb at *
 refine wp_region_det (S:=(fun wq=>Below wb.heap.size wb wq)) (by kernel_rfl) (by kernel_rfl) (Below.drew (Below.refl _ _)) ?_
 rw [List.toList_toArray]
 repeat (first
    | (refine Det.skip (by rfl) ?_;simp only [Act.put,sA,sB,sC,sD,sE,sF])
    | (refine Det.read (v:=?_) (by rfl) ?_ ?_;rotate_left;(· (intro wq hSq;obtain ⟨c0,c1,c2,c3⟩:=HY.out wq hSq;have cf:=HC.out wq hSq;go_simp;try with_reducible rfl));simp only [Act.put,sA,sB,sC,sD,sE,sF])
    | fail)
 refine Det.step (.agg #[.int .i64 (of y).a,.int .i64 (of y).b]) (by rfl) (fun wq hSq K hK=>?_) ?_
 ·go_simp
  rw [HE.out,Oper.upon_enter]
  refine (HF.out y (.inr rfl) wq hSq).mono ?_
  rintro e4 w4 ⟨rfl,hb4⟩
  go_wp2_with fail
  refine hK.out _ _ (hSq.trans (hb4.mono hSq.size)) ?_
  rfl
 simp only [Act.put,sA,sB,sC,sD,sE,sF]
 repeat (first
    | (refine Det.skip (by rfl) ?_;simp only [Act.put,sA,sB,sC,sD,sE,sF])
    | (refine Det.read (v:=?_) (by rfl) ?_ ?_;rotate_left;(· (intro wq hSq;obtain ⟨c0,c1,c2,c3⟩:=HX.out wq hSq;have cf:=HC.out wq hSq;go_simp;try with_reducible rfl));simp only [Act.put,sA,sB,sC,sD,sE,sF])
    | fail)
 refine Det.step (.agg #[.int .i64 (of x).a,.int .i64 (of x).b]) (by rfl) (fun wq hSq K hK=>?_) ?_
 ·go_simp
  rw [HE.out,Oper.upon_enter]
  refine (HF.out x (.inl rfl) wq hSq).mono ?_
  rintro e4 w4 ⟨rfl,hb4⟩
  go_wp2_with fail
  refine hK.out _ _ (hSq.trans (hb4.mono hSq.size)) ?_
  rfl
 simp only [Act.put,sA,sB,sC,sD,sE,sF]
 repeat (first
    | (refine Det.skip (by rfl) ?_;simp only [Act.put,sA,sB,sC,sD,sE,sF])
    | (refine Det.read (v:=?_) (by rfl) ?_ ?_;rotate_left;(· (intro wq hSq;have hq:=HEq.out;go_simp;try with_reducible rfl));simp only [Act.put,sA,sB,sC,sD,sE,sF])
    | fail)
 refine Det.done fun wz hz=>?_
 go_wp2_with fail
 go_ret
 exact ⟨rfl,HB0.out.trans (hz.mono HB0.out.size)⟩
def keySent (x:D3):D2:=⟨x.a,x.b⟩
theorem cloc5_any (x:D3) (w:World):Calls Tryz.prog 183 #[.agg #[.int .i64 x.a,.int .i64 x.b,.int .i64 x.c]] w fun e w'=>e=.returned (.agg #[.int .i64 (keySent x).a,.int .i64 (keySent x).b])∧Below w.heap.size w w':=by
 go_enter Tryz.func183,Tryz.ntmps183
 go_wp2_with fail
 refine bodyPost_ret (v:=.agg #[.int .i64 x.a,.int .i64 x.b]) (by simp [results,Tryz.results183,go_sem]) rfl ?_
 exact ⟨rfl,by repeat (first | with_reducible exact Below.refl _ _ | with_reducible assumption | with_reducible refine Below.drew ?_ | with_reducible refine Below.alloc ?_ (by first | omega | (simp;done) | (simp;omega)) _)⟩
theorem oncSent_any (x y:D3) (of:D3→D2) (f:FV) (b bx:Nat) (w:World) (hc:w.cell? ⟨b,0,none⟩=some (.func (.func f.n) f.bnd f.cap)) (hl:b<w.heap.size) (hx:∀ wq,Below w.heap.size w wq→wq.cell? ⟨bx,0,none⟩=some (.int .i64 x.a)∧wq.cell? ⟨bx,1,none⟩=some (.int .i64 x.b)∧wq.cell? ⟨bx,2,none⟩=some (.int .i64 x.c)) (hlx:bx<w.heap.size)
  (he:∀ args w',(callFunc f.n args).run Tryz.prog w'=.ok (.enter f.n args) w')
  (hf:∀ z,z=x∨z=y→∀ w',Below w.heap.size w w'→Calls Tryz.prog f.n (f.bnd++#[D3.v z]++f.cap) w' fun e w''=>e=.returned (.agg #[.int .i64 (of z).a,.int .i64 (of z).b])∧Below w'.heap.size w' w'') :
  Calls Tryz.prog 241 #[.agg #[.int .i64 y.a,.int .i64 y.b,.int .i64 y.c],.pointer (some ⟨b,0,none⟩),.pointer (some ⟨bx,0,none⟩)] w fun e w'=>e=.returned (.bool (decide (of y=of x)))∧Below w.heap.size w w':=by
 have hb0:Below w.heap.size w (w.alloc (.cells #[.int .i64 y.a,.int .i64 y.b,.int .i64 y.c] 46)):=by repeat (first | with_reducible exact Below.refl _ _ | with_reducible assumption | with_reducible refine Below.drew ?_ | with_reducible refine Below.alloc ?_ (by first | omega | (simp;done) | (simp;omega)) _)
 have HX:=hid (fun wq (h:Below (w.alloc (.cells #[.int .i64 y.a,.int .i64 y.b,.int .i64 y.c] 46)).heap.size (w.alloc (.cells #[.int .i64 y.a,.int .i64 y.b,.int .i64 y.c] 46)) wq)=>hx wq (hb0.trans (h.mono hb0.size)))
 have HY:=hid (fun wq (h:Below (w.alloc (.cells #[.int .i64 y.a,.int .i64 y.b,.int .i64 y.c] 46)).heap.size (w.alloc (.cells #[.int .i64 y.a,.int .i64 y.b,.int .i64 y.c] 46)) wq)=>show wq.cell? ⟨w.heap.size,0,none⟩=some (.int .i64 y.a)∧wq.cell? ⟨w.heap.size,1,none⟩=some (.int .i64 y.b)∧wq.cell? ⟨w.heap.size,2,none⟩=some (.int .i64 y.c) from ⟨(h.cell (p:=⟨w.heap.size,0,none⟩) (by simp)).trans (by simp),(h.cell (p:=⟨w.heap.size,1,none⟩) (by simp)).trans (by simp),(h.cell (p:=⟨w.heap.size,2,none⟩) (by simp)).trans (by simp)⟩)
 have HC:=hid (fun wq (h:Below (w.alloc (.cells #[.int .i64 y.a,.int .i64 y.b,.int .i64 y.c] 46)).heap.size (w.alloc (.cells #[.int .i64 y.a,.int .i64 y.b,.int .i64 y.c] 46)) wq)=>show wq.cell? ⟨b,0,none⟩=some (.func (.func f.n) f.bnd f.cap) from ((hb0.trans (h.mono hb0.size)).cell (p:=⟨b,0,none⟩) hl).trans hc)
 have HE:=hid he
 have HF:=hid (fun z hz wq (h:Below (w.alloc (.cells #[.int .i64 y.a,.int .i64 y.b,.int .i64 y.c] 46)).heap.size (w.alloc (.cells #[.int .i64 y.a,.int .i64 y.b,.int .i64 y.c] 46)) wq)=>hf z hz wq (hb0.trans (h.mono hb0.size)))
 have HB0:=hid hb0
 have HEq:=hid (fun w=>eqlDebt (of y) (of x) w)
 clear hb0 hx hc he hf
 go_enter Tryz.func241,Tryz.ntmps241
 go_upto_region 1 with fail
 generalize w.alloc (.cells #[.int .i64 y.a,.int .i64 y.b,.int .i64 y.c] 46)=wb at *
 refine wp_region_det (S:=(fun wq=>Below wb.heap.size wb wq)) (by kernel_rfl) (by kernel_rfl) (Below.drew (Below.refl _ _)) ?_
 rw [List.toList_toArray]
 repeat (first
    | (refine Det.skip (by rfl) ?_;simp only [Act.put,sA,sB,sC,sD,sE,sF])
    | (refine Det.read (v:=?_) (by rfl) ?_ ?_;rotate_left;(· (intro wq hSq;obtain ⟨c0,c1,c2⟩:=HY.out wq hSq;have cf:=HC.out wq hSq;go_simp;try with_reducible rfl));simp only [Act.put,sA,sB,sC,sD,sE,sF])
    | fail)
 refine Det.step (.agg #[.int .i64 (of y).a,.int .i64 (of y).b]) (by rfl) (fun wq hSq K hK=>?_) ?_
 ·go_simp
  rw [HE.out,Oper.upon_enter]
  refine (HF.out y (.inr rfl) wq hSq).mono ?_
  rintro e4 w4 ⟨rfl,hb4⟩
  go_wp2_with fail
  refine hK.out _ _ (hSq.trans (hb4.mono hSq.size)) ?_
  rfl
 simp only [Act.put,sA,sB,sC,sD,sE,sF]
 repeat (first
    | (refine Det.skip (by rfl) ?_;simp only [Act.put,sA,sB,sC,sD,sE,sF])
    | (refine Det.read (v:=?_) (by rfl) ?_ ?_;rotate_left;(· (intro wq hSq;obtain ⟨c0,c1,c2⟩:=HX.out wq hSq;have cf:=HC.out wq hSq;go_simp;try with_reducible rfl));simp only [Act.put,sA,sB,sC,sD,sE,sF])
    | fail)
 refine Det.step (.agg #[.int .i64 (of x).a,.int .i64 (of x).b]) (by rfl) (fun wq hSq K hK=>?_) ?_
 ·go_simp
  rw [HE.out,Oper.upon_enter]
  refine (HF.out x (.inl rfl) wq hSq).mono ?_
  rintro e4 w4 ⟨rfl,hb4⟩
  go_wp2_with fail
  refine hK.out _ _ (hSq.trans (hb4.mono hSq.size)) ?_
  rfl
 simp only [Act.put,sA,sB,sC,sD,sE,sF]
 repeat (first
    | (refine Det.skip (by rfl) ?_;simp only [Act.put,sA,sB,sC,sD,sE,sF])
    | (refine Det.read (v:=?_) (by rfl) ?_ ?_;rotate_left;(· (intro wq hSq;have hq:=HEq.out;go_simp;try with_reducible rfl));simp only [Act.put,sA,sB,sC,sD,sE,sF])
    | fail)
 refine Det.done fun wz hz=>?_
 go_wp2_with fail
 go_ret
 exact ⟨rfl,HB0.out.trans (hz.mono HB0.out.size)⟩
def keyDebt (x:D2):D2:=⟨x.a,x.b⟩
theorem cloc6_any (x:D2) (w:World):Calls Tryz.prog 185 #[.agg #[.int .i64 x.a,.int .i64 x.b]] w fun e w'=>e=.returned (.agg #[.int .i64 (keyDebt x).a,.int .i64 (keyDebt x).b])∧Below w.heap.size w w':=by
 go_enter Tryz.func185,Tryz.ntmps185
 go_wp2_with fail
 refine bodyPost_ret (v:=.agg #[.int .i64 x.a,.int .i64 x.b]) (by simp [results,Tryz.results185,go_sem]) rfl ?_
 exact ⟨rfl,by repeat (first | with_reducible exact Below.refl _ _ | with_reducible assumption | with_reducible refine Below.drew ?_ | with_reducible refine Below.alloc ?_ (by first | omega | (simp;done) | (simp;omega)) _)⟩
theorem oncDebt_any (x y:D2) (of:D2→D2) (f:FV) (b bx:Nat) (w:World) (hc:w.cell? ⟨b,0,none⟩=some (.func (.func f.n) f.bnd f.cap)) (hl:b<w.heap.size) (hx:∀ wq,Below w.heap.size w wq→wq.cell? ⟨bx,0,none⟩=some (.int .i64 x.a)∧wq.cell? ⟨bx,1,none⟩=some (.int .i64 x.b)) (hlx:bx<w.heap.size)
  (he:∀ args w',(callFunc f.n args).run Tryz.prog w'=.ok (.enter f.n args) w')
  (hf:∀ z,z=x∨z=y→∀ w',Below w.heap.size w w'→Calls Tryz.prog f.n (f.bnd++#[D2.v z]++f.cap) w' fun e w''=>e=.returned (.agg #[.int .i64 (of z).a,.int .i64 (of z).b])∧Below w'.heap.size w' w'') :
  Calls Tryz.prog 242 #[.agg #[.int .i64 y.a,.int .i64 y.b],.pointer (some ⟨b,0,none⟩),.pointer (some ⟨bx,0,none⟩)] w fun e w'=>e=.returned (.bool (decide (of y=of x)))∧Below w.heap.size w w':=by
 have hb0:Below w.heap.size w (w.alloc (.cells #[.int .i64 y.a,.int .i64 y.b] 48)):=by repeat (first | with_reducible exact Below.refl _ _ | with_reducible assumption | with_reducible refine Below.drew ?_ | with_reducible refine Below.alloc ?_ (by first | omega | (simp;done) | (simp;omega)) _)
 have HX:=hid (fun wq (h:Below (w.alloc (.cells #[.int .i64 y.a,.int .i64 y.b] 48)).heap.size (w.alloc (.cells #[.int .i64 y.a,.int .i64 y.b] 48)) wq)=>hx wq (hb0.trans (h.mono hb0.size)))
 have HY:=hid (fun wq (h:Below (w.alloc (.cells #[.int .i64 y.a,.int .i64 y.b] 48)).heap.size (w.alloc (.cells #[.int .i64 y.a,.int .i64 y.b] 48)) wq)=>show wq.cell? ⟨w.heap.size,0,none⟩=some (.int .i64 y.a)∧wq.cell? ⟨w.heap.size,1,none⟩=some (.int .i64 y.b) from ⟨(h.cell (p:=⟨w.heap.size,0,none⟩) (by simp)).trans (by simp),(h.cell (p:=⟨w.heap.size,1,none⟩) (by simp)).trans (by simp)⟩)
 have HC:=hid (fun wq (h:Below (w.alloc (.cells #[.int .i64 y.a,.int .i64 y.b] 48)).heap.size (w.alloc (.cells #[.int .i64 y.a,.int .i64 y.b] 48)) wq)=>show wq.cell? ⟨b,0,none⟩=some (.func (.func f.n) f.bnd f.cap) from ((hb0.trans (h.mono hb0.size)).cell (p:=⟨b,0,none⟩) hl).trans hc)
 have HE:=hid he
 have HF:=hid (fun z hz wq (h:Below (w.alloc (.cells #[.int .i64 y.a,.int .i64 y.b] 48)).heap.size (w.alloc (.cells #[.int .i64 y.a,.int .i64 y.b] 48)) wq)=>hf z hz wq (hb0.trans (h.mono hb0.size)))
 have HB0:=hid hb0
 have HEq:=hid (fun w=>eqlDebt (of y) (of x) w)
 clear hb0 hx hc he hf
 go_enter Tryz.func242,Tryz.ntmps242
 go_upto_region 1 with fail
 generalize w.alloc (.cells #[.int .i64 y.a,.int .i64 y.b] 48)=wb at *
 refine wp_region_det (S:=(fun wq=>Below wb.heap.size wb wq)) (by kernel_rfl) (by kernel_rfl) (Below.drew (Below.refl _ _)) ?_
 rw [List.toList_toArray]
 repeat (first
    | (refine Det.skip (by rfl) ?_;simp only [Act.put,sA,sB,sC,sD,sE,sF])
    | (refine Det.read (v:=?_) (by rfl) ?_ ?_;rotate_left;(· (intro wq hSq;obtain ⟨c0,c1⟩:=HY.out wq hSq;have cf:=HC.out wq hSq;go_simp;try with_reducible rfl));simp only [Act.put,sA,sB,sC,sD,sE,sF])
    | fail)
 refine Det.step (.agg #[.int .i64 (of y).a,.int .i64 (of y).b]) (by rfl) (fun wq hSq K hK=>?_) ?_
 ·go_simp
  rw [HE.out,Oper.upon_enter]
  refine (HF.out y (.inr rfl) wq hSq).mono ?_
  rintro e4 w4 ⟨rfl,hb4⟩
  go_wp2_with fail
  refine hK.out _ _ (hSq.trans (hb4.mono hSq.size)) ?_
  rfl
 simp only [Act.put,sA,sB,sC,sD,sE,sF]
 repeat (first
    | (refine Det.skip (by rfl) ?_;simp only [Act.put,sA,sB,sC,sD,sE,sF])
    | (refine Det.read (v:=?_) (by rfl) ?_ ?_;rotate_left;(· (intro wq hSq;obtain ⟨c0,c1⟩:=HX.out wq hSq;have cf:=HC.out wq hSq;go_simp;try with_reducible rfl));simp only [Act.put,sA,sB,sC,sD,sE,sF])
    | fail)
 refine Det.step (.agg #[.int .i64 (of x).a,.int .i64 (of x).b]) (by rfl) (fun wq hSq K hK=>?_) ?_
 ·go_simp
  rw [HE.out,Oper.upon_enter]
  refine (HF.out x (.inl rfl) wq hSq).mono ?_
  rintro e4 w4 ⟨rfl,hb4⟩
  go_wp2_with fail
  refine hK.out _ _ (hSq.trans (hb4.mono hSq.size)) ?_
  rfl
 simp only [Act.put,sA,sB,sC,sD,sE,sF]
 repeat (first
    | (refine Det.skip (by rfl) ?_;simp only [Act.put,sA,sB,sC,sD,sE,sF])
    | (refine Det.read (v:=?_) (by rfl) ?_ ?_;rotate_left;(· (intro wq hSq;have hq:=HEq.out;go_simp;try with_reducible rfl));simp only [Act.put,sA,sB,sC,sD,sE,sF])
    | fail)
 refine Det.done fun wz hz=>?_
 go_wp2_with fail
 go_ret
 exact ⟨rfl,HB0.out.trans (hz.mono HB0.out.size)⟩
theorem cnNWaiting_any (k:Nat) (xs:List D4) (P:D4→Bool) (f:FV) (A:Option Addr) (c:Nat) (w:World) (hk:k=xs.length) (hr:RdL 4 D4.cs w w.heap.size A xs) (hx:xs.length≤9223372036854775807) (hf:FunB w f xs D4.v P) :
  Calls Tryz.prog 234 #[.slice A k c,.func (.func f.n) f.bnd f.cap] w fun e w'=>e=.returned (.bool (xs.any P))∧Below w.heap.size w w':=by
 subst hk
 exact cnWaiting_any xs P f A c w hr hx hf
theorem onsWaiting_any (xs:List D4) (of:D4→D2) (f:FV) (A:Option Addr) (c:Nat) (w:World) (hr:RdL 4 D4.cs w w.heap.size A xs) (hx:xs.length≤9223372036854775807) (hc:xs.length≤c) (hf:FunD w f xs D4.v of) :
  Calls Tryz.prog 180 #[.slice A xs.length c,.func (.func f.n) f.bnd f.cap] w fun e w'=>e=.returned (.bool (decide (xs.map of).Nodup))∧Below w.heap.size w w':=by
 have hb0:Below w.heap.size w (w.alloc (.cells #[.func (.func f.n) f.bnd f.cap] 205)):=by repeat (first | with_reducible exact Below.refl _ _ | with_reducible assumption | with_reducible refine Below.drew ?_ | with_reducible refine Below.alloc ?_ (by first | omega | (simp;done) | (simp;omega)) _)
 have hcb:(w.alloc (.cells #[.func (.func f.n) f.bnd f.cap] 205)).cell? ⟨w.heap.size,0,none⟩=some (.func (.func f.n) f.bnd f.cap):=by simp
 have HR:=hid (hr.now hb0)
 have HF:=hid (hf.now hb0)
 have HB0:=hid hb0
 have HCb:=hid hcb
 have HLb:=hid (show w.heap.size<(w.alloc (.cells #[.func (.func f.n) f.bnd f.cap] 205)).heap.size by simp)
 clear hr hf hb0 hcb
 go_enter Tryz.func180,Tryz.ntmps180
 go_upto_region 1 with fail
 generalize w.alloc (.cells #[.func (.func f.n) f.bnd f.cap] 205)=wb at *
 generalize w.heap.size=bf at HCb HLb ⊢
 go_wp2_with fail
 go_loopw [5,6,9] (fun _ _ i wr=>∃ k:Nat,k≤xs.length∧i=.int .i64 k∧((xs.take k).map of).Nodup∧Below wb.heap.size wb wr) (fun _ _ i _=>xs.length - (intOf i).toNat)
 case atStart=>exact ⟨0,Nat.zero_le _,rfl,by simp,Below.refl _ _⟩
 case round =>
  obtain ⟨k,hk,rfl,hn,hbw⟩:=hrel
  have HN:=hid hn
  have HB:=hid hbw
  clear hn
  by_cases hlt:k<xs.length
  ·obtain ⟨b,off,rfl,hb,c0,c1,c2,c3⟩:=rdD4 (HR.out.now hbw) hlt
   have HX:=hid (show xs[k]?=some xs[k] from List.getElem?_eq_getElem hlt)
   have HT:=hid (nodup_take of xs k hlt HN.out)
   have HH:=hid (nodup_not of xs k hlt)
   have HM:=hid (List.getElem_mem hlt)
   have hle:k≤c:=by omega
   clear hbw
   generalize xs[k]=x at *
   have hal:Below wb.heap.size wb (wr.alloc (.cells #[.int .i64 x.a,.int .i64 x.b,.int .i64 x.c,.int .i64 x.d] 61)):=HB.out.alloc HB.out.size _
   have HAl:=hid hal
   clear hal
   go_wp2_with fail
   refine (cnNWaiting_any k (xs.take k) (fun y=>decide (of y=of x)) ⟨240,#[],#[.pointer (some ⟨bf,0,none⟩),.pointer (some ⟨wr.heap.size,0,none⟩)]⟩ (some ⟨b,off,none⟩) c _ (by rw [List.length_take];omega) (rd_take (HR.out.now HAl.out) k) (by rw [List.length_take];omega)
    ⟨fun args w'=>enter_fn Tryz.func240 (by kernel_rfl) rfl args w',fun y hy w2 h2=>?_⟩).mono ?_
   ·have hA2:Below wb.heap.size wb w2:=HAl.out.trans (h2.mono HAl.out.size)
    refine oncWaiting_any x y of f bf wr.heap.size w2 ((hA2.cell (p:=⟨bf,0,none⟩) HLb.out).trans HCb.out) (by have:=hA2.size;have:=HLb.out;omega) (fun wq hq=>?_) (by have:=h2.size;simp at this;omega) HF.out.ent (fun z hz w3 h3=>HF.out.run z ?_ w3 (hA2.trans (h3.mono hA2.size)))
    ·have hs:=h2.size
     simp only [World.size_alloc] at hs
     exact ⟨(hq.cell (p:=⟨wr.heap.size,0,none⟩) (show wr.heap.size<w2.heap.size by omega)).trans ((h2.cell (p:=⟨wr.heap.size,0,none⟩) (by simp)).trans (by simp)),(hq.cell (p:=⟨wr.heap.size,1,none⟩) (show wr.heap.size<w2.heap.size by omega)).trans ((h2.cell (p:=⟨wr.heap.size,1,none⟩) (by simp)).trans (by simp)),(hq.cell (p:=⟨wr.heap.size,2,none⟩) (show wr.heap.size<w2.heap.size by omega)).trans ((h2.cell (p:=⟨wr.heap.size,2,none⟩) (by simp)).trans (by simp)),(hq.cell (p:=⟨wr.heap.size,3,none⟩) (show wr.heap.size<w2.heap.size by omega)).trans ((h2.cell (p:=⟨wr.heap.size,3,none⟩) (by simp)).trans (by simp))⟩
    ·rcases hz with rfl | rfl
     ·exact HM.out
     ·exact List.mem_of_mem_take hy
   ·rintro e w1 ⟨rfl,hb1⟩
    have HB1:=hid (HAl.out.trans (hb1.mono HAl.out.size))
    clear hb1
    cases hq:(xs.take k).any (fun y=>decide (of y=of x)) with
    | true =>
     have HQ:=hid (decide_eq_false (HH.out hq))
     clear hq HH HT
     go_wp2_with fail
     go_ret
     exact ⟨by rw [HQ.out];rfl,HB0.out.trans (HB1.out.mono HB0.out.size)⟩
    | false =>
     have HQ:=hid (HT.out hq)
     clear hq HH HT
     go_wp2_with fail
     go_roundw
     case rel=>exact ⟨k+1,by omega,by go_num,HQ.out,HB1.out⟩
     case measure=>simp [intOf];omega
  ·obtain rfl:k=xs.length:=by omega
   have h:=HN.out
   rw [List.take_length] at h
   have HQ:=hid h
   clear h
   go_wp2_with fail
   go_ret
   exact ⟨by rw [decide_eq_true HQ.out];rfl,HB0.out.trans (HB.out.mono HB0.out.size)⟩
theorem cnNSent_any (k:Nat) (xs:List D3) (P:D3→Bool) (f:FV) (A:Option Addr) (c:Nat) (w:World) (hk:k=xs.length) (hr:RdL 3 D3.cs w w.heap.size A xs) (hx:xs.length≤9223372036854775807) (hf:FunB w f xs D3.v P) :
  Calls Tryz.prog 236 #[.slice A k c,.func (.func f.n) f.bnd f.cap] w fun e w'=>e=.returned (.bool (xs.any P))∧Below w.heap.size w w':=by
 subst hk
 exact cnSent_any xs P f A c w hr hx hf
theorem onsSent_any (xs:List D3) (of:D3→D2) (f:FV) (A:Option Addr) (c:Nat) (w:World) (hr:RdL 3 D3.cs w w.heap.size A xs) (hx:xs.length≤9223372036854775807) (hc:xs.length≤c) (hf:FunD w f xs D3.v of) :
  Calls Tryz.prog 182 #[.slice A xs.length c,.func (.func f.n) f.bnd f.cap] w fun e w'=>e=.returned (.bool (decide (xs.map of).Nodup))∧Below w.heap.size w w':=by
 have hb0:Below w.heap.size w (w.alloc (.cells #[.func (.func f.n) f.bnd f.cap] 207)):=by repeat (first | with_reducible exact Below.refl _ _ | with_reducible assumption | with_reducible refine Below.drew ?_ | with_reducible refine Below.alloc ?_ (by first | omega | (simp;done) | (simp;omega)) _)
 have hcb:(w.alloc (.cells #[.func (.func f.n) f.bnd f.cap] 207)).cell? ⟨w.heap.size,0,none⟩=some (.func (.func f.n) f.bnd f.cap):=by simp
 have HR:=hid (hr.now hb0)
 have HF:=hid (hf.now hb0)
 have HB0:=hid hb0
 have HCb:=hid hcb
 have HLb:=hid (show w.heap.size<(w.alloc (.cells #[.func (.func f.n) f.bnd f.cap] 207)).heap.size by simp)
 clear hr hf hb0 hcb
 go_enter Tryz.func182,Tryz.ntmps182
 go_upto_region 1 with fail
 generalize w.alloc (.cells #[.func (.func f.n) f.bnd f.cap] 207)=wb at *
 generalize w.heap.size=bf at HCb HLb ⊢
 go_wp2_with fail
 go_loopw [5,6,9] (fun _ _ i wr=>∃ k:Nat,k≤xs.length∧i=.int .i64 k∧((xs.take k).map of).Nodup∧Below wb.heap.size wb wr) (fun _ _ i _=>xs.length - (intOf i).toNat)
 case atStart=>exact ⟨0,Nat.zero_le _,rfl,by simp,Below.refl _ _⟩
 case round =>
  obtain ⟨k,hk,rfl,hn,hbw⟩:=hrel
  have HN:=hid hn
  have HB:=hid hbw
  clear hn
  by_cases hlt:k<xs.length
  ·obtain ⟨b,off,rfl,hb,c0,c1,c2⟩:=rdD3 (HR.out.now hbw) hlt
   have HX:=hid (show xs[k]?=some xs[k] from List.getElem?_eq_getElem hlt)
   have HT:=hid (nodup_take of xs k hlt HN.out)
   have HH:=hid (nodup_not of xs k hlt)
   have HM:=hid (List.getElem_mem hlt)
   have hle:k≤c:=by omega
   clear hbw
   generalize xs[k]=x at *
   have hal:Below wb.heap.size wb (wr.alloc (.cells #[.int .i64 x.a,.int .i64 x.b,.int .i64 x.c] 46)):=HB.out.alloc HB.out.size _
   have HAl:=hid hal
   clear hal
   go_wp2_with fail
   refine (cnNSent_any k (xs.take k) (fun y=>decide (of y=of x)) ⟨241,#[],#[.pointer (some ⟨bf,0,none⟩),.pointer (some ⟨wr.heap.size,0,none⟩)]⟩ (some ⟨b,off,none⟩) c _ (by rw [List.length_take];omega) (rd_take (HR.out.now HAl.out) k) (by rw [List.length_take];omega)
    ⟨fun args w'=>enter_fn Tryz.func241 (by kernel_rfl) rfl args w',fun y hy w2 h2=>?_⟩).mono ?_
   ·have hA2:Below wb.heap.size wb w2:=HAl.out.trans (h2.mono HAl.out.size)
    refine oncSent_any x y of f bf wr.heap.size w2 ((hA2.cell (p:=⟨bf,0,none⟩) HLb.out).trans HCb.out) (by have:=hA2.size;have:=HLb.out;omega) (fun wq hq=>?_) (by have:=h2.size;simp at this;omega) HF.out.ent (fun z hz w3 h3=>HF.out.run z ?_ w3 (hA2.trans (h3.mono hA2.size)))
    ·have hs:=h2.size
     simp only [World.size_alloc] at hs
     exact ⟨(hq.cell (p:=⟨wr.heap.size,0,none⟩) (show wr.heap.size<w2.heap.size by omega)).trans ((h2.cell (p:=⟨wr.heap.size,0,none⟩) (by simp)).trans (by simp)),(hq.cell (p:=⟨wr.heap.size,1,none⟩) (show wr.heap.size<w2.heap.size by omega)).trans ((h2.cell (p:=⟨wr.heap.size,1,none⟩) (by simp)).trans (by simp)),(hq.cell (p:=⟨wr.heap.size,2,none⟩) (show wr.heap.size<w2.heap.size by omega)).trans ((h2.cell (p:=⟨wr.heap.size,2,none⟩) (by simp)).trans (by simp))⟩
    ·rcases hz with rfl | rfl
     ·exact HM.out
     ·exact List.mem_of_mem_take hy
   ·rintro e w1 ⟨rfl,hb1⟩
    have HB1:=hid (HAl.out.trans (hb1.mono HAl.out.size))
    clear hb1
    cases hq:(xs.take k).any (fun y=>decide (of y=of x)) with
    | true =>
     have HQ:=hid (decide_eq_false (HH.out hq))
     clear hq HH HT
     go_wp2_with fail
     go_ret
     exact ⟨by rw [HQ.out];rfl,HB0.out.trans (HB1.out.mono HB0.out.size)⟩
    | false =>
     have HQ:=hid (HT.out hq)
     clear hq HH HT
     go_wp2_with fail
     go_roundw
     case rel=>exact ⟨k+1,by omega,by go_num,HQ.out,HB1.out⟩
     case measure=>simp [intOf];omega
  ·obtain rfl:k=xs.length:=by omega
   have h:=HN.out
   rw [List.take_length] at h
   have HQ:=hid h
   clear h
   go_wp2_with fail
   go_ret
   exact ⟨by rw [decide_eq_true HQ.out];rfl,HB0.out.trans (HB.out.mono HB0.out.size)⟩
theorem cnNDebt_any (k:Nat) (xs:List D2) (P:D2→Bool) (f:FV) (A:Option Addr) (c:Nat) (w:World) (hk:k=xs.length) (hr:RdL 2 D2.cs w w.heap.size A xs) (hx:xs.length≤9223372036854775807) (hf:FunB w f xs D2.v P) :
  Calls Tryz.prog 238 #[.slice A k c,.func (.func f.n) f.bnd f.cap] w fun e w'=>e=.returned (.bool (xs.any P))∧Below w.heap.size w w':=by
 subst hk
 exact cnDebt_any xs P f A c w hr hx hf
theorem onsDebt_any (xs:List D2) (of:D2→D2) (f:FV) (A:Option Addr) (c:Nat) (w:World) (hr:RdL 2 D2.cs w w.heap.size A xs) (hx:xs.length≤9223372036854775807) (hc:xs.length≤c) (hf:FunD w f xs D2.v of) :
  Calls Tryz.prog 184 #[.slice A xs.length c,.func (.func f.n) f.bnd f.cap] w fun e w'=>e=.returned (.bool (decide (xs.map of).Nodup))∧Below w.heap.size w w':=by
 have hb0:Below w.heap.size w (w.alloc (.cells #[.func (.func f.n) f.bnd f.cap] 209)):=by repeat (first | with_reducible exact Below.refl _ _ | with_reducible assumption | with_reducible refine Below.drew ?_ | with_reducible refine Below.alloc ?_ (by first | omega | (simp;done) | (simp;omega)) _)
 have hcb:(w.alloc (.cells #[.func (.func f.n) f.bnd f.cap] 209)).cell? ⟨w.heap.size,0,none⟩=some (.func (.func f.n) f.bnd f.cap):=by simp
 have HR:=hid (hr.now hb0)
 have HF:=hid (hf.now hb0)
 have HB0:=hid hb0
 have HCb:=hid hcb
 have HLb:=hid (show w.heap.size<(w.alloc (.cells #[.func (.func f.n) f.bnd f.cap] 209)).heap.size by simp)
 clear hr hf hb0 hcb
 go_enter Tryz.func184,Tryz.ntmps184
 go_upto_region 1 with fail
 generalize w.alloc (.cells #[.func (.func f.n) f.bnd f.cap] 209)=wb at *
 generalize w.heap.size=bf at HCb HLb ⊢
 go_wp2_with fail
 go_loopw [5,6,9] (fun _ _ i wr=>∃ k:Nat,k≤xs.length∧i=.int .i64 k∧((xs.take k).map of).Nodup∧Below wb.heap.size wb wr) (fun _ _ i _=>xs.length - (intOf i).toNat)
 case atStart=>exact ⟨0,Nat.zero_le _,rfl,by simp,Below.refl _ _⟩
 case round =>
  obtain ⟨k,hk,rfl,hn,hbw⟩:=hrel
  have HN:=hid hn
  have HB:=hid hbw
  clear hn
  by_cases hlt:k<xs.length
  ·obtain ⟨b,off,rfl,hb,c0,c1⟩:=rdD2 (HR.out.now hbw) hlt
   have HX:=hid (show xs[k]?=some xs[k] from List.getElem?_eq_getElem hlt)
   have HT:=hid (nodup_take of xs k hlt HN.out)
   have HH:=hid (nodup_not of xs k hlt)
   have HM:=hid (List.getElem_mem hlt)
   have hle:k≤c:=by omega
   clear hbw
   generalize xs[k]=x at *
   have hal:Below wb.heap.size wb (wr.alloc (.cells #[.int .i64 x.a,.int .i64 x.b] 48)):=HB.out.alloc HB.out.size _
   have HAl:=hid hal
   clear hal
   go_wp2_with fail
   refine (cnNDebt_any k (xs.take k) (fun y=>decide (of y=of x)) ⟨242,#[],#[.pointer (some ⟨bf,0,none⟩),.pointer (some ⟨wr.heap.size,0,none⟩)]⟩ (some ⟨b,off,none⟩) c _ (by rw [List.length_take];omega) (rd_take (HR.out.now HAl.out) k) (by rw [List.length_take];omega)
    ⟨fun args w'=>enter_fn Tryz.func242 (by kernel_rfl) rfl args w',fun y hy w2 h2=>?_⟩).mono ?_
   ·have hA2:Below wb.heap.size wb w2:=HAl.out.trans (h2.mono HAl.out.size)
    refine oncDebt_any x y of f bf wr.heap.size w2 ((hA2.cell (p:=⟨bf,0,none⟩) HLb.out).trans HCb.out) (by have:=hA2.size;have:=HLb.out;omega) (fun wq hq=>?_) (by have:=h2.size;simp at this;omega) HF.out.ent (fun z hz w3 h3=>HF.out.run z ?_ w3 (hA2.trans (h3.mono hA2.size)))
    ·have hs:=h2.size
     simp only [World.size_alloc] at hs
     exact ⟨(hq.cell (p:=⟨wr.heap.size,0,none⟩) (show wr.heap.size<w2.heap.size by omega)).trans ((h2.cell (p:=⟨wr.heap.size,0,none⟩) (by simp)).trans (by simp)),(hq.cell (p:=⟨wr.heap.size,1,none⟩) (show wr.heap.size<w2.heap.size by omega)).trans ((h2.cell (p:=⟨wr.heap.size,1,none⟩) (by simp)).trans (by simp))⟩
    ·rcases hz with rfl | rfl
     ·exact HM.out
     ·exact List.mem_of_mem_take hy
   ·rintro e w1 ⟨rfl,hb1⟩
    have HB1:=hid (HAl.out.trans (hb1.mono HAl.out.size))
    clear hb1
    cases hq:(xs.take k).any (fun y=>decide (of y=of x)) with
    | true =>
     have HQ:=hid (decide_eq_false (HH.out hq))
     clear hq HH HT
     go_wp2_with fail
     go_ret
     exact ⟨by rw [HQ.out];rfl,HB0.out.trans (HB1.out.mono HB0.out.size)⟩
    | false =>
     have HQ:=hid (HT.out hq)
     clear hq HH HT
     go_wp2_with fail
     go_roundw
     case rel=>exact ⟨k+1,by omega,by go_num,HQ.out,HB1.out⟩
     case measure=>simp [intOf];omega
  ·obtain rfl:k=xs.length:=by omega
   have h:=HN.out
   rw [List.take_length] at h
   have HQ:=hid h
   clear h
   go_wp2_with fail
   go_ret
   exact ⟨by rw [decide_eq_true HQ.out];rfl,HB0.out.trans (HB.out.mono HB0.out.size)⟩
theorem cnNHold_any (k:Nat) (xs:List D4) (P:D4→Bool) (f:FV) (A:Option Addr) (c:Nat) (w:World) (hk:k=xs.length) (hr:RdL 4 D4.cs w w.heap.size A xs) (hx:xs.length≤9223372036854775807) (hf:FunB w f xs D4.v P) :
  Calls Tryz.prog 195 #[.slice A k c,.func (.func f.n) f.bnd f.cap] w fun e w'=>e=.returned (.bool (xs.any P))∧Below w.heap.size w w':=by
 subst hk
 exact cnHold_any xs P f A c w hr hx hf
/- Contract of hold.Right (layer 42). -/
def hoOk (h:D4):Bool:=!(decide (h.a<0) || (decide (h.b<0) || !(toB h.c 0 1073741824))) && !((h.d != -1) && (decide (h.d<h.c) || !(toB h.d 0 1073741824)))
def idD4 (h:D4):D2:=⟨h.a,0⟩
def holdsB (xs:List D4):Bool:=xs.all hoOk && decide (xs.map idD4).Nodup
theorem holds_bad {xs:List D4} {x:D4} (hx:x∈xs) (h:hoOk x=false):holdsB xs=false:=by
 unfold holdsB
 have:xs.all hoOk=false:=List.all_eq_false.2 ⟨x,hx,by rw [h];simp⟩
 rw [this];rfl
theorem holds_dup {xs:List D4} (h:¬ (xs.map idD4).Nodup):holdsB xs=false:=by
 unfold holdsB
 rw [decide_eq_false h,Bool.and_false]
theorem all_take {T:Type} (P:T→Bool) (xs:List T) (k:Nat) (hk:k<xs.length) (h:(xs.take k).all P=true) (h1:P xs[k]=true):(xs.take (k+1)).all P=true:=by
 rw [List.take_succ_eq_append_getElem hk,List.all_append,h]
 simp [h1]
theorem hoClo_any (x y:D4) (b:Nat) (w:World) (hc:w.cell? ⟨b,0,none⟩=some (.int .i64 x.a)) (hl:b<w.heap.size) :
  Calls Tryz.prog 193 #[.agg #[.int .i64 y.a,.int .i64 y.b,.int .i64 y.c,.int .i64 y.d],.pointer (some ⟨b,0,none⟩)] w fun e w'=>e=.returned (.bool (decide (idD4 y=idD4 x)))∧Below w.heap.size w w':=by
 have HG:Hid (decide (idD4 y=idD4 x)=(y.a==x.a)):=hid (by rw [Bool.eq_iff_iff];simp [idD4])
 go_enter Tryz.func193,Tryz.ntmps193
 go_wp2_with fail
 go_ret
 exact ⟨by rw [HG.out];rfl,by repeat (first | with_reducible exact Below.refl _ _ | with_reducible assumption | with_reducible refine Below.drew ?_ | with_reducible refine Below.alloc ?_ (by first | omega | (simp;done) | (simp;omega)) _)⟩
theorem hoRight_any (xs:List D4) (A:Option Addr) (c:Nat) (w:World) (hr:RdL 4 D4.cs w w.heap.size A xs) (hx:xs.length≤9223372036854775807) (hc:xs.length≤c) :
  Calls Tryz.prog 79 #[.slice A xs.length c] w fun e w'=>e=.returned (.bool (holdsB xs))∧Below w.heap.size w w':=by
 have HR:=hid hr
 clear hr
 go_enter Tryz.func79,Tryz.ntmps79
 go_wp2_with fail
 go_loopw [3,4,5,8] (fun _ _ _ i wr=>∃ k:Nat,k≤xs.length∧i=.int .i64 k∧(xs.take k).all hoOk=true∧((xs.take k).map idD4).Nodup∧Below w.heap.size w wr) (fun _ _ _ i _=>xs.length - (intOf i).toNat)
 case atStart=>exact ⟨0,Nat.zero_le _,rfl,by simp,by simp,Below.refl _ _⟩
 case round =>
  obtain ⟨k,hk,rfl,ha,hn,hbw⟩:=hrel
  have HN:=hid hn
  have HA:=hid ha
  have HB:=hid hbw
  clear hn ha
  by_cases hlt:k<xs.length
  ·obtain ⟨b,off,rfl,hb,c0,c1,c2,c3⟩:=rdD4 (HR.out.now hbw) hlt
   have HT:=hid (nodup_take idD4 xs k hlt HN.out)
   have HTa:=hid (all_take hoOk xs k hlt HA.out)
   have HH:=hid (fun (h:(xs.take k).any (fun y=>decide (idD4 y=idD4 xs[k]))=true)=>holds_dup (nodup_not idD4 xs k hlt h))
   have HBad:=hid (fun (h:hoOk xs[k]=false)=>holds_bad (List.getElem_mem hlt) h)
   have hle:k≤c:=by omega
   clear hbw HN HA
   generalize xs[k]=x at *
   have HOk:Hid (hoOk x=(!(decide (x.a<0) || (decide (x.b<0) || !(toB x.c 0 1073741824))) && !((x.d != -1) && (decide (x.d<x.c) || !(toB x.d 0 1073741824))))):=hid rfl
   have hal:Below w.heap.size w (wr.alloc (.cells #[.int .i64 x.a,.int .i64 x.b,.int .i64 x.c,.int .i64 x.d] 103)):=HB.out.alloc HB.out.size _
   have HAl:=hid hal
   have hbx:(wr.alloc (.cells #[.int .i64 x.a,.int .i64 x.b,.int .i64 x.c,.int .i64 x.d] 103)).heap[wr.heap.size]?=some (.cells #[.int .i64 x.a,.int .i64 x.b,.int .i64 x.c,.int .i64 x.d] 103 (0,0)):=(MapKept.heap_alloc wr _).1
   have HBx:=hid hbx
   clear hal hbx
   cases g0:decide (x.a<0) with
   | true =>
    rw [g0] at HOk
    have HQ:=hid (HBad.out (by rw [HOk.out];simp))
    clear HBad HOk
    go_wp2_with fail
    go_ret
    exact ⟨by rw [HQ.out];rfl,HAl.out⟩
   | false =>
   rw [g0] at HOk
   cases g1:decide (x.b<0) with
   | true =>
    rw [g1] at HOk
    have HQ:=hid (HBad.out (by rw [HOk.out];simp))
    clear HBad HOk
    go_wp2_with fail
    go_ret
    exact ⟨by rw [HQ.out];rfl,HAl.out⟩
   | false =>
   rw [g1] at HOk
   go_wp2_with fail
   refine (hoStep_any x.c _).mono ?_
   rintro e wq ⟨rfl,hw⟩
   obtain rfl:=hw
   cases g2:toB x.c 0 1073741824 with
   | false =>
    rw [g2] at HOk
    have HQ:=hid (HBad.out (by rw [HOk.out];simp))
    clear HBad HOk
    go_wp2_with fail
    go_ret
    exact ⟨by rw [HQ.out];rfl,HAl.out⟩
   | true =>
   rw [g2] at HOk
   go_wp2_with fail
   refine (cnNHold_any k (xs.take k) (fun y=>decide (idD4 y=idD4 x)) ⟨193,#[],#[.pointer (some ⟨wr.heap.size,0,none⟩)]⟩ (some ⟨b,off,none⟩) c _ (by rw [List.length_take];omega) (rd_take (HR.out.now HAl.out) k) (by rw [List.length_take];omega)
    ⟨fun args w'=>enter_fn Tryz.func193 (by kernel_rfl) rfl args w',fun y hy w2 h2=>?_⟩).mono ?_
   ·exact hoClo_any x y wr.heap.size w2 (box_cell ((h2.block wr.heap.size (by simp)).trans HBx.out) 0 _ rfl) (by have:=h2.size;simp at this;omega)
   ·rintro e w1 ⟨rfl,hb1⟩
    have hbx1:=(hb1.block wr.heap.size (by simp)).trans HBx.out
    have hl1:=box_lt hbx1
    have c0:=box_cell hbx1 0 _ rfl
    have c2:=box_cell hbx1 2 _ rfl
    have c3:=box_cell hbx1 3 _ rfl
    have HAl2:=hid (HAl.out.trans (hb1.mono HAl.out.size))
    clear hb1 hbx1 HBx HAl
    have HAl:=HAl2
    clear HAl2
    cases hq:(xs.take k).any (fun y=>decide (idD4 y=idD4 x)) with
    | true =>
     have HQ:=hid (HH.out hq)
     clear hq HH HT
     go_wp2_with fail
     go_ret
     exact ⟨by rw [HQ.out];rfl,HAl.out⟩
    | false =>
     have HQ:=hid (HT.out hq)
     clear hq HH HT
     cases g3:(x.d != -1) with
     | false =>
      rw [g3] at HOk
      have HQa:=hid (HTa.out (by rw [HOk.out];simp))
      clear HBad HOk
      go_wp2_with fail
      go_roundw
      case rel=>exact ⟨k+1,by omega,by go_num,HQa.out,HQ.out,HAl.out⟩
      case measure=>simp [intOf];omega
     | true =>
     rw [g3] at HOk
     cases g4:decide (x.d<x.c) with
     | true =>
      rw [g4] at HOk
      have HQ:=hid (HBad.out (by rw [HOk.out];simp))
      clear HBad HOk
      go_wp2_with fail
      go_ret
      exact ⟨by rw [HQ.out];rfl,HAl.out⟩
     | false =>
     rw [g4] at HOk
     go_wp2_with fail
     refine (hoStep_any x.d _).mono ?_
     rintro e wq ⟨rfl,hw⟩
     obtain rfl:=hw
     cases g5:toB x.d 0 1073741824 with
     | false =>
      rw [g5] at HOk
      have HQ:=hid (HBad.out (by rw [HOk.out];simp))
      clear HBad HOk
      go_wp2_with fail
      go_ret
      exact ⟨by rw [HQ.out];rfl,HAl.out⟩
     | true =>
      rw [g5] at HOk
      have HQa:=hid (HTa.out (by rw [HOk.out];simp))
      clear HBad HOk
      go_wp2_with fail
      go_roundw
      case rel=>exact ⟨k+1,by omega,by go_num,HQa.out,HQ.out,HAl.out⟩
      case measure=>simp [intOf];omega
  ·obtain rfl:k=xs.length:=by omega
   have HZ:Hid (holdsB xs=true):=hid (by
    have h1:=HN.out
    have h2:=HA.out
    rw [List.take_length] at h1 h2
    unfold holdsB
    rw [h2,decide_eq_true h1]
    rfl)
   go_wp2_with fail
   go_ret
   exact ⟨by rw [HZ.out];rfl,HB.out⟩
/- Contracts of linguaref42.Right,linguaref46.Once,Ascend. -/
/-! Neighbours in a list. -/
def adjB {T:Type} (R:T→T→Bool):List T→Bool
 | x::y::r=>R x y && adjB R (y::r)
 | _=>true
theorem adj_iff {T:Type} (R:T→T→Bool):∀ l:List T,adjB R l=true ↔ ∀ i x y,l[i]?=some x→l[i+1]?=some y→R x y=true
 | []=>by simp [adjB]
 | [z]=>by
  simp only [adjB,true_iff]
  intro i x y _ h
  simp at h
 | z::v::r=>by
  rw [adjB,Bool.and_eq_true,adj_iff R (v::r)]
  constructor
  ·rintro ⟨h1,h2⟩ i x y hx hy
   cases i with
   | zero =>
    simp at hx hy
    subst hx hy
    exact h1
   | succ i=>exact h2 i x y (by simpa using hx) (by simpa using hy)
  ·intro h
   exact ⟨h 0 z v rfl rfl,fun i x y hx hy=>h (i+1) x y (by simpa using hx) (by simpa using hy)⟩
theorem adj_take {T:Type} (R:T→T→Bool) (xs:List T) (k:Nat) (hk:k<xs.length) (h:adjB R (xs.take k)=true) (h1:∀ (h0:0<k),R (xs[k - 1]'(by omega)) xs[k]=true):adjB R (xs.take (k+1))=true:=by
 rw [adj_iff] at h ⊢
 intro i x y hx hy
 rw [List.getElem?_take] at hx hy
 split at hy
 ·rename_i hi
  rw [if_pos (by omega)] at hx
  by_cases he:i+1=k
  ·subst he
   have:=h1 (by omega)
   obtain ⟨h3,h4⟩:=List.getElem?_eq_some_iff.1 hx
   obtain ⟨h5,h6⟩:=List.getElem?_eq_some_iff.1 hy
   rw [← h4,← h6]
   simpa using this
  ·exact h i x y (by rw [List.getElem?_take,if_pos (by omega)];exact hx) (by rw [List.getElem?_take,if_pos (by omega)];exact hy)
 ·cases hy
theorem adj_not {T:Type} (R:T→T→Bool) (xs:List T) (k:Nat) (hk:k<xs.length) (h0:0<k) (h1:R (xs[k - 1]'(by omega)) xs[k]=false):adjB R xs=false:=by
 rw [← Bool.not_eq_true,adj_iff]
 intro h
 have:=h (k - 1) _ _ (List.getElem?_eq_getElem (by omega)) (by rw [show k - 1+1=k by omega];exact List.getElem?_eq_getElem hk)
 rw [this] at h1
 cases h1
theorem adj_one {T:Type} (R:T→T→Bool) (xs:List T):adjB R (xs.take 1)=true:=by
 cases xs with
 | nil=>rfl
 | cons x r=>rfl
/- A state in memory (layer 46;written by genstg.py). -/
structure NL where
 l:List E5
 A:Option Addr
 c:Nat
def NL.cs (x:NL):List Value:=[.slice x.A x.l.length x.c]
abbrev NL.v (x:NL):Value:=.slice x.A x.l.length x.c
theorem layNL:Lay 1 NL.cs:=⟨fun _=>rfl,fun x u hu=>by simp only [NL.cs,List.mem_singleton] at hu;subst hu;rfl⟩
theorem rdNL {w:World} {B:Nat} {A:Option Addr} {k:Nat} {xs:List NL} (h:RdL 1 NL.cs w B A xs) (hk:k<xs.length):∃ b off,A=some ⟨b,off,none⟩∧b<B∧w.cell? ⟨b,off+k,none⟩=some (.slice xs[k].A xs[k].l.length xs[k].c):=by
 obtain ⟨b,off,e,hb,hc⟩:=h.at_ hk
 exact ⟨b,off,e,hb,by simpa using hc 0 _ rfl⟩
structure EvL where
 ev:EvM
 cA:Option Addr
 cc:Nat
 fA:Option Addr
 fc:Nat
def EvL.cs (x:EvL):List Value:=(x.ev.cs x.cA x.cc x.fA x.fc).toList
abbrev EvL.v (x:EvL):Value:=x.ev.v x.cA x.cc x.fA x.fc
structure EvLOk (w:World) (B:Nat) (x:EvL):Prop where
 ok:EvOk w B x.cA x.fA x.ev
 cap:x.ev.files.length≤x.fc
structure Stt where
 step:Int
 events:List EvL
 queue:List D4
 sent:List D3
 refused:List D2
 pairs:List D4
 proofs:List D3
 notes:List NL
 bad:List E3
 holds:List D4
 orders:List D4
 sealed:List D3
 debts:List D2
structure StAd where
 ke:Option Addr × Nat
 kq:Option Addr × Nat
 ks:Option Addr × Nat
 kr:Option Addr × Nat
 kp:Option Addr × Nat
 kf:Option Addr × Nat
 kn:Option Addr × Nat
 kb:Option Addr × Nat
 kh:Option Addr × Nat
 ko:Option Addr × Nat
 kx:Option Addr × Nat
 kd:Option Addr × Nat
abbrev Stt.v (s:Stt) (a:StAd):Value:=.agg #[.int .i64 s.step,.slice a.ke.1 s.events.length a.ke.2,.slice a.kq.1 s.queue.length a.kq.2,.slice a.ks.1 s.sent.length a.ks.2,.slice a.kr.1 s.refused.length a.kr.2,.slice a.kp.1 s.pairs.length a.kp.2,.slice a.kf.1 s.proofs.length a.kf.2,.slice a.kn.1 s.notes.length a.kn.2,.slice a.kb.1 s.bad.length a.kb.2,.slice a.kh.1 s.holds.length a.kh.2,.slice a.ko.1 s.orders.length a.ko.2,.slice a.kx.1 s.sealed.length a.kx.2,.slice a.kd.1 s.debts.length a.kd.2]
abbrev Stt.arr (s:Stt) (a:StAd):Array Value:=#[.int .i64 s.step,.slice a.ke.1 s.events.length a.ke.2,.slice a.kq.1 s.queue.length a.kq.2,.slice a.ks.1 s.sent.length a.ks.2,.slice a.kr.1 s.refused.length a.kr.2,.slice a.kp.1 s.pairs.length a.kp.2,.slice a.kf.1 s.proofs.length a.kf.2,.slice a.kn.1 s.notes.length a.kn.2,.slice a.kb.1 s.bad.length a.kb.2,.slice a.kh.1 s.holds.length a.kh.2,.slice a.ko.1 s.orders.length a.ko.2,.slice a.kx.1 s.sealed.length a.kx.2,.slice a.kd.1 s.debts.length a.kd.2]
structure StOk (w:World) (B:Nat) (s:Stt) (a:StAd):Prop where
 ke:RdL 12 EvL.cs w B a.ke.1 s.events
 kq:RdL 4 D4.cs w B a.kq.1 s.queue
 ks:RdL 3 D3.cs w B a.ks.1 s.sent
 kr:RdL 2 D2.cs w B a.kr.1 s.refused
 kp:RdL 4 D4.cs w B a.kp.1 s.pairs
 kf:RdL 3 D3.cs w B a.kf.1 s.proofs
 kn:RdL 1 NL.cs w B a.kn.1 s.notes
 kb:RdL 3 E3.cs w B a.kb.1 s.bad
 kh:RdL 4 D4.cs w B a.kh.1 s.holds
 ko:RdL 4 D4.cs w B a.ko.1 s.orders
 kx:RdL 3 D3.cs w B a.kx.1 s.sealed
 kd:RdL 2 D2.cs w B a.kd.1 s.debts
 evs:∀ x∈s.events,EvLOk w B x
 nos:∀ x∈s.notes,RdL 5 E5.cs w B x.A x.l∧x.l.length≤9223372036854775807∧x.l.length≤x.c
 lke:s.events.length≤9223372036854775807
 cke:s.events.length≤a.ke.2
 lkq:s.queue.length≤9223372036854775807
 ckq:s.queue.length≤a.kq.2
 lks:s.sent.length≤9223372036854775807
 cks:s.sent.length≤a.ks.2
 lkr:s.refused.length≤9223372036854775807
 ckr:s.refused.length≤a.kr.2
 lkp:s.pairs.length≤9223372036854775807
 ckp:s.pairs.length≤a.kp.2
 lkf:s.proofs.length≤9223372036854775807
 ckf:s.proofs.length≤a.kf.2
 lkn:s.notes.length≤9223372036854775807
 ckn:s.notes.length≤a.kn.2
 lkb:s.bad.length≤9223372036854775807
 ckb:s.bad.length≤a.kb.2
 lkh:s.holds.length≤9223372036854775807
 ckh:s.holds.length≤a.kh.2
 lko:s.orders.length≤9223372036854775807
 cko:s.orders.length≤a.ko.2
 lkx:s.sealed.length≤9223372036854775807
 ckx:s.sealed.length≤a.kx.2
 lkd:s.debts.length≤9223372036854775807
 ckd:s.debts.length≤a.kd.2
theorem StOk.now {w w':World} {s:Stt} {a:StAd} (h:StOk w w.heap.size s a) (hb:Below w.heap.size w w'):StOk w' w'.heap.size s a :=
 ⟨h.ke.now hb,h.kq.now hb,h.ks.now hb,h.kr.now hb,h.kp.now hb,h.kf.now hb,h.kn.now hb,h.kb.now hb,h.kh.now hb,h.ko.now hb,h.kx.now hb,h.kd.now hb,fun x hx=>⟨(h.evs x hx).ok.now hb,(h.evs x hx).cap⟩,fun x hx=>⟨(h.nos x hx).1.now hb,(h.nos x hx).2⟩,h.lke,h.cke,h.lkq,h.ckq,h.lks,h.cks,h.lkr,h.ckr,h.lkp,h.ckp,h.lkf,h.ckf,h.lkn,h.ckn,h.lkb,h.ckb,h.lkh,h.ckh,h.lko,h.cko,h.lkx,h.ckx,h.lkd,h.ckd⟩
def StBox (b:Nat) (s:Stt) (a:StAd) (w:World):Prop:=w.heap[b]?=some (.cells (s.arr a) 34 (0,0))
section
variable {b:Nat} {s:Stt} {a:StAd} {w w':World}
theorem StBox.lt (h:StBox b s a w):b<w.heap.size:=box_lt h
theorem StBox.now (h:StBox b s a w) (hb:Below w.heap.size w w'):StBox b s a w':=(hb.block b h.lt).trans h
theorem StBox.on {B:Nat} (h:StBox b s a w) (hb:Below B w w') (hB:b<B):StBox b s a w':=(hb.block b hB).trans h
theorem StBox.st (h:StBox b s a w):w.cell? ⟨b,0,none⟩=some (.int .i64 s.step):=box_cell h 0 _ rfl
theorem StBox.ke (h:StBox b s a w):w.cell? ⟨b,1,none⟩=some (.slice a.ke.1 s.events.length a.ke.2):=box_cell h 1 _ rfl
theorem StBox.kq (h:StBox b s a w):w.cell? ⟨b,2,none⟩=some (.slice a.kq.1 s.queue.length a.kq.2):=box_cell h 2 _ rfl
theorem StBox.ks (h:StBox b s a w):w.cell? ⟨b,3,none⟩=some (.slice a.ks.1 s.sent.length a.ks.2):=box_cell h 3 _ rfl
theorem StBox.kr (h:StBox b s a w):w.cell? ⟨b,4,none⟩=some (.slice a.kr.1 s.refused.length a.kr.2):=box_cell h 4 _ rfl
theorem StBox.kp (h:StBox b s a w):w.cell? ⟨b,5,none⟩=some (.slice a.kp.1 s.pairs.length a.kp.2):=box_cell h 5 _ rfl
theorem StBox.kf (h:StBox b s a w):w.cell? ⟨b,6,none⟩=some (.slice a.kf.1 s.proofs.length a.kf.2):=box_cell h 6 _ rfl
theorem StBox.kn (h:StBox b s a w):w.cell? ⟨b,7,none⟩=some (.slice a.kn.1 s.notes.length a.kn.2):=box_cell h 7 _ rfl
theorem StBox.kb (h:StBox b s a w):w.cell? ⟨b,8,none⟩=some (.slice a.kb.1 s.bad.length a.kb.2):=box_cell h 8 _ rfl
theorem StBox.kh (h:StBox b s a w):w.cell? ⟨b,9,none⟩=some (.slice a.kh.1 s.holds.length a.kh.2):=box_cell h 9 _ rfl
theorem StBox.ko (h:StBox b s a w):w.cell? ⟨b,10,none⟩=some (.slice a.ko.1 s.orders.length a.ko.2):=box_cell h 10 _ rfl
theorem StBox.kx (h:StBox b s a w):w.cell? ⟨b,11,none⟩=some (.slice a.kx.1 s.sealed.length a.kx.2):=box_cell h 11 _ rfl
theorem StBox.kd (h:StBox b s a w):w.cell? ⟨b,12,none⟩=some (.slice a.kd.1 s.debts.length a.kd.2):=box_cell h 12 _ rfl
theorem StBox.free (h:StBox b s a w) (j:Nat):w.frozen? ⟨b,j,none⟩=false:=box_free h j
end
def carriedB (P:Int→Bool) (s:Stt):Bool :=
 s.queue.all (okc1 P) && (s.sent.all (okc2 P) && (s.refused.all (okc3 P) && (decide (s.queue.map keyWaiting).Nodup && (decide (s.sent.map keySent).Nodup && decide (s.refused.map keyDebt).Nodup))))
def noteOk (P:Int→Bool) (x:NL):Bool:=decide (x.l.length≤1000) && x.l.all (okn3 P)
def badB (l:List E3):Bool:=l.all (fun v=>toB v.a 0 1073741824 && toB v.b 0 1073741824) && adjB (fun x y=>decide (x.b≤y.b)) l
def notedB (P:Int→Bool) (s:Stt):Bool:=s.proofs.all okn1 && (s.notes.all (noteOk P) && (badB s.bad && decide (s.notes.length≤12)))
def debtsB (P:Int→Bool) (l:List D2):Bool:=l.all (okc3 P) && adjB befB l
def askedB (P:Int→Bool) (s:Stt):Bool:=s.orders.all (oka1 P) && (s.sealed.all (oka2 P) && debtsB P s.debts)
/- Contracts of state.carried,noted,asked. -/
theorem stCarried_any (P:Int→Bool) (s:Stt) (a:StAd) (f:FV) (w:World) (h:StOk w w.heap.size s a) (hi:FunI w f P) :
  Calls Tryz.prog 76 #[s.v a,.func (.func f.n) f.bnd f.cap] w fun e w'=>e=.returned (.bool (carriedB P s))∧Below w.heap.size w w':=by
 have HG:Hid (carriedB P s=(s.queue.all (okc1 P) && (s.sent.all (okc2 P) && (s.refused.all (okc3 P) && (decide (s.queue.map keyWaiting).Nodup && (decide (s.sent.map keySent).Nodup && decide (s.refused.map keyDebt).Nodup)))))):=hid rfl
 have hb0:Below w.heap.size w ((w.alloc (.cells (s.arr a) 34)).alloc (.cells #[.func (.func f.n) f.bnd f.cap] 124)):=by repeat (first | with_reducible exact Below.refl _ _ | with_reducible assumption | with_reducible refine Below.drew ?_ | with_reducible refine Below.alloc ?_ (by first | omega | (simp;done) | (simp;omega)) _)
 have HS:=hid (h.now hb0)
 have HI:=hid (hi.now hb0)
 have HB0:=hid hb0
 have hbx:StBox w.heap.size s a ((w.alloc (.cells (s.arr a) 34)).alloc (.cells #[.func (.func f.n) f.bnd f.cap] 124)):=by
  have h1:StBox w.heap.size s a (w.alloc (.cells (s.arr a) 34)):=(MapKept.heap_alloc w _).1
  exact h1.now ((Below.refl _ _).alloc (Nat.le_refl _) _)
 have HX:=hid hbx
 have HC:=hid (show ((w.alloc (.cells (s.arr a) 34)).alloc (.cells #[.func (.func f.n) f.bnd f.cap] 124)).cell? ⟨w.heap.size+1,0,none⟩=some (.func (.func f.n) f.bnd f.cap) by simp)
 have HL:=hid (show w.heap.size+1<((w.alloc (.cells (s.arr a) 34)).alloc (.cells #[.func (.func f.n) f.bnd f.cap] 124)).heap.size by simp)
 clear h hi hb0 hbx
 go_enter Tryz.func76,Tryz.ntmps76
 go_upto_region 1 with fail
 generalize ((w.alloc (.cells (s.arr a) 34)).alloc (.cells #[.func (.func f.n) f.bnd f.cap] 124))=wb at *
 generalize w.heap.size+1=bf at HC HL ⊢
 obtain ⟨bs,hbs⟩:∃ bs,bs=w.heap.size:=⟨_,rfl⟩
 rw [← hbs] at HX ⊢
 clear hbs
 have HB:=hid (Below.refl wb.heap.size wb)
 have z:=HX.out.kq
 have zl:=HX.out.lt
 go_wp2_with fail
 refine (eaWaiting_any s.queue (okc1 P) ⟨174,#[],#[.pointer (some ⟨bf,0,none⟩)]⟩ a.kq.1 a.kq.2 _ (HS.out.now HB.out).kq HS.out.lkq ⟨fun args w'=>enter_fn Tryz.func174 (by kernel_rfl) rfl args w',fun x hx w2 h2=>cloc1_any P x f bf w2 (((HB.out.trans (h2.mono HB.out.size)).cell (p:=⟨bf,0,none⟩) HL.out).trans HC.out) (by have:=HL.out;have:=(HB.out.trans (h2.mono HB.out.size)).size;omega) (HI.out.now (HB.out.trans (h2.mono HB.out.size)))⟩).mono ?_
 rintro e w1 ⟨rfl,hb1⟩
 have HBn:=hid (HB.out.trans (hb1.mono HB.out.size))
 clear hb1 HB
 have HB:=HBn
 clear HBn
 have z:=(HX.out.now HB.out).ks
 have zl:=(HX.out.now HB.out).lt
 go_wp2_with fail
 refine (eaSent_any s.sent (okc2 P) ⟨177,#[],#[.pointer (some ⟨bf,0,none⟩)]⟩ a.ks.1 a.ks.2 _ (HS.out.now HB.out).ks HS.out.lks ⟨fun args w'=>enter_fn Tryz.func177 (by kernel_rfl) rfl args w',fun x hx w2 h2=>cloc2_any P x f bf w2 (((HB.out.trans (h2.mono HB.out.size)).cell (p:=⟨bf,0,none⟩) HL.out).trans HC.out) (by have:=HL.out;have:=(HB.out.trans (h2.mono HB.out.size)).size;omega) (HI.out.now (HB.out.trans (h2.mono HB.out.size)))⟩).mono ?_
 rintro e w1 ⟨rfl,hb1⟩
 have HBn:=hid (HB.out.trans (hb1.mono HB.out.size))
 clear hb1 HB
 have HB:=HBn
 clear HBn
 have z:=(HX.out.now HB.out).kr
 have zl:=(HX.out.now HB.out).lt
 go_wp2_with fail
 refine (eaDebt_any s.refused (okc3 P) ⟨179,#[],#[.pointer (some ⟨bf,0,none⟩)]⟩ a.kr.1 a.kr.2 _ (HS.out.now HB.out).kr HS.out.lkr ⟨fun args w'=>enter_fn Tryz.func179 (by kernel_rfl) rfl args w',fun x hx w2 h2=>cloc3_any P x f bf w2 (((HB.out.trans (h2.mono HB.out.size)).cell (p:=⟨bf,0,none⟩) HL.out).trans HC.out) (by have:=HL.out;have:=(HB.out.trans (h2.mono HB.out.size)).size;omega) (HI.out.now (HB.out.trans (h2.mono HB.out.size)))⟩).mono ?_
 rintro e w1 ⟨rfl,hb1⟩
 have HBn:=hid (HB.out.trans (hb1.mono HB.out.size))
 clear hb1 HB
 have HB:=HBn
 clear HBn
 have z:=(HX.out.now HB.out).kq
 have zl:=(HX.out.now HB.out).lt
 go_wp2_with fail
 refine (onsWaiting_any s.queue keyWaiting ⟨181,#[],#[]⟩ a.kq.1 a.kq.2 _ (HS.out.now HB.out).kq HS.out.lkq HS.out.ckq ⟨fun args w'=>enter_fn Tryz.func181 (by kernel_rfl) rfl args w',fun x hx w2 h2=>cloc4_any x w2⟩).mono ?_
 rintro e w1 ⟨rfl,hb1⟩
 have HBn:=hid (HB.out.trans (hb1.mono HB.out.size))
 clear hb1 HB
 have HB:=HBn
 clear HBn
 have z:=(HX.out.now HB.out).ks
 have zl:=(HX.out.now HB.out).lt
 go_wp2_with fail
 refine (onsSent_any s.sent keySent ⟨183,#[],#[]⟩ a.ks.1 a.ks.2 _ (HS.out.now HB.out).ks HS.out.lks HS.out.cks ⟨fun args w'=>enter_fn Tryz.func183 (by kernel_rfl) rfl args w',fun x hx w2 h2=>cloc5_any x w2⟩).mono ?_
 rintro e w1 ⟨rfl,hb1⟩
 have HBn:=hid (HB.out.trans (hb1.mono HB.out.size))
 clear hb1 HB
 have HB:=HBn
 clear HBn
 have z:=(HX.out.now HB.out).kr
 have zl:=(HX.out.now HB.out).lt
 generalize s.queue.all (okc1 P)=q1 at *
 generalize s.sent.all (okc2 P)=q2 at *
 generalize s.refused.all (okc3 P)=q3 at *
 generalize decide (s.queue.map keyWaiting).Nodup=q4 at *
 generalize decide (s.sent.map keySent).Nodup=q5 at *
 cases q1 <;> cases q2 <;> cases q3 <;> cases q4 <;> cases q5
 case true.true.true.true.true =>
  go_wp2_with fail
  refine (onsDebt_any s.refused keyDebt ⟨185,#[],#[]⟩ a.kr.1 a.kr.2 _ (HS.out.now HB.out).kr HS.out.lkr HS.out.ckr ⟨fun args w'=>enter_fn Tryz.func185 (by kernel_rfl) rfl args w',fun x hx w2 h2=>cloc6_any x w2⟩).mono ?_
  rintro e w1 ⟨rfl,hb1⟩
  have HBn:=hid (HB.out.trans (hb1.mono HB.out.size))
  clear hb1 HB
  have HB:=HBn
  clear HBn
  go_wp2_with fail
  go_ret
  exact ⟨by rw [HG.out];rfl,HB0.out.trans (HB.out.mono HB0.out.size)⟩
 all_goals go_wp2_with fail
 all_goals go_ret
 all_goals exact ⟨by rw [HG.out];rfl,HB0.out.trans (HB.out.mono HB0.out.size)⟩
end Go.Proofs.YthlpehhlhebhbaaGreatDoor
