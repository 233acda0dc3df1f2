/- Contracts and plain laws, joined: StX. -/
import Derived.Test.YthlpehhlhebhbaaGreatDoorQbg
import Derived.Test.YthlpehhlhebhbaaGreatDoorQbe
/- Contracts of the closures of state.Read (layer 46;written by genrx.py). -/
set_option linter.unusedSimpArgs false
set_option linter.unusedVariables false
namespace Go.Proofs.YthlpehhlhebhbaaGreatDoor
set_option maxHeartbeats 2000000
open Lib (hid)
open Go.RowKit
set_option maxRecDepth 100000
abbrev D2.arr (x:D2):Array Value:=#[.int .i64 x.a,.int .i64 x.b]
abbrev D3.arr (x:D3):Array Value:=#[.int .i64 x.a,.int .i64 x.b,.int .i64 x.c]
theorem step_store_bx {P:Program} {w:World} {ops:Array Oper} {o:Oper} {a:Act} {K:Act→World→Prop} {Q:Exit→Act→World→Prop} {E:Prop} (hgd:o.guard=none) (ty:TypeId) (x y:Operand) (ho:o.op=.store ty x y)
  (b:Nat) (cells:Array Value) (hx:a.eval x=.pointer (some ⟨b,0,none⟩)) (hy:a.eval y=.agg cells)
  (ht:w.there b 0 cells.size) (hi:(P.info? ty).map (·.size)=some cells.size) (h1:cells.all (·.oneCell')=true)
  (h:K (a.put o.dst undef) (w.setCells b 0 cells.toList)):if Region.wanted o (yielded ops a.tmps)=true then Oper.wp P o a w K Q else E:=by
 have hw:Region.wanted o (yielded ops a.tmps)=true:=by simp [Region.wanted,hgd]
 rw [if_pos hw]
 exact wp_store_mid ty x y ho b 0 cells hx hy ht hi h1 h
theorem cell_turn {w w':World} {F:Nat→Prop} {p:Nat} {v:Value} (t:Turn F w w') (hl:p<w.heap.size) (hn:¬ F p) (h:w.cell? ⟨p,0,none⟩=some v):w'.cell? ⟨p,0,none⟩=some v :=
 (World.cell?_of_block (t.block p hl hn)).trans h
theorem rc1_any {B:Nat} (rb b:Nat) (s:RS) (w:World) (hV:Vs B w) (hBb:B≤b) (hc:w.cell? ⟨rb,0,none⟩=some (.pointer (some ⟨b,0,none⟩))) (hrl:rb<w.heap.size) (hne:rb≠b) (h:RdAt b s w) (hl:s.rest.length≤1000000000000) :
  Calls Tryz.prog 26 #[.pointer (some ⟨rb,0,none⟩)] w fun e w'=>e=.returned (D2.v (one2 s).1)∧RdAt b (one2 s).2 w'∧Turn (One b) w w':=by
 have HOne:Hid (one2 s=_):=hid (show one2 s=(⟨(rNum 59 0 s).1,(rNum 59 0 (rNum 59 0 s).2).1⟩,(rNum 59 0 (rNum 59 0 s).2).2) from rfl)
 have hb0:Below w.heap.size w (w.alloc (.cells #[.int .i64 0,.int .i64 0] 48)):=by repeat (first | with_reducible exact Below.refl _ _ | with_reducible assumption | with_reducible refine Below.drew ?_ | with_reducible refine Below.alloc ?_ (by first | omega | (simp;done) | (simp;omega)) _)
 have HZ:Hid ((w.alloc (.cells #[.int .i64 0,.int .i64 0] 48)).heap[w.heap.size]?=some (.cells #[.int .i64 0,.int .i64 0] 48 (0,0))):=hid (MapKept.heap_alloc w _).1
 have HBx:Hid (b<w.heap.size):=hid h.lt
 have HT:Hid (Turn (One b) w (w.alloc (.cells #[.int .i64 0,.int .i64 0] 48)).drew):=hid ((Turn.below hb0).drew)
 have HV:=hid (show Vs B (w.alloc (.cells #[.int .i64 0,.int .i64 0] 48)).drew from hV.now (hb0.trans (Below.refl _ _).drew))
 have HA:=hid (show RdAt b s (w.alloc (.cells #[.int .i64 0,.int .i64 0] 48)).drew from (h.now hb0).drew)
 have HC:=hid (show (w.alloc (.cells #[.int .i64 0,.int .i64 0] 48)).drew.cell? ⟨rb,0,none⟩=some (.pointer (some ⟨b,0,none⟩)) from (hb0.cell (p:=⟨rb,0,none⟩) hrl).trans hc)
 have HZl:=hid (box_lt HZ.out)
 have HL:=hid hl
 have HNe:Hid (¬ One b rb):=hid hne
 have HRl:=hid (Nat.lt_of_lt_of_le hrl hb0.size)
 clear hV hc hrl hne h hl hb0
 go_enter Tryz.func26,Tryz.ntmps26
 go_upto_region 1 with fail
 change Code.wp _ _ _ _ (w.alloc (.cells #[.int .i64 0,.int .i64 0] 48))
 generalize w.alloc (.cells #[.int .i64 0,.int .i64 0] 48)=wb at *
 obtain ⟨bx,hbx⟩:∃ bx,bx=w.heap.size:=⟨_,rfl⟩
 rw [← hbx] at HZ HZl ⊢
 have HBx2:Hid (bx=w.heap.size):=hid hbx
 clear hbx
 have HRl:Hid (rb<wb.drew.heap.size):=hid HRl.out
 have HZl:Hid (bx<wb.drew.heap.size):=hid HZl.out
 have HZ:Hid (wb.drew.heap[bx]?=some (.cells #[.int .i64 0,.int .i64 0] 48 (0,0))):=hid HZ.out
 refine wp_region_J (S:=fun w'=>w'.cell? ⟨rb,0,none⟩=some (.pointer (some ⟨b,0,none⟩))) (fun i=>[5].contains i) (by kernel_rfl) (HC.out) (fun hHeld=>?_)
 refine wpAnyJ_take (i:=0) (v:=?_) rfl (by kernel_rfl) (by kernel_rfl) (by kernel_rfl) (by kernel_rfl) (fun _ _ _ h=>h) (Or.inl ⟨by rfl,?_⟩) hHeld ?_
 rotate_left
 ·intro wq hSq
  skip
  go_simp
  try with_reducible rfl
 simp only [Act.put,sA,sB,sC]
 refine wpAnyJ_take (i:=2) (v:=?_) rfl (by kernel_rfl) (by kernel_rfl) (by kernel_rfl) (by kernel_rfl) (fun _ _ _ h=>h) (Or.inl ⟨by rfl,?_⟩) hHeld ?_
 rotate_left
 ·intro wq hSq
  skip
  go_simp
  try with_reducible rfl
 simp only [Act.put,sA,sB,sC]
 generalize wb.drew=w0 at *
 refine wpAnyJ_one (i:=1) rfl (by kernel_rfl) (fun K hK=>?_)
 go_simp
 have hle:=rNum_rest 59 0 s
 refine (rdNum_any b s w0 HV.out hBb HA.out HL.out).mono ?_
 rintro e w1 ⟨rfl,ha,ht⟩
 go_wp2_with fail
 refine hK.out _ _ (fun _ h=>cell_turn ht HRl.out HNe.out h) ?_
 clear hK K
 have HA:=hid ha
 have HV:=hid (HV.out.on (turn_below ht HV.out.le hBb))
 have HZ:=hid ((ht.block bx HZl.out (by have:=HBx2.out;have:=HBx.out;unfold One;omega)).trans HZ.out)
 have HRl:=hid (Nat.lt_of_lt_of_le HRl.out ht.size)
 have HZl:=hid (Nat.lt_of_lt_of_le HZl.out ht.size)
 have HT:=hid (HT.out.trans ht (fun i hi=>.inl hi))
 have HL:=hid (Nat.le_trans hle HL.out)
 clear ha ht hle
 generalize rNum 59 0 s=r1 at *
 obtain ⟨n1,s1⟩:=r1
 simp only at HOne HA HL ⊢
 refine wpAnyJ_one (i:=3) rfl (by kernel_rfl) (fun K hK=>?_)
 go_simp
 have hle:=rNum_rest 59 0 s1
 refine (rdNum_any b s1 w1 HV.out hBb HA.out HL.out).mono ?_
 rintro e w2 ⟨rfl,ha,ht⟩
 go_wp2_with fail
 refine hK.out _ _ (fun _ h=>cell_turn ht HRl.out HNe.out h) ?_
 clear hK K
 have HA:=hid ha
 have HV:=hid (HV.out.on (turn_below ht HV.out.le hBb))
 have HZ:=hid ((ht.block bx HZl.out (by have:=HBx2.out;have:=HBx.out;unfold One;omega)).trans HZ.out)
 have HRl:=hid (Nat.lt_of_lt_of_le HRl.out ht.size)
 have HZl:=hid (Nat.lt_of_lt_of_le HZl.out ht.size)
 have HT:=hid (HT.out.trans ht (fun i hi=>.inl hi))
 have HL:=hid (Nat.le_trans hle HL.out)
 clear ha ht hle
 generalize rNum 59 0 s1=r2 at *
 obtain ⟨n2,s2⟩:=r2
 simp only at HOne HA HL ⊢
 refine wpAnyJ_pure (i:=4) (v:=?_) rfl (by kernel_rfl) (by kernel_rfl) (by kernel_rfl) (fun _ _ _ h=>h) (Or.inl ⟨by rfl,?_⟩) ?_
 rotate_left
 ·intro wq _
  go_simp
  try with_reducible rfl
 simp only [Act.put,sA,sB,sC]
 refine wpAnyJ_one (i:=5) rfl (by kernel_rfl) (fun K hK=>?_)
 refine step_store_bx rfl 48 _ _ rfl bx #[.int .i64 n1,.int .i64 n2] rfl rfl (show w2.there bx 0 2 from there_of_box HZ.out) (by kernel_rfl) (by first | rfl | (simp;done) | (simp [Value.oneCell'];done)) ?_
 obtain ⟨ws,hws⟩:∃ x,x=w2.setCells bx 0 #[.int .i64 n1,.int .i64 n2].toList:=⟨_,rfl⟩
 have hrow:=World.rangeAt_setCells_same w2 bx 0 #[.int .i64 n1,.int .i64 n2].toList (show w2.there bx 0 2 from there_of_box HZ.out)
 have hgs:=grown_setCells w2 bx 0 #[.int .i64 n1,.int .i64 n2].toList
 rw [← hws] at hrow hgs ⊢
 have HRow:=hid hrow
 have HA:=hid (show RdAt b _ ws from (hgs.block b (Nat.lt_of_lt_of_le HBx.out HT.out.size) (fun e=>by have:=HBx2.out;have:=HBx.out;injection e with e;omega)).trans HA.out)
 have HT:=hid (HT.out.trans (Turn.grown (F:=One bx) hgs (fun k hk=>(Option.some.inj hk).symm)) (fun i hi=>.inr (by have:=HBx2.out;unfold One at hi;omega)))
 clear hws hrow hgs
 refine hK.out _ _ (fun h=>nomatch h) ?_
 clear hK K
 refine wpAnyJ_done (by kernel_rfl) ?_ _
 go_wp2_with fail
 refine ret_box 1 48 rfl bx _ _ rfl HRow.out Tryz.underlying48 rfl (by kernel_rfl) rfl ?_
 exact ⟨by rw [HOne.out],by rw [HOne.out];exact HA.out,HT.out⟩
theorem rc2_any {B:Nat} (rb b:Nat) (s:RS) (w:World) (hV:Vs B w) (hBb:B≤b) (hc:w.cell? ⟨rb,0,none⟩=some (.pointer (some ⟨b,0,none⟩))) (hrl:rb<w.heap.size) (hne:rb≠b) (h:RdAt b s w) (hl:s.rest.length≤1000000000000) :
  Calls Tryz.prog 28 #[.pointer (some ⟨rb,0,none⟩)] w fun e w'=>e=.returned (E5.v (one5 s).1)∧RdAt b (one5 s).2 w'∧Turn (One b) w w':=by
 have HOne:Hid (one5 s=_):=hid (show one5 s=(⟨(rNum 59 0 s).1,(rNum 59 0 (rNum 59 0 s).2).1,(rNum 59 0 (rNum 59 0 (rNum 59 0 s).2).2).1,(rNum 59 0 (rNum 59 0 (rNum 59 0 (rNum 59 0 s).2).2).2).1,(rNum 59 0 (rNum 59 0 (rNum 59 0 (rNum 59 0 (rNum 59 0 s).2).2).2).2).1==1⟩,(rNum 59 0 (rNum 59 0 (rNum 59 0 (rNum 59 0 (rNum 59 0 s).2).2).2).2).2) from rfl)
 have hb0:Below w.heap.size w (w.alloc (.cells #[.int .i64 0,.int .i64 0,.int .i64 0,.int .i64 0,.bool false] 59)):=by repeat (first | with_reducible exact Below.refl _ _ | with_reducible assumption | with_reducible refine Below.drew ?_ | with_reducible refine Below.alloc ?_ (by first | omega | (simp;done) | (simp;omega)) _)
 have HZ:Hid ((w.alloc (.cells #[.int .i64 0,.int .i64 0,.int .i64 0,.int .i64 0,.bool false] 59)).heap[w.heap.size]?=some (.cells #[.int .i64 0,.int .i64 0,.int .i64 0,.int .i64 0,.bool false] 59 (0,0))):=hid (MapKept.heap_alloc w _).1
 have HBx:Hid (b<w.heap.size):=hid h.lt
 have HT:Hid (Turn (One b) w (w.alloc (.cells #[.int .i64 0,.int .i64 0,.int .i64 0,.int .i64 0,.bool false] 59)).drew):=hid ((Turn.below hb0).drew)
 have HV:=hid (show Vs B (w.alloc (.cells #[.int .i64 0,.int .i64 0,.int .i64 0,.int .i64 0,.bool false] 59)).drew from hV.now (hb0.trans (Below.refl _ _).drew))
 have HA:=hid (show RdAt b s (w.alloc (.cells #[.int .i64 0,.int .i64 0,.int .i64 0,.int .i64 0,.bool false] 59)).drew from (h.now hb0).drew)
 have HC:=hid (show (w.alloc (.cells #[.int .i64 0,.int .i64 0,.int .i64 0,.int .i64 0,.bool false] 59)).drew.cell? ⟨rb,0,none⟩=some (.pointer (some ⟨b,0,none⟩)) from (hb0.cell (p:=⟨rb,0,none⟩) hrl).trans hc)
 have HZl:=hid (box_lt HZ.out)
 have HL:=hid hl
 have HNe:Hid (¬ One b rb):=hid hne
 have HRl:=hid (Nat.lt_of_lt_of_le hrl hb0.size)
 clear hV hc hrl hne h hl hb0
 go_enter Tryz.func28,Tryz.ntmps28
 go_upto_region 1 with fail
 change Code.wp _ _ _ _ (w.alloc (.cells #[.int .i64 0,.int .i64 0,.int .i64 0,.int .i64 0,.bool false] 59))
 generalize w.alloc (.cells #[.int .i64 0,.int .i64 0,.int .i64 0,.int .i64 0,.bool false] 59)=wb at *
 obtain ⟨bx,hbx⟩:∃ bx,bx=w.heap.size:=⟨_,rfl⟩
 rw [← hbx] at HZ HZl ⊢
 have HBx2:Hid (bx=w.heap.size):=hid hbx
 clear hbx
 have HRl:Hid (rb<wb.drew.heap.size):=hid HRl.out
 have HZl:Hid (bx<wb.drew.heap.size):=hid HZl.out
 have HZ:Hid (wb.drew.heap[bx]?=some (.cells #[.int .i64 0,.int .i64 0,.int .i64 0,.int .i64 0,.bool false] 59 (0,0))):=hid HZ.out
 refine wp_region_J (S:=fun w'=>w'.cell? ⟨rb,0,none⟩=some (.pointer (some ⟨b,0,none⟩))) (fun i=>[12].contains i) (by kernel_rfl) (HC.out) (fun hHeld=>?_)
 refine wpAnyJ_take (i:=0) (v:=?_) rfl (by kernel_rfl) (by kernel_rfl) (by kernel_rfl) (by kernel_rfl) (fun _ _ _ h=>h) (Or.inl ⟨by rfl,?_⟩) hHeld ?_
 rotate_left
 ·intro wq hSq
  skip
  go_simp
  try with_reducible rfl
 simp only [Act.put,sA,sB,sC]
 refine wpAnyJ_take (i:=2) (v:=?_) rfl (by kernel_rfl) (by kernel_rfl) (by kernel_rfl) (by kernel_rfl) (fun _ _ _ h=>h) (Or.inl ⟨by rfl,?_⟩) hHeld ?_
 rotate_left
 ·intro wq hSq
  skip
  go_simp
  try with_reducible rfl
 simp only [Act.put,sA,sB,sC]
 refine wpAnyJ_take (i:=4) (v:=?_) rfl (by kernel_rfl) (by kernel_rfl) (by kernel_rfl) (by kernel_rfl) (fun _ _ _ h=>h) (Or.inl ⟨by rfl,?_⟩) hHeld ?_
 rotate_left
 ·intro wq hSq
  skip
  go_simp
  try with_reducible rfl
 simp only [Act.put,sA,sB,sC]
 refine wpAnyJ_take (i:=6) (v:=?_) rfl (by kernel_rfl) (by kernel_rfl) (by kernel_rfl) (by kernel_rfl) (fun _ _ _ h=>h) (Or.inl ⟨by rfl,?_⟩) hHeld ?_
 rotate_left
 ·intro wq hSq
  skip
  go_simp
  try with_reducible rfl
 simp only [Act.put,sA,sB,sC]
 refine wpAnyJ_take (i:=8) (v:=?_) rfl (by kernel_rfl) (by kernel_rfl) (by kernel_rfl) (by kernel_rfl) (fun _ _ _ h=>h) (Or.inl ⟨by rfl,?_⟩) hHeld ?_
 rotate_left
 ·intro wq hSq
  skip
  go_simp
  try with_reducible rfl
 simp only [Act.put,sA,sB,sC]
 generalize wb.drew=w0 at *
 refine wpAnyJ_one (i:=1) rfl (by kernel_rfl) (fun K hK=>?_)
 go_simp
 have hle:=rNum_rest 59 0 s
 refine (rdNum_any b s w0 HV.out hBb HA.out HL.out).mono ?_
 rintro e w1 ⟨rfl,ha,ht⟩
 go_wp2_with fail
 refine hK.out _ _ (fun _ h=>cell_turn ht HRl.out HNe.out h) ?_
 clear hK K
 have HA:=hid ha
 have HV:=hid (HV.out.on (turn_below ht HV.out.le hBb))
 have HZ:=hid ((ht.block bx HZl.out (by have:=HBx2.out;have:=HBx.out;unfold One;omega)).trans HZ.out)
 have HRl:=hid (Nat.lt_of_lt_of_le HRl.out ht.size)
 have HZl:=hid (Nat.lt_of_lt_of_le HZl.out ht.size)
 have HT:=hid (HT.out.trans ht (fun i hi=>.inl hi))
 have HL:=hid (Nat.le_trans hle HL.out)
 clear ha ht hle
 generalize rNum 59 0 s=r1 at *
 obtain ⟨n1,s1⟩:=r1
 simp only at HOne HA HL ⊢
 refine wpAnyJ_one (i:=3) rfl (by kernel_rfl) (fun K hK=>?_)
 go_simp
 have hle:=rNum_rest 59 0 s1
 refine (rdNum_any b s1 w1 HV.out hBb HA.out HL.out).mono ?_
 rintro e w2 ⟨rfl,ha,ht⟩
 go_wp2_with fail
 refine hK.out _ _ (fun _ h=>cell_turn ht HRl.out HNe.out h) ?_
 clear hK K
 have HA:=hid ha
 have HV:=hid (HV.out.on (turn_below ht HV.out.le hBb))
 have HZ:=hid ((ht.block bx HZl.out (by have:=HBx2.out;have:=HBx.out;unfold One;omega)).trans HZ.out)
 have HRl:=hid (Nat.lt_of_lt_of_le HRl.out ht.size)
 have HZl:=hid (Nat.lt_of_lt_of_le HZl.out ht.size)
 have HT:=hid (HT.out.trans ht (fun i hi=>.inl hi))
 have HL:=hid (Nat.le_trans hle HL.out)
 clear ha ht hle
 generalize rNum 59 0 s1=r2 at *
 obtain ⟨n2,s2⟩:=r2
 simp only at HOne HA HL ⊢
 refine wpAnyJ_one (i:=5) rfl (by kernel_rfl) (fun K hK=>?_)
 go_simp
 have hle:=rNum_rest 59 0 s2
 refine (rdNum_any b s2 w2 HV.out hBb HA.out HL.out).mono ?_
 rintro e w3 ⟨rfl,ha,ht⟩
 go_wp2_with fail
 refine hK.out _ _ (fun _ h=>cell_turn ht HRl.out HNe.out h) ?_
 clear hK K
 have HA:=hid ha
 have HV:=hid (HV.out.on (turn_below ht HV.out.le hBb))
 have HZ:=hid ((ht.block bx HZl.out (by have:=HBx2.out;have:=HBx.out;unfold One;omega)).trans HZ.out)
 have HRl:=hid (Nat.lt_of_lt_of_le HRl.out ht.size)
 have HZl:=hid (Nat.lt_of_lt_of_le HZl.out ht.size)
 have HT:=hid (HT.out.trans ht (fun i hi=>.inl hi))
 have HL:=hid (Nat.le_trans hle HL.out)
 clear ha ht hle
 generalize rNum 59 0 s2=r3 at *
 obtain ⟨n3,s3⟩:=r3
 simp only at HOne HA HL ⊢
 refine wpAnyJ_one (i:=7) rfl (by kernel_rfl) (fun K hK=>?_)
 go_simp
 have hle:=rNum_rest 59 0 s3
 refine (rdNum_any b s3 w3 HV.out hBb HA.out HL.out).mono ?_
 rintro e w4 ⟨rfl,ha,ht⟩
 go_wp2_with fail
 refine hK.out _ _ (fun _ h=>cell_turn ht HRl.out HNe.out h) ?_
 clear hK K
 have HA:=hid ha
 have HV:=hid (HV.out.on (turn_below ht HV.out.le hBb))
 have HZ:=hid ((ht.block bx HZl.out (by have:=HBx2.out;have:=HBx.out;unfold One;omega)).trans HZ.out)
 have HRl:=hid (Nat.lt_of_lt_of_le HRl.out ht.size)
 have HZl:=hid (Nat.lt_of_lt_of_le HZl.out ht.size)
 have HT:=hid (HT.out.trans ht (fun i hi=>.inl hi))
 have HL:=hid (Nat.le_trans hle HL.out)
 clear ha ht hle
 generalize rNum 59 0 s3=r4 at *
 obtain ⟨n4,s4⟩:=r4
 simp only at HOne HA HL ⊢
 refine wpAnyJ_one (i:=9) rfl (by kernel_rfl) (fun K hK=>?_)
 go_simp
 have hle:=rNum_rest 59 0 s4
 refine (rdNum_any b s4 w4 HV.out hBb HA.out HL.out).mono ?_
 rintro e w5 ⟨rfl,ha,ht⟩
 go_wp2_with fail
 refine hK.out _ _ (fun _ h=>cell_turn ht HRl.out HNe.out h) ?_
 clear hK K
 have HA:=hid ha
 have HV:=hid (HV.out.on (turn_below ht HV.out.le hBb))
 have HZ:=hid ((ht.block bx HZl.out (by have:=HBx2.out;have:=HBx.out;unfold One;omega)).trans HZ.out)
 have HRl:=hid (Nat.lt_of_lt_of_le HRl.out ht.size)
 have HZl:=hid (Nat.lt_of_lt_of_le HZl.out ht.size)
 have HT:=hid (HT.out.trans ht (fun i hi=>.inl hi))
 have HL:=hid (Nat.le_trans hle HL.out)
 clear ha ht hle
 generalize rNum 59 0 s4=r5 at *
 obtain ⟨n5,s5⟩:=r5
 simp only at HOne HA HL ⊢
 refine wpAnyJ_pure (i:=10) (v:=?_) rfl (by kernel_rfl) (by kernel_rfl) (by kernel_rfl) (fun _ _ _ h=>h) (Or.inl ⟨by rfl,?_⟩) ?_
 rotate_left
 ·intro wq _
  go_simp
  try with_reducible rfl
 simp only [Act.put,sA,sB,sC]
 refine wpAnyJ_pure (i:=11) (v:=?_) rfl (by kernel_rfl) (by kernel_rfl) (by kernel_rfl) (fun _ _ _ h=>h) (Or.inl ⟨by rfl,?_⟩) ?_
 rotate_left
 ·intro wq _
  go_simp
  try with_reducible rfl
 simp only [Act.put,sA,sB,sC]
 refine wpAnyJ_one (i:=12) rfl (by kernel_rfl) (fun K hK=>?_)
 refine step_store_bx rfl 59 _ _ rfl bx #[.int .i64 n1,.int .i64 n2,.int .i64 n3,.int .i64 n4,.bool (n5==1)] rfl rfl (show w5.there bx 0 5 from there_of_box HZ.out) (by kernel_rfl) (by first | rfl | (simp;done) | (simp [Value.oneCell'];done)) ?_
 obtain ⟨ws,hws⟩:∃ x,x=w5.setCells bx 0 #[.int .i64 n1,.int .i64 n2,.int .i64 n3,.int .i64 n4,.bool (n5==1)].toList:=⟨_,rfl⟩
 have hrow:=World.rangeAt_setCells_same w5 bx 0 #[.int .i64 n1,.int .i64 n2,.int .i64 n3,.int .i64 n4,.bool (n5==1)].toList (show w5.there bx 0 5 from there_of_box HZ.out)
 have hgs:=grown_setCells w5 bx 0 #[.int .i64 n1,.int .i64 n2,.int .i64 n3,.int .i64 n4,.bool (n5==1)].toList
 rw [← hws] at hrow hgs ⊢
 have HRow:=hid hrow
 have HA:=hid (show RdAt b _ ws from (hgs.block b (Nat.lt_of_lt_of_le HBx.out HT.out.size) (fun e=>by have:=HBx2.out;have:=HBx.out;injection e with e;omega)).trans HA.out)
 have HT:=hid (HT.out.trans (Turn.grown (F:=One bx) hgs (fun k hk=>(Option.some.inj hk).symm)) (fun i hi=>.inr (by have:=HBx2.out;unfold One at hi;omega)))
 clear hws hrow hgs
 refine hK.out _ _ (fun h=>nomatch h) ?_
 clear hK K
 refine wpAnyJ_done (by kernel_rfl) ?_ _
 go_wp2_with fail
 refine ret_box 1 59 rfl bx _ _ rfl HRow.out Tryz.underlying59 rfl (by kernel_rfl) rfl ?_
 exact ⟨by rw [HOne.out],by rw [HOne.out];exact HA.out,HT.out⟩
theorem rc4_any {B:Nat} (rb b:Nat) (s:RS) (w:World) (hV:Vs B w) (hBb:B≤b) (hc:w.cell? ⟨rb,0,none⟩=some (.pointer (some ⟨b,0,none⟩))) (hrl:rb<w.heap.size) (hne:rb≠b) (h:RdAt b s w) (hl:s.rest.length≤1000000000000) :
  Calls Tryz.prog 34 #[.pointer (some ⟨rb,0,none⟩)] w fun e w'=>e=.returned (D4.v (one4 s).1)∧RdAt b (one4 s).2 w'∧Turn (One b) w w':=by
 have HOne:Hid (one4 s=_):=hid (show one4 s=(⟨(rNum 59 0 s).1,(rNum 59 0 (rNum 59 0 s).2).1,(rNum 59 0 (rNum 59 0 (rNum 59 0 s).2).2).1,(rNum 59 0 (rNum 59 0 (rNum 59 0 (rNum 59 0 s).2).2).2).1⟩,(rNum 59 0 (rNum 59 0 (rNum 59 0 (rNum 59 0 s).2).2).2).2) from rfl)
 have hb0:Below w.heap.size w (w.alloc (.cells #[.int .i64 0,.int .i64 0,.int .i64 0,.int .i64 0] 61)):=by repeat (first | with_reducible exact Below.refl _ _ | with_reducible assumption | with_reducible refine Below.drew ?_ | with_reducible refine Below.alloc ?_ (by first | omega | (simp;done) | (simp;omega)) _)
 have HZ:Hid ((w.alloc (.cells #[.int .i64 0,.int .i64 0,.int .i64 0,.int .i64 0] 61)).heap[w.heap.size]?=some (.cells #[.int .i64 0,.int .i64 0,.int .i64 0,.int .i64 0] 61 (0,0))):=hid (MapKept.heap_alloc w _).1
 have HBx:Hid (b<w.heap.size):=hid h.lt
 have HT:Hid (Turn (One b) w (w.alloc (.cells #[.int .i64 0,.int .i64 0,.int .i64 0,.int .i64 0] 61)).drew):=hid ((Turn.below hb0).drew)
 have HV:=hid (show Vs B (w.alloc (.cells #[.int .i64 0,.int .i64 0,.int .i64 0,.int .i64 0] 61)).drew from hV.now (hb0.trans (Below.refl _ _).drew))
 have HA:=hid (show RdAt b s (w.alloc (.cells #[.int .i64 0,.int .i64 0,.int .i64 0,.int .i64 0] 61)).drew from (h.now hb0).drew)
 have HC:=hid (show (w.alloc (.cells #[.int .i64 0,.int .i64 0,.int .i64 0,.int .i64 0] 61)).drew.cell? ⟨rb,0,none⟩=some (.pointer (some ⟨b,0,none⟩)) from (hb0.cell (p:=⟨rb,0,none⟩) hrl).trans hc)
 have HZl:=hid (box_lt HZ.out)
 have HL:=hid hl
 have HNe:Hid (¬ One b rb):=hid hne
 have HRl:=hid (Nat.lt_of_lt_of_le hrl hb0.size)
 clear hV hc hrl hne h hl hb0
 go_enter Tryz.func34,Tryz.ntmps34
 go_upto_region 1 with fail
 change Code.wp _ _ _ _ (w.alloc (.cells #[.int .i64 0,.int .i64 0,.int .i64 0,.int .i64 0] 61))
 generalize w.alloc (.cells #[.int .i64 0,.int .i64 0,.int .i64 0,.int .i64 0] 61)=wb at *
 obtain ⟨bx,hbx⟩:∃ bx,bx=w.heap.size:=⟨_,rfl⟩
 rw [← hbx] at HZ HZl ⊢
 have HBx2:Hid (bx=w.heap.size):=hid hbx
 clear hbx
 have HRl:Hid (rb<wb.drew.heap.size):=hid HRl.out
 have HZl:Hid (bx<wb.drew.heap.size):=hid HZl.out
 have HZ:Hid (wb.drew.heap[bx]?=some (.cells #[.int .i64 0,.int .i64 0,.int .i64 0,.int .i64 0] 61 (0,0))):=hid HZ.out
 refine wp_region_J (S:=fun w'=>w'.cell? ⟨rb,0,none⟩=some (.pointer (some ⟨b,0,none⟩))) (fun i=>[9].contains i) (by kernel_rfl) (HC.out) (fun hHeld=>?_)
 refine wpAnyJ_take (i:=0) (v:=?_) rfl (by kernel_rfl) (by kernel_rfl) (by kernel_rfl) (by kernel_rfl) (fun _ _ _ h=>h) (Or.inl ⟨by rfl,?_⟩) hHeld ?_
 rotate_left
 ·intro wq hSq
  skip
  go_simp
  try with_reducible rfl
 simp only [Act.put,sA,sB,sC]
 refine wpAnyJ_take (i:=2) (v:=?_) rfl (by kernel_rfl) (by kernel_rfl) (by kernel_rfl) (by kernel_rfl) (fun _ _ _ h=>h) (Or.inl ⟨by rfl,?_⟩) hHeld ?_
 rotate_left
 ·intro wq hSq
  skip
  go_simp
  try with_reducible rfl
 simp only [Act.put,sA,sB,sC]
 refine wpAnyJ_take (i:=4) (v:=?_) rfl (by kernel_rfl) (by kernel_rfl) (by kernel_rfl) (by kernel_rfl) (fun _ _ _ h=>h) (Or.inl ⟨by rfl,?_⟩) hHeld ?_
 rotate_left
 ·intro wq hSq
  skip
  go_simp
  try with_reducible rfl
 simp only [Act.put,sA,sB,sC]
 refine wpAnyJ_take (i:=6) (v:=?_) rfl (by kernel_rfl) (by kernel_rfl) (by kernel_rfl) (by kernel_rfl) (fun _ _ _ h=>h) (Or.inl ⟨by rfl,?_⟩) hHeld ?_
 rotate_left
 ·intro wq hSq
  skip
  go_simp
  try with_reducible rfl
 simp only [Act.put,sA,sB,sC]
 generalize wb.drew=w0 at *
 refine wpAnyJ_one (i:=1) rfl (by kernel_rfl) (fun K hK=>?_)
 go_simp
 have hle:=rNum_rest 59 0 s
 refine (rdNum_any b s w0 HV.out hBb HA.out HL.out).mono ?_
 rintro e w1 ⟨rfl,ha,ht⟩
 go_wp2_with fail
 refine hK.out _ _ (fun _ h=>cell_turn ht HRl.out HNe.out h) ?_
 clear hK K
 have HA:=hid ha
 have HV:=hid (HV.out.on (turn_below ht HV.out.le hBb))
 have HZ:=hid ((ht.block bx HZl.out (by have:=HBx2.out;have:=HBx.out;unfold One;omega)).trans HZ.out)
 have HRl:=hid (Nat.lt_of_lt_of_le HRl.out ht.size)
 have HZl:=hid (Nat.lt_of_lt_of_le HZl.out ht.size)
 have HT:=hid (HT.out.trans ht (fun i hi=>.inl hi))
 have HL:=hid (Nat.le_trans hle HL.out)
 clear ha ht hle
 generalize rNum 59 0 s=r1 at *
 obtain ⟨n1,s1⟩:=r1
 simp only at HOne HA HL ⊢
 refine wpAnyJ_one (i:=3) rfl (by kernel_rfl) (fun K hK=>?_)
 go_simp
 have hle:=rNum_rest 59 0 s1
 refine (rdNum_any b s1 w1 HV.out hBb HA.out HL.out).mono ?_
 rintro e w2 ⟨rfl,ha,ht⟩
 go_wp2_with fail
 refine hK.out _ _ (fun _ h=>cell_turn ht HRl.out HNe.out h) ?_
 clear hK K
 have HA:=hid ha
 have HV:=hid (HV.out.on (turn_below ht HV.out.le hBb))
 have HZ:=hid ((ht.block bx HZl.out (by have:=HBx2.out;have:=HBx.out;unfold One;omega)).trans HZ.out)
 have HRl:=hid (Nat.lt_of_lt_of_le HRl.out ht.size)
 have HZl:=hid (Nat.lt_of_lt_of_le HZl.out ht.size)
 have HT:=hid (HT.out.trans ht (fun i hi=>.inl hi))
 have HL:=hid (Nat.le_trans hle HL.out)
 clear ha ht hle
 generalize rNum 59 0 s1=r2 at *
 obtain ⟨n2,s2⟩:=r2
 simp only at HOne HA HL ⊢
 refine wpAnyJ_one (i:=5) rfl (by kernel_rfl) (fun K hK=>?_)
 go_simp
 have hle:=rNum_rest 59 0 s2
 refine (rdNum_any b s2 w2 HV.out hBb HA.out HL.out).mono ?_
 rintro e w3 ⟨rfl,ha,ht⟩
 go_wp2_with fail
 refine hK.out _ _ (fun _ h=>cell_turn ht HRl.out HNe.out h) ?_
 clear hK K
 have HA:=hid ha
 have HV:=hid (HV.out.on (turn_below ht HV.out.le hBb))
 have HZ:=hid ((ht.block bx HZl.out (by have:=HBx2.out;have:=HBx.out;unfold One;omega)).trans HZ.out)
 have HRl:=hid (Nat.lt_of_lt_of_le HRl.out ht.size)
 have HZl:=hid (Nat.lt_of_lt_of_le HZl.out ht.size)
 have HT:=hid (HT.out.trans ht (fun i hi=>.inl hi))
 have HL:=hid (Nat.le_trans hle HL.out)
 clear ha ht hle
 generalize rNum 59 0 s2=r3 at *
 obtain ⟨n3,s3⟩:=r3
 simp only at HOne HA HL ⊢
 refine wpAnyJ_one (i:=7) rfl (by kernel_rfl) (fun K hK=>?_)
 go_simp
 have hle:=rNum_rest 59 0 s3
 refine (rdNum_any b s3 w3 HV.out hBb HA.out HL.out).mono ?_
 rintro e w4 ⟨rfl,ha,ht⟩
 go_wp2_with fail
 refine hK.out _ _ (fun _ h=>cell_turn ht HRl.out HNe.out h) ?_
 clear hK K
 have HA:=hid ha
 have HV:=hid (HV.out.on (turn_below ht HV.out.le hBb))
 have HZ:=hid ((ht.block bx HZl.out (by have:=HBx2.out;have:=HBx.out;unfold One;omega)).trans HZ.out)
 have HRl:=hid (Nat.lt_of_lt_of_le HRl.out ht.size)
 have HZl:=hid (Nat.lt_of_lt_of_le HZl.out ht.size)
 have HT:=hid (HT.out.trans ht (fun i hi=>.inl hi))
 have HL:=hid (Nat.le_trans hle HL.out)
 clear ha ht hle
 generalize rNum 59 0 s3=r4 at *
 obtain ⟨n4,s4⟩:=r4
 simp only at HOne HA HL ⊢
 refine wpAnyJ_pure (i:=8) (v:=?_) rfl (by kernel_rfl) (by kernel_rfl) (by kernel_rfl) (fun _ _ _ h=>h) (Or.inl ⟨by rfl,?_⟩) ?_
 rotate_left
 ·intro wq _
  go_simp
  try with_reducible rfl
 simp only [Act.put,sA,sB,sC]
 refine wpAnyJ_one (i:=9) rfl (by kernel_rfl) (fun K hK=>?_)
 refine step_store_bx rfl 61 _ _ rfl bx #[.int .i64 n1,.int .i64 n2,.int .i64 n3,.int .i64 n4] rfl rfl (show w4.there bx 0 4 from there_of_box HZ.out) (by kernel_rfl) (by first | rfl | (simp;done) | (simp [Value.oneCell'];done)) ?_
 obtain ⟨ws,hws⟩:∃ x,x=w4.setCells bx 0 #[.int .i64 n1,.int .i64 n2,.int .i64 n3,.int .i64 n4].toList:=⟨_,rfl⟩
 have hrow:=World.rangeAt_setCells_same w4 bx 0 #[.int .i64 n1,.int .i64 n2,.int .i64 n3,.int .i64 n4].toList (show w4.there bx 0 4 from there_of_box HZ.out)
 have hgs:=grown_setCells w4 bx 0 #[.int .i64 n1,.int .i64 n2,.int .i64 n3,.int .i64 n4].toList
 rw [← hws] at hrow hgs ⊢
 have HRow:=hid hrow
 have HA:=hid (show RdAt b _ ws from (hgs.block b (Nat.lt_of_lt_of_le HBx.out HT.out.size) (fun e=>by have:=HBx2.out;have:=HBx.out;injection e with e;omega)).trans HA.out)
 have HT:=hid (HT.out.trans (Turn.grown (F:=One bx) hgs (fun k hk=>(Option.some.inj hk).symm)) (fun i hi=>.inr (by have:=HBx2.out;unfold One at hi;omega)))
 clear hws hrow hgs
 refine hK.out _ _ (fun h=>nomatch h) ?_
 clear hK K
 refine wpAnyJ_done (by kernel_rfl) ?_ _
 go_wp2_with fail
 refine ret_box 1 61 rfl bx _ _ rfl HRow.out Tryz.underlying61 rfl (by kernel_rfl) rfl ?_
 exact ⟨by rw [HOne.out],by rw [HOne.out];exact HA.out,HT.out⟩
theorem rc5_any {B:Nat} (rb b:Nat) (s:RS) (w:World) (hV:Vs B w) (hBb:B≤b) (hc:w.cell? ⟨rb,0,none⟩=some (.pointer (some ⟨b,0,none⟩))) (hrl:rb<w.heap.size) (hne:rb≠b) (h:RdAt b s w) (hl:s.rest.length≤1000000000000) :
  Calls Tryz.prog 36 #[.pointer (some ⟨rb,0,none⟩)] w fun e w'=>e=.returned (D3.v (one3 s).1)∧RdAt b (one3 s).2 w'∧Turn (One b) w w':=by
 have HOne:Hid (one3 s=_):=hid (show one3 s=(⟨(rNum 59 0 s).1,(rNum 59 0 (rNum 59 0 s).2).1,(rNum 59 0 (rNum 59 0 (rNum 59 0 s).2).2).1⟩,(rNum 59 0 (rNum 59 0 (rNum 59 0 s).2).2).2) from rfl)
 have hb0:Below w.heap.size w (w.alloc (.cells #[.int .i64 0,.int .i64 0,.int .i64 0] 46)):=by repeat (first | with_reducible exact Below.refl _ _ | with_reducible assumption | with_reducible refine Below.drew ?_ | with_reducible refine Below.alloc ?_ (by first | omega | (simp;done) | (simp;omega)) _)
 have HZ:Hid ((w.alloc (.cells #[.int .i64 0,.int .i64 0,.int .i64 0] 46)).heap[w.heap.size]?=some (.cells #[.int .i64 0,.int .i64 0,.int .i64 0] 46 (0,0))):=hid (MapKept.heap_alloc w _).1
 have HBx:Hid (b<w.heap.size):=hid h.lt
 have HT:Hid (Turn (One b) w (w.alloc (.cells #[.int .i64 0,.int .i64 0,.int .i64 0] 46)).drew):=hid ((Turn.below hb0).drew)
 have HV:=hid (show Vs B (w.alloc (.cells #[.int .i64 0,.int .i64 0,.int .i64 0] 46)).drew from hV.now (hb0.trans (Below.refl _ _).drew))
 have HA:=hid (show RdAt b s (w.alloc (.cells #[.int .i64 0,.int .i64 0,.int .i64 0] 46)).drew from (h.now hb0).drew)
 have HC:=hid (show (w.alloc (.cells #[.int .i64 0,.int .i64 0,.int .i64 0] 46)).drew.cell? ⟨rb,0,none⟩=some (.pointer (some ⟨b,0,none⟩)) from (hb0.cell (p:=⟨rb,0,none⟩) hrl).trans hc)
 have HZl:=hid (box_lt HZ.out)
 have HL:=hid hl
 have HNe:Hid (¬ One b rb):=hid hne
 have HRl:=hid (Nat.lt_of_lt_of_le hrl hb0.size)
 clear hV hc hrl hne h hl hb0
 go_enter Tryz.func36,Tryz.ntmps36
 go_upto_region 1 with fail
 change Code.wp _ _ _ _ (w.alloc (.cells #[.int .i64 0,.int .i64 0,.int .i64 0] 46))
 generalize w.alloc (.cells #[.int .i64 0,.int .i64 0,.int .i64 0] 46)=wb at *
 obtain ⟨bx,hbx⟩:∃ bx,bx=w.heap.size:=⟨_,rfl⟩
 rw [← hbx] at HZ HZl ⊢
 have HBx2:Hid (bx=w.heap.size):=hid hbx
 clear hbx
 have HRl:Hid (rb<wb.drew.heap.size):=hid HRl.out
 have HZl:Hid (bx<wb.drew.heap.size):=hid HZl.out
 have HZ:Hid (wb.drew.heap[bx]?=some (.cells #[.int .i64 0,.int .i64 0,.int .i64 0] 46 (0,0))):=hid HZ.out
 refine wp_region_J (S:=fun w'=>w'.cell? ⟨rb,0,none⟩=some (.pointer (some ⟨b,0,none⟩))) (fun i=>[7].contains i) (by kernel_rfl) (HC.out) (fun hHeld=>?_)
 refine wpAnyJ_take (i:=0) (v:=?_) rfl (by kernel_rfl) (by kernel_rfl) (by kernel_rfl) (by kernel_rfl) (fun _ _ _ h=>h) (Or.inl ⟨by rfl,?_⟩) hHeld ?_
 rotate_left
 ·intro wq hSq
  skip
  go_simp
  try with_reducible rfl
 simp only [Act.put,sA,sB,sC]
 refine wpAnyJ_take (i:=2) (v:=?_) rfl (by kernel_rfl) (by kernel_rfl) (by kernel_rfl) (by kernel_rfl) (fun _ _ _ h=>h) (Or.inl ⟨by rfl,?_⟩) hHeld ?_
 rotate_left
 ·intro wq hSq
  skip
  go_simp
  try with_reducible rfl
 simp only [Act.put,sA,sB,sC]
 refine wpAnyJ_take (i:=4) (v:=?_) rfl (by kernel_rfl) (by kernel_rfl) (by kernel_rfl) (by kernel_rfl) (fun _ _ _ h=>h) (Or.inl ⟨by rfl,?_⟩) hHeld ?_
 rotate_left
 ·intro wq hSq
  skip
  go_simp
  try with_reducible rfl
 simp only [Act.put,sA,sB,sC]
 generalize wb.drew=w0 at *
 refine wpAnyJ_one (i:=1) rfl (by kernel_rfl) (fun K hK=>?_)
 go_simp
 have hle:=rNum_rest 59 0 s
 refine (rdNum_any b s w0 HV.out hBb HA.out HL.out).mono ?_
 rintro e w1 ⟨rfl,ha,ht⟩
 go_wp2_with fail
 refine hK.out _ _ (fun _ h=>cell_turn ht HRl.out HNe.out h) ?_
 clear hK K
 have HA:=hid ha
 have HV:=hid (HV.out.on (turn_below ht HV.out.le hBb))
 have HZ:=hid ((ht.block bx HZl.out (by have:=HBx2.out;have:=HBx.out;unfold One;omega)).trans HZ.out)
 have HRl:=hid (Nat.lt_of_lt_of_le HRl.out ht.size)
 have HZl:=hid (Nat.lt_of_lt_of_le HZl.out ht.size)
 have HT:=hid (HT.out.trans ht (fun i hi=>.inl hi))
 have HL:=hid (Nat.le_trans hle HL.out)
 clear ha ht hle
 generalize rNum 59 0 s=r1 at *
 obtain ⟨n1,s1⟩:=r1
 simp only at HOne HA HL ⊢
 refine wpAnyJ_one (i:=3) rfl (by kernel_rfl) (fun K hK=>?_)
 go_simp
 have hle:=rNum_rest 59 0 s1
 refine (rdNum_any b s1 w1 HV.out hBb HA.out HL.out).mono ?_
 rintro e w2 ⟨rfl,ha,ht⟩
 go_wp2_with fail
 refine hK.out _ _ (fun _ h=>cell_turn ht HRl.out HNe.out h) ?_
 clear hK K
 have HA:=hid ha
 have HV:=hid (HV.out.on (turn_below ht HV.out.le hBb))
 have HZ:=hid ((ht.block bx HZl.out (by have:=HBx2.out;have:=HBx.out;unfold One;omega)).trans HZ.out)
 have HRl:=hid (Nat.lt_of_lt_of_le HRl.out ht.size)
 have HZl:=hid (Nat.lt_of_lt_of_le HZl.out ht.size)
 have HT:=hid (HT.out.trans ht (fun i hi=>.inl hi))
 have HL:=hid (Nat.le_trans hle HL.out)
 clear ha ht hle
 generalize rNum 59 0 s1=r2 at *
 obtain ⟨n2,s2⟩:=r2
 simp only at HOne HA HL ⊢
 refine wpAnyJ_one (i:=5) rfl (by kernel_rfl) (fun K hK=>?_)
 go_simp
 have hle:=rNum_rest 59 0 s2
 refine (rdNum_any b s2 w2 HV.out hBb HA.out HL.out).mono ?_
 rintro e w3 ⟨rfl,ha,ht⟩
 go_wp2_with fail
 refine hK.out _ _ (fun _ h=>cell_turn ht HRl.out HNe.out h) ?_
 clear hK K
 have HA:=hid ha
 have HV:=hid (HV.out.on (turn_below ht HV.out.le hBb))
 have HZ:=hid ((ht.block bx HZl.out (by have:=HBx2.out;have:=HBx.out;unfold One;omega)).trans HZ.out)
 have HRl:=hid (Nat.lt_of_lt_of_le HRl.out ht.size)
 have HZl:=hid (Nat.lt_of_lt_of_le HZl.out ht.size)
 have HT:=hid (HT.out.trans ht (fun i hi=>.inl hi))
 have HL:=hid (Nat.le_trans hle HL.out)
 clear ha ht hle
 generalize rNum 59 0 s2=r3 at *
 obtain ⟨n3,s3⟩:=r3
 simp only at HOne HA HL ⊢
 refine wpAnyJ_pure (i:=6) (v:=?_) rfl (by kernel_rfl) (by kernel_rfl) (by kernel_rfl) (fun _ _ _ h=>h) (Or.inl ⟨by rfl,?_⟩) ?_
 rotate_left
 ·intro wq _
  go_simp
  try with_reducible rfl
 simp only [Act.put,sA,sB,sC]
 refine wpAnyJ_one (i:=7) rfl (by kernel_rfl) (fun K hK=>?_)
 refine step_store_bx rfl 46 _ _ rfl bx #[.int .i64 n1,.int .i64 n2,.int .i64 n3] rfl rfl (show w3.there bx 0 3 from there_of_box HZ.out) (by kernel_rfl) (by first | rfl | (simp;done) | (simp [Value.oneCell'];done)) ?_
 obtain ⟨ws,hws⟩:∃ x,x=w3.setCells bx 0 #[.int .i64 n1,.int .i64 n2,.int .i64 n3].toList:=⟨_,rfl⟩
 have hrow:=World.rangeAt_setCells_same w3 bx 0 #[.int .i64 n1,.int .i64 n2,.int .i64 n3].toList (show w3.there bx 0 3 from there_of_box HZ.out)
 have hgs:=grown_setCells w3 bx 0 #[.int .i64 n1,.int .i64 n2,.int .i64 n3].toList
 rw [← hws] at hrow hgs ⊢
 have HRow:=hid hrow
 have HA:=hid (show RdAt b _ ws from (hgs.block b (Nat.lt_of_lt_of_le HBx.out HT.out.size) (fun e=>by have:=HBx2.out;have:=HBx.out;injection e with e;omega)).trans HA.out)
 have HT:=hid (HT.out.trans (Turn.grown (F:=One bx) hgs (fun k hk=>(Option.some.inj hk).symm)) (fun i hi=>.inr (by have:=HBx2.out;unfold One at hi;omega)))
 clear hws hrow hgs
 refine hK.out _ _ (fun h=>nomatch h) ?_
 clear hK K
 refine wpAnyJ_done (by kernel_rfl) ?_ _
 go_wp2_with fail
 refine ret_box 1 46 rfl bx _ _ rfl HRow.out Tryz.underlying46 rfl (by kernel_rfl) rfl ?_
 exact ⟨by rw [HOne.out],by rw [HOne.out];exact HA.out,HT.out⟩
theorem rc6_any {B:Nat} (rb b:Nat) (s:RS) (w:World) (hV:Vs B w) (hBb:B≤b) (hc:w.cell? ⟨rb,0,none⟩=some (.pointer (some ⟨b,0,none⟩))) (hrl:rb<w.heap.size) (hne:rb≠b) (h:RdAt b s w) (hl:s.rest.length≤1000000000000) :
  Calls Tryz.prog 39 #[.pointer (some ⟨rb,0,none⟩)] w fun e w'=>e=.returned (D4.v (one4 s).1)∧RdAt b (one4 s).2 w'∧Turn (One b) w w':=by
 have HOne:Hid (one4 s=_):=hid (show one4 s=(⟨(rNum 59 0 s).1,(rNum 59 0 (rNum 59 0 s).2).1,(rNum 59 0 (rNum 59 0 (rNum 59 0 s).2).2).1,(rNum 59 0 (rNum 59 0 (rNum 59 0 (rNum 59 0 s).2).2).2).1⟩,(rNum 59 0 (rNum 59 0 (rNum 59 0 (rNum 59 0 s).2).2).2).2) from rfl)
 have hb0:Below w.heap.size w (w.alloc (.cells #[.int .i64 0,.int .i64 0,.int .i64 0,.int .i64 0] 88)):=by repeat (first | with_reducible exact Below.refl _ _ | with_reducible assumption | with_reducible refine Below.drew ?_ | with_reducible refine Below.alloc ?_ (by first | omega | (simp;done) | (simp;omega)) _)
 have HZ:Hid ((w.alloc (.cells #[.int .i64 0,.int .i64 0,.int .i64 0,.int .i64 0] 88)).heap[w.heap.size]?=some (.cells #[.int .i64 0,.int .i64 0,.int .i64 0,.int .i64 0] 88 (0,0))):=hid (MapKept.heap_alloc w _).1
 have HBx:Hid (b<w.heap.size):=hid h.lt
 have HT:Hid (Turn (One b) w (w.alloc (.cells #[.int .i64 0,.int .i64 0,.int .i64 0,.int .i64 0] 88)).drew):=hid ((Turn.below hb0).drew)
 have HV:=hid (show Vs B (w.alloc (.cells #[.int .i64 0,.int .i64 0,.int .i64 0,.int .i64 0] 88)).drew from hV.now (hb0.trans (Below.refl _ _).drew))
 have HA:=hid (show RdAt b s (w.alloc (.cells #[.int .i64 0,.int .i64 0,.int .i64 0,.int .i64 0] 88)).drew from (h.now hb0).drew)
 have HC:=hid (show (w.alloc (.cells #[.int .i64 0,.int .i64 0,.int .i64 0,.int .i64 0] 88)).drew.cell? ⟨rb,0,none⟩=some (.pointer (some ⟨b,0,none⟩)) from (hb0.cell (p:=⟨rb,0,none⟩) hrl).trans hc)
 have HZl:=hid (box_lt HZ.out)
 have HL:=hid hl
 have HNe:Hid (¬ One b rb):=hid hne
 have HRl:=hid (Nat.lt_of_lt_of_le hrl hb0.size)
 clear hV hc hrl hne h hl hb0
 go_enter Tryz.func39,Tryz.ntmps39
 go_upto_region 1 with fail
 change Code.wp _ _ _ _ (w.alloc (.cells #[.int .i64 0,.int .i64 0,.int .i64 0,.int .i64 0] 88))
 generalize w.alloc (.cells #[.int .i64 0,.int .i64 0,.int .i64 0,.int .i64 0] 88)=wb at *
 obtain ⟨bx,hbx⟩:∃ bx,bx=w.heap.size:=⟨_,rfl⟩
 rw [← hbx] at HZ HZl ⊢
 have HBx2:Hid (bx=w.heap.size):=hid hbx
 clear hbx
 have HRl:Hid (rb<wb.drew.heap.size):=hid HRl.out
 have HZl:Hid (bx<wb.drew.heap.size):=hid HZl.out
 have HZ:Hid (wb.drew.heap[bx]?=some (.cells #[.int .i64 0,.int .i64 0,.int .i64 0,.int .i64 0] 88 (0,0))):=hid HZ.out
 refine wp_region_J (S:=fun w'=>w'.cell? ⟨rb,0,none⟩=some (.pointer (some ⟨b,0,none⟩))) (fun i=>[9].contains i) (by kernel_rfl) (HC.out) (fun hHeld=>?_)
 refine wpAnyJ_take (i:=0) (v:=?_) rfl (by kernel_rfl) (by kernel_rfl) (by kernel_rfl) (by kernel_rfl) (fun _ _ _ h=>h) (Or.inl ⟨by rfl,?_⟩) hHeld ?_
 rotate_left
 ·intro wq hSq
  skip
  go_simp
  try with_reducible rfl
 simp only [Act.put,sA,sB,sC]
 refine wpAnyJ_take (i:=2) (v:=?_) rfl (by kernel_rfl) (by kernel_rfl) (by kernel_rfl) (by kernel_rfl) (fun _ _ _ h=>h) (Or.inl ⟨by rfl,?_⟩) hHeld ?_
 rotate_left
 ·intro wq hSq
  skip
  go_simp
  try with_reducible rfl
 simp only [Act.put,sA,sB,sC]
 refine wpAnyJ_take (i:=4) (v:=?_) rfl (by kernel_rfl) (by kernel_rfl) (by kernel_rfl) (by kernel_rfl) (fun _ _ _ h=>h) (Or.inl ⟨by rfl,?_⟩) hHeld ?_
 rotate_left
 ·intro wq hSq
  skip
  go_simp
  try with_reducible rfl
 simp only [Act.put,sA,sB,sC]
 refine wpAnyJ_take (i:=6) (v:=?_) rfl (by kernel_rfl) (by kernel_rfl) (by kernel_rfl) (by kernel_rfl) (fun _ _ _ h=>h) (Or.inl ⟨by rfl,?_⟩) hHeld ?_
 rotate_left
 ·intro wq hSq
  skip
  go_simp
  try with_reducible rfl
 simp only [Act.put,sA,sB,sC]
 generalize wb.drew=w0 at *
 refine wpAnyJ_one (i:=1) rfl (by kernel_rfl) (fun K hK=>?_)
 go_simp
 have hle:=rNum_rest 59 0 s
 refine (rdNum_any b s w0 HV.out hBb HA.out HL.out).mono ?_
 rintro e w1 ⟨rfl,ha,ht⟩
 go_wp2_with fail
 refine hK.out _ _ (fun _ h=>cell_turn ht HRl.out HNe.out h) ?_
 clear hK K
 have HA:=hid ha
 have HV:=hid (HV.out.on (turn_below ht HV.out.le hBb))
 have HZ:=hid ((ht.block bx HZl.out (by have:=HBx2.out;have:=HBx.out;unfold One;omega)).trans HZ.out)
 have HRl:=hid (Nat.lt_of_lt_of_le HRl.out ht.size)
 have HZl:=hid (Nat.lt_of_lt_of_le HZl.out ht.size)
 have HT:=hid (HT.out.trans ht (fun i hi=>.inl hi))
 have HL:=hid (Nat.le_trans hle HL.out)
 clear ha ht hle
 generalize rNum 59 0 s=r1 at *
 obtain ⟨n1,s1⟩:=r1
 simp only at HOne HA HL ⊢
 refine wpAnyJ_one (i:=3) rfl (by kernel_rfl) (fun K hK=>?_)
 go_simp
 have hle:=rNum_rest 59 0 s1
 refine (rdNum_any b s1 w1 HV.out hBb HA.out HL.out).mono ?_
 rintro e w2 ⟨rfl,ha,ht⟩
 go_wp2_with fail
 refine hK.out _ _ (fun _ h=>cell_turn ht HRl.out HNe.out h) ?_
 clear hK K
 have HA:=hid ha
 have HV:=hid (HV.out.on (turn_below ht HV.out.le hBb))
 have HZ:=hid ((ht.block bx HZl.out (by have:=HBx2.out;have:=HBx.out;unfold One;omega)).trans HZ.out)
 have HRl:=hid (Nat.lt_of_lt_of_le HRl.out ht.size)
 have HZl:=hid (Nat.lt_of_lt_of_le HZl.out ht.size)
 have HT:=hid (HT.out.trans ht (fun i hi=>.inl hi))
 have HL:=hid (Nat.le_trans hle HL.out)
 clear ha ht hle
 generalize rNum 59 0 s1=r2 at *
 obtain ⟨n2,s2⟩:=r2
 simp only at HOne HA HL ⊢
 refine wpAnyJ_one (i:=5) rfl (by kernel_rfl) (fun K hK=>?_)
 go_simp
 have hle:=rNum_rest 59 0 s2
 refine (rdNum_any b s2 w2 HV.out hBb HA.out HL.out).mono ?_
 rintro e w3 ⟨rfl,ha,ht⟩
 go_wp2_with fail
 refine hK.out _ _ (fun _ h=>cell_turn ht HRl.out HNe.out h) ?_
 clear hK K
 have HA:=hid ha
 have HV:=hid (HV.out.on (turn_below ht HV.out.le hBb))
 have HZ:=hid ((ht.block bx HZl.out (by have:=HBx2.out;have:=HBx.out;unfold One;omega)).trans HZ.out)
 have HRl:=hid (Nat.lt_of_lt_of_le HRl.out ht.size)
 have HZl:=hid (Nat.lt_of_lt_of_le HZl.out ht.size)
 have HT:=hid (HT.out.trans ht (fun i hi=>.inl hi))
 have HL:=hid (Nat.le_trans hle HL.out)
 clear ha ht hle
 generalize rNum 59 0 s2=r3 at *
 obtain ⟨n3,s3⟩:=r3
 simp only at HOne HA HL ⊢
 refine wpAnyJ_one (i:=7) rfl (by kernel_rfl) (fun K hK=>?_)
 go_simp
 have hle:=rNum_rest 59 0 s3
 refine (rdNum_any b s3 w3 HV.out hBb HA.out HL.out).mono ?_
 rintro e w4 ⟨rfl,ha,ht⟩
 go_wp2_with fail
 refine hK.out _ _ (fun _ h=>cell_turn ht HRl.out HNe.out h) ?_
 clear hK K
 have HA:=hid ha
 have HV:=hid (HV.out.on (turn_below ht HV.out.le hBb))
 have HZ:=hid ((ht.block bx HZl.out (by have:=HBx2.out;have:=HBx.out;unfold One;omega)).trans HZ.out)
 have HRl:=hid (Nat.lt_of_lt_of_le HRl.out ht.size)
 have HZl:=hid (Nat.lt_of_lt_of_le HZl.out ht.size)
 have HT:=hid (HT.out.trans ht (fun i hi=>.inl hi))
 have HL:=hid (Nat.le_trans hle HL.out)
 clear ha ht hle
 generalize rNum 59 0 s3=r4 at *
 obtain ⟨n4,s4⟩:=r4
 simp only at HOne HA HL ⊢
 refine wpAnyJ_pure (i:=8) (v:=?_) rfl (by kernel_rfl) (by kernel_rfl) (by kernel_rfl) (fun _ _ _ h=>h) (Or.inl ⟨by rfl,?_⟩) ?_
 rotate_left
 ·intro wq _
  go_simp
  try with_reducible rfl
 simp only [Act.put,sA,sB,sC]
 refine wpAnyJ_one (i:=9) rfl (by kernel_rfl) (fun K hK=>?_)
 refine step_store_bx rfl 88 _ _ rfl bx #[.int .i64 n1,.int .i64 n2,.int .i64 n3,.int .i64 n4] rfl rfl (show w4.there bx 0 4 from there_of_box HZ.out) (by kernel_rfl) (by first | rfl | (simp;done) | (simp [Value.oneCell'];done)) ?_
 obtain ⟨ws,hws⟩:∃ x,x=w4.setCells bx 0 #[.int .i64 n1,.int .i64 n2,.int .i64 n3,.int .i64 n4].toList:=⟨_,rfl⟩
 have hrow:=World.rangeAt_setCells_same w4 bx 0 #[.int .i64 n1,.int .i64 n2,.int .i64 n3,.int .i64 n4].toList (show w4.there bx 0 4 from there_of_box HZ.out)
 have hgs:=grown_setCells w4 bx 0 #[.int .i64 n1,.int .i64 n2,.int .i64 n3,.int .i64 n4].toList
 rw [← hws] at hrow hgs ⊢
 have HRow:=hid hrow
 have HA:=hid (show RdAt b _ ws from (hgs.block b (Nat.lt_of_lt_of_le HBx.out HT.out.size) (fun e=>by have:=HBx2.out;have:=HBx.out;injection e with e;omega)).trans HA.out)
 have HT:=hid (HT.out.trans (Turn.grown (F:=One bx) hgs (fun k hk=>(Option.some.inj hk).symm)) (fun i hi=>.inr (by have:=HBx2.out;unfold One at hi;omega)))
 clear hws hrow hgs
 refine hK.out _ _ (fun h=>nomatch h) ?_
 clear hK K
 refine wpAnyJ_done (by kernel_rfl) ?_ _
 go_wp2_with fail
 refine ret_box 1 88 rfl bx _ _ rfl HRow.out Tryz.underlying88 rfl (by kernel_rfl) rfl ?_
 exact ⟨by rw [HOne.out],by rw [HOne.out];exact HA.out,HT.out⟩
theorem rc7_any {B:Nat} (rb b:Nat) (s:RS) (w:World) (hV:Vs B w) (hBb:B≤b) (hc:w.cell? ⟨rb,0,none⟩=some (.pointer (some ⟨b,0,none⟩))) (hrl:rb<w.heap.size) (hne:rb≠b) (h:RdAt b s w) (hl:s.rest.length≤1000000000000) :
  Calls Tryz.prog 41 #[.pointer (some ⟨rb,0,none⟩)] w fun e w'=>e=.returned (D3.v (one3 s).1)∧RdAt b (one3 s).2 w'∧Turn (One b) w w':=by
 have HOne:Hid (one3 s=_):=hid (show one3 s=(⟨(rNum 59 0 s).1,(rNum 59 0 (rNum 59 0 s).2).1,(rNum 59 0 (rNum 59 0 (rNum 59 0 s).2).2).1⟩,(rNum 59 0 (rNum 59 0 (rNum 59 0 s).2).2).2) from rfl)
 have hb0:Below w.heap.size w (w.alloc (.cells #[.int .i64 0,.int .i64 0,.int .i64 0] 92)):=by repeat (first | with_reducible exact Below.refl _ _ | with_reducible assumption | with_reducible refine Below.drew ?_ | with_reducible refine Below.alloc ?_ (by first | omega | (simp;done) | (simp;omega)) _)
 have HZ:Hid ((w.alloc (.cells #[.int .i64 0,.int .i64 0,.int .i64 0] 92)).heap[w.heap.size]?=some (.cells #[.int .i64 0,.int .i64 0,.int .i64 0] 92 (0,0))):=hid (MapKept.heap_alloc w _).1
 have HBx:Hid (b<w.heap.size):=hid h.lt
 have HT:Hid (Turn (One b) w (w.alloc (.cells #[.int .i64 0,.int .i64 0,.int .i64 0] 92)).drew):=hid ((Turn.below hb0).drew)
 have HV:=hid (show Vs B (w.alloc (.cells #[.int .i64 0,.int .i64 0,.int .i64 0] 92)).drew from hV.now (hb0.trans (Below.refl _ _).drew))
 have HA:=hid (show RdAt b s (w.alloc (.cells #[.int .i64 0,.int .i64 0,.int .i64 0] 92)).drew from (h.now hb0).drew)
 have HC:=hid (show (w.alloc (.cells #[.int .i64 0,.int .i64 0,.int .i64 0] 92)).drew.cell? ⟨rb,0,none⟩=some (.pointer (some ⟨b,0,none⟩)) from (hb0.cell (p:=⟨rb,0,none⟩) hrl).trans hc)
 have HZl:=hid (box_lt HZ.out)
 have HL:=hid hl
 have HNe:Hid (¬ One b rb):=hid hne
 have HRl:=hid (Nat.lt_of_lt_of_le hrl hb0.size)
 clear hV hc hrl hne h hl hb0
 go_enter Tryz.func41,Tryz.ntmps41
 go_upto_region 1 with fail
 change Code.wp _ _ _ _ (w.alloc (.cells #[.int .i64 0,.int .i64 0,.int .i64 0] 92))
 generalize w.alloc (.cells #[.int .i64 0,.int .i64 0,.int .i64 0] 92)=wb at *
 obtain ⟨bx,hbx⟩:∃ bx,bx=w.heap.size:=⟨_,rfl⟩
 rw [← hbx] at HZ HZl ⊢
 have HBx2:Hid (bx=w.heap.size):=hid hbx
 clear hbx
 have HRl:Hid (rb<wb.drew.heap.size):=hid HRl.out
 have HZl:Hid (bx<wb.drew.heap.size):=hid HZl.out
 have HZ:Hid (wb.drew.heap[bx]?=some (.cells #[.int .i64 0,.int .i64 0,.int .i64 0] 92 (0,0))):=hid HZ.out
 refine wp_region_J (S:=fun w'=>w'.cell? ⟨rb,0,none⟩=some (.pointer (some ⟨b,0,none⟩))) (fun i=>[7].contains i) (by kernel_rfl) (HC.out) (fun hHeld=>?_)
 refine wpAnyJ_take (i:=0) (v:=?_) rfl (by kernel_rfl) (by kernel_rfl) (by kernel_rfl) (by kernel_rfl) (fun _ _ _ h=>h) (Or.inl ⟨by rfl,?_⟩) hHeld ?_
 rotate_left
 ·intro wq hSq
  skip
  go_simp
  try with_reducible rfl
 simp only [Act.put,sA,sB,sC]
 refine wpAnyJ_take (i:=2) (v:=?_) rfl (by kernel_rfl) (by kernel_rfl) (by kernel_rfl) (by kernel_rfl) (fun _ _ _ h=>h) (Or.inl ⟨by rfl,?_⟩) hHeld ?_
 rotate_left
 ·intro wq hSq
  skip
  go_simp
  try with_reducible rfl
 simp only [Act.put,sA,sB,sC]
 refine wpAnyJ_take (i:=4) (v:=?_) rfl (by kernel_rfl) (by kernel_rfl) (by kernel_rfl) (by kernel_rfl) (fun _ _ _ h=>h) (Or.inl ⟨by rfl,?_⟩) hHeld ?_
 rotate_left
 ·intro wq hSq
  skip
  go_simp
  try with_reducible rfl
 simp only [Act.put,sA,sB,sC]
 generalize wb.drew=w0 at *
 refine wpAnyJ_one (i:=1) rfl (by kernel_rfl) (fun K hK=>?_)
 go_simp
 have hle:=rNum_rest 59 0 s
 refine (rdNum_any b s w0 HV.out hBb HA.out HL.out).mono ?_
 rintro e w1 ⟨rfl,ha,ht⟩
 go_wp2_with fail
 refine hK.out _ _ (fun _ h=>cell_turn ht HRl.out HNe.out h) ?_
 clear hK K
 have HA:=hid ha
 have HV:=hid (HV.out.on (turn_below ht HV.out.le hBb))
 have HZ:=hid ((ht.block bx HZl.out (by have:=HBx2.out;have:=HBx.out;unfold One;omega)).trans HZ.out)
 have HRl:=hid (Nat.lt_of_lt_of_le HRl.out ht.size)
 have HZl:=hid (Nat.lt_of_lt_of_le HZl.out ht.size)
 have HT:=hid (HT.out.trans ht (fun i hi=>.inl hi))
 have HL:=hid (Nat.le_trans hle HL.out)
 clear ha ht hle
 generalize rNum 59 0 s=r1 at *
 obtain ⟨n1,s1⟩:=r1
 simp only at HOne HA HL ⊢
 refine wpAnyJ_one (i:=3) rfl (by kernel_rfl) (fun K hK=>?_)
 go_simp
 have hle:=rNum_rest 59 0 s1
 refine (rdNum_any b s1 w1 HV.out hBb HA.out HL.out).mono ?_
 rintro e w2 ⟨rfl,ha,ht⟩
 go_wp2_with fail
 refine hK.out _ _ (fun _ h=>cell_turn ht HRl.out HNe.out h) ?_
 clear hK K
 have HA:=hid ha
 have HV:=hid (HV.out.on (turn_below ht HV.out.le hBb))
 have HZ:=hid ((ht.block bx HZl.out (by have:=HBx2.out;have:=HBx.out;unfold One;omega)).trans HZ.out)
 have HRl:=hid (Nat.lt_of_lt_of_le HRl.out ht.size)
 have HZl:=hid (Nat.lt_of_lt_of_le HZl.out ht.size)
 have HT:=hid (HT.out.trans ht (fun i hi=>.inl hi))
 have HL:=hid (Nat.le_trans hle HL.out)
 clear ha ht hle
 generalize rNum 59 0 s1=r2 at *
 obtain ⟨n2,s2⟩:=r2
 simp only at HOne HA HL ⊢
 refine wpAnyJ_one (i:=5) rfl (by kernel_rfl) (fun K hK=>?_)
 go_simp
 have hle:=rNum_rest 59 0 s2
 refine (rdNum_any b s2 w2 HV.out hBb HA.out HL.out).mono ?_
 rintro e w3 ⟨rfl,ha,ht⟩
 go_wp2_with fail
 refine hK.out _ _ (fun _ h=>cell_turn ht HRl.out HNe.out h) ?_
 clear hK K
 have HA:=hid ha
 have HV:=hid (HV.out.on (turn_below ht HV.out.le hBb))
 have HZ:=hid ((ht.block bx HZl.out (by have:=HBx2.out;have:=HBx.out;unfold One;omega)).trans HZ.out)
 have HRl:=hid (Nat.lt_of_lt_of_le HRl.out ht.size)
 have HZl:=hid (Nat.lt_of_lt_of_le HZl.out ht.size)
 have HT:=hid (HT.out.trans ht (fun i hi=>.inl hi))
 have HL:=hid (Nat.le_trans hle HL.out)
 clear ha ht hle
 generalize rNum 59 0 s2=r3 at *
 obtain ⟨n3,s3⟩:=r3
 simp only at HOne HA HL ⊢
 refine wpAnyJ_pure (i:=6) (v:=?_) rfl (by kernel_rfl) (by kernel_rfl) (by kernel_rfl) (fun _ _ _ h=>h) (Or.inl ⟨by rfl,?_⟩) ?_
 rotate_left
 ·intro wq _
  go_simp
  try with_reducible rfl
 simp only [Act.put,sA,sB,sC]
 refine wpAnyJ_one (i:=7) rfl (by kernel_rfl) (fun K hK=>?_)
 refine step_store_bx rfl 92 _ _ rfl bx #[.int .i64 n1,.int .i64 n2,.int .i64 n3] rfl rfl (show w3.there bx 0 3 from there_of_box HZ.out) (by kernel_rfl) (by first | rfl | (simp;done) | (simp [Value.oneCell'];done)) ?_
 obtain ⟨ws,hws⟩:∃ x,x=w3.setCells bx 0 #[.int .i64 n1,.int .i64 n2,.int .i64 n3].toList:=⟨_,rfl⟩
 have hrow:=World.rangeAt_setCells_same w3 bx 0 #[.int .i64 n1,.int .i64 n2,.int .i64 n3].toList (show w3.there bx 0 3 from there_of_box HZ.out)
 have hgs:=grown_setCells w3 bx 0 #[.int .i64 n1,.int .i64 n2,.int .i64 n3].toList
 rw [← hws] at hrow hgs ⊢
 have HRow:=hid hrow
 have HA:=hid (show RdAt b _ ws from (hgs.block b (Nat.lt_of_lt_of_le HBx.out HT.out.size) (fun e=>by have:=HBx2.out;have:=HBx.out;injection e with e;omega)).trans HA.out)
 have HT:=hid (HT.out.trans (Turn.grown (F:=One bx) hgs (fun k hk=>(Option.some.inj hk).symm)) (fun i hi=>.inr (by have:=HBx2.out;unfold One at hi;omega)))
 clear hws hrow hgs
 refine hK.out _ _ (fun h=>nomatch h) ?_
 clear hK K
 refine wpAnyJ_done (by kernel_rfl) ?_ _
 go_wp2_with fail
 refine ret_box 1 92 rfl bx _ _ rfl HRow.out Tryz.underlying92 rfl (by kernel_rfl) rfl ?_
 exact ⟨by rw [HOne.out],by rw [HOne.out];exact HA.out,HT.out⟩
theorem rc9_any {B:Nat} (rb b:Nat) (s:RS) (w:World) (hV:Vs B w) (hBb:B≤b) (hc:w.cell? ⟨rb,0,none⟩=some (.pointer (some ⟨b,0,none⟩))) (hrl:rb<w.heap.size) (hne:rb≠b) (h:RdAt b s w) (hl:s.rest.length≤1000000000000) :
  Calls Tryz.prog 46 #[.pointer (some ⟨rb,0,none⟩)] w fun e w'=>e=.returned (E3.v (oneB s).1)∧RdAt b (oneB s).2 w'∧Turn (One b) w w':=by
 have HOne:Hid (oneB s=_):=hid (show oneB s=(⟨(rNum 59 0 s).1,(rNum 59 0 (rNum 59 0 s).2).1,(rNum 59 0 (rNum 59 0 (rNum 59 0 s).2).2).1==1⟩,(rNum 59 0 (rNum 59 0 (rNum 59 0 s).2).2).2) from rfl)
 have hb0:Below w.heap.size w (w.alloc (.cells #[.int .i64 0,.int .i64 0,.bool false] 99)):=by repeat (first | with_reducible exact Below.refl _ _ | with_reducible assumption | with_reducible refine Below.drew ?_ | with_reducible refine Below.alloc ?_ (by first | omega | (simp;done) | (simp;omega)) _)
 have HZ:Hid ((w.alloc (.cells #[.int .i64 0,.int .i64 0,.bool false] 99)).heap[w.heap.size]?=some (.cells #[.int .i64 0,.int .i64 0,.bool false] 99 (0,0))):=hid (MapKept.heap_alloc w _).1
 have HBx:Hid (b<w.heap.size):=hid h.lt
 have HT:Hid (Turn (One b) w (w.alloc (.cells #[.int .i64 0,.int .i64 0,.bool false] 99)).drew):=hid ((Turn.below hb0).drew)
 have HV:=hid (show Vs B (w.alloc (.cells #[.int .i64 0,.int .i64 0,.bool false] 99)).drew from hV.now (hb0.trans (Below.refl _ _).drew))
 have HA:=hid (show RdAt b s (w.alloc (.cells #[.int .i64 0,.int .i64 0,.bool false] 99)).drew from (h.now hb0).drew)
 have HC:=hid (show (w.alloc (.cells #[.int .i64 0,.int .i64 0,.bool false] 99)).drew.cell? ⟨rb,0,none⟩=some (.pointer (some ⟨b,0,none⟩)) from (hb0.cell (p:=⟨rb,0,none⟩) hrl).trans hc)
 have HZl:=hid (box_lt HZ.out)
 have HL:=hid hl
 have HNe:Hid (¬ One b rb):=hid hne
 have HRl:=hid (Nat.lt_of_lt_of_le hrl hb0.size)
 clear hV hc hrl hne h hl hb0
 go_enter Tryz.func46,Tryz.ntmps46
 go_upto_region 1 with fail
 change Code.wp _ _ _ _ (w.alloc (.cells #[.int .i64 0,.int .i64 0,.bool false] 99))
 generalize w.alloc (.cells #[.int .i64 0,.int .i64 0,.bool false] 99)=wb at *
 obtain ⟨bx,hbx⟩:∃ bx,bx=w.heap.size:=⟨_,rfl⟩
 rw [← hbx] at HZ HZl ⊢
 have HBx2:Hid (bx=w.heap.size):=hid hbx
 clear hbx
 have HRl:Hid (rb<wb.drew.heap.size):=hid HRl.out
 have HZl:Hid (bx<wb.drew.heap.size):=hid HZl.out
 have HZ:Hid (wb.drew.heap[bx]?=some (.cells #[.int .i64 0,.int .i64 0,.bool false] 99 (0,0))):=hid HZ.out
 refine wp_region_J (S:=fun w'=>w'.cell? ⟨rb,0,none⟩=some (.pointer (some ⟨b,0,none⟩))) (fun i=>[8].contains i) (by kernel_rfl) (HC.out) (fun hHeld=>?_)
 refine wpAnyJ_take (i:=0) (v:=?_) rfl (by kernel_rfl) (by kernel_rfl) (by kernel_rfl) (by kernel_rfl) (fun _ _ _ h=>h) (Or.inl ⟨by rfl,?_⟩) hHeld ?_
 rotate_left
 ·intro wq hSq
  skip
  go_simp
  try with_reducible rfl
 simp only [Act.put,sA,sB,sC]
 refine wpAnyJ_take (i:=2) (v:=?_) rfl (by kernel_rfl) (by kernel_rfl) (by kernel_rfl) (by kernel_rfl) (fun _ _ _ h=>h) (Or.inl ⟨by rfl,?_⟩) hHeld ?_
 rotate_left
 ·intro wq hSq
  skip
  go_simp
  try with_reducible rfl
 simp only [Act.put,sA,sB,sC]
 refine wpAnyJ_take (i:=4) (v:=?_) rfl (by kernel_rfl) (by kernel_rfl) (by kernel_rfl) (by kernel_rfl) (fun _ _ _ h=>h) (Or.inl ⟨by rfl,?_⟩) hHeld ?_
 rotate_left
 ·intro wq hSq
  skip
  go_simp
  try with_reducible rfl
 simp only [Act.put,sA,sB,sC]
 generalize wb.drew=w0 at *
 refine wpAnyJ_one (i:=1) rfl (by kernel_rfl) (fun K hK=>?_)
 go_simp
 have hle:=rNum_rest 59 0 s
 refine (rdNum_any b s w0 HV.out hBb HA.out HL.out).mono ?_
 rintro e w1 ⟨rfl,ha,ht⟩
 go_wp2_with fail
 refine hK.out _ _ (fun _ h=>cell_turn ht HRl.out HNe.out h) ?_
 clear hK K
 have HA:=hid ha
 have HV:=hid (HV.out.on (turn_below ht HV.out.le hBb))
 have HZ:=hid ((ht.block bx HZl.out (by have:=HBx2.out;have:=HBx.out;unfold One;omega)).trans HZ.out)
 have HRl:=hid (Nat.lt_of_lt_of_le HRl.out ht.size)
 have HZl:=hid (Nat.lt_of_lt_of_le HZl.out ht.size)
 have HT:=hid (HT.out.trans ht (fun i hi=>.inl hi))
 have HL:=hid (Nat.le_trans hle HL.out)
 clear ha ht hle
 generalize rNum 59 0 s=r1 at *
 obtain ⟨n1,s1⟩:=r1
 simp only at HOne HA HL ⊢
 refine wpAnyJ_one (i:=3) rfl (by kernel_rfl) (fun K hK=>?_)
 go_simp
 have hle:=rNum_rest 59 0 s1
 refine (rdNum_any b s1 w1 HV.out hBb HA.out HL.out).mono ?_
 rintro e w2 ⟨rfl,ha,ht⟩
 go_wp2_with fail
 refine hK.out _ _ (fun _ h=>cell_turn ht HRl.out HNe.out h) ?_
 clear hK K
 have HA:=hid ha
 have HV:=hid (HV.out.on (turn_below ht HV.out.le hBb))
 have HZ:=hid ((ht.block bx HZl.out (by have:=HBx2.out;have:=HBx.out;unfold One;omega)).trans HZ.out)
 have HRl:=hid (Nat.lt_of_lt_of_le HRl.out ht.size)
 have HZl:=hid (Nat.lt_of_lt_of_le HZl.out ht.size)
 have HT:=hid (HT.out.trans ht (fun i hi=>.inl hi))
 have HL:=hid (Nat.le_trans hle HL.out)
 clear ha ht hle
 generalize rNum 59 0 s1=r2 at *
 obtain ⟨n2,s2⟩:=r2
 simp only at HOne HA HL ⊢
 refine wpAnyJ_one (i:=5) rfl (by kernel_rfl) (fun K hK=>?_)
 go_simp
 have hle:=rNum_rest 59 0 s2
 refine (rdNum_any b s2 w2 HV.out hBb HA.out HL.out).mono ?_
 rintro e w3 ⟨rfl,ha,ht⟩
 go_wp2_with fail
 refine hK.out _ _ (fun _ h=>cell_turn ht HRl.out HNe.out h) ?_
 clear hK K
 have HA:=hid ha
 have HV:=hid (HV.out.on (turn_below ht HV.out.le hBb))
 have HZ:=hid ((ht.block bx HZl.out (by have:=HBx2.out;have:=HBx.out;unfold One;omega)).trans HZ.out)
 have HRl:=hid (Nat.lt_of_lt_of_le HRl.out ht.size)
 have HZl:=hid (Nat.lt_of_lt_of_le HZl.out ht.size)
 have HT:=hid (HT.out.trans ht (fun i hi=>.inl hi))
 have HL:=hid (Nat.le_trans hle HL.out)
 clear ha ht hle
 generalize rNum 59 0 s2=r3 at *
 obtain ⟨n3,s3⟩:=r3
 simp only at HOne HA HL ⊢
 refine wpAnyJ_pure (i:=6) (v:=?_) rfl (by kernel_rfl) (by kernel_rfl) (by kernel_rfl) (fun _ _ _ h=>h) (Or.inl ⟨by rfl,?_⟩) ?_
 rotate_left
 ·intro wq _
  go_simp
  try with_reducible rfl
 simp only [Act.put,sA,sB,sC]
 refine wpAnyJ_pure (i:=7) (v:=?_) rfl (by kernel_rfl) (by kernel_rfl) (by kernel_rfl) (fun _ _ _ h=>h) (Or.inl ⟨by rfl,?_⟩) ?_
 rotate_left
 ·intro wq _
  go_simp
  try with_reducible rfl
 simp only [Act.put,sA,sB,sC]
 refine wpAnyJ_one (i:=8) rfl (by kernel_rfl) (fun K hK=>?_)
 refine step_store_bx rfl 99 _ _ rfl bx #[.int .i64 n1,.int .i64 n2,.bool (n3==1)] rfl rfl (show w3.there bx 0 3 from there_of_box HZ.out) (by kernel_rfl) (by first | rfl | (simp;done) | (simp [Value.oneCell'];done)) ?_
 obtain ⟨ws,hws⟩:∃ x,x=w3.setCells bx 0 #[.int .i64 n1,.int .i64 n2,.bool (n3==1)].toList:=⟨_,rfl⟩
 have hrow:=World.rangeAt_setCells_same w3 bx 0 #[.int .i64 n1,.int .i64 n2,.bool (n3==1)].toList (show w3.there bx 0 3 from there_of_box HZ.out)
 have hgs:=grown_setCells w3 bx 0 #[.int .i64 n1,.int .i64 n2,.bool (n3==1)].toList
 rw [← hws] at hrow hgs ⊢
 have HRow:=hid hrow
 have HA:=hid (show RdAt b _ ws from (hgs.block b (Nat.lt_of_lt_of_le HBx.out HT.out.size) (fun e=>by have:=HBx2.out;have:=HBx.out;injection e with e;omega)).trans HA.out)
 have HT:=hid (HT.out.trans (Turn.grown (F:=One bx) hgs (fun k hk=>(Option.some.inj hk).symm)) (fun i hi=>.inr (by have:=HBx2.out;unfold One at hi;omega)))
 clear hws hrow hgs
 refine hK.out _ _ (fun h=>nomatch h) ?_
 clear hK K
 refine wpAnyJ_done (by kernel_rfl) ?_ _
 go_wp2_with fail
 refine ret_box 1 99 rfl bx _ _ rfl HRow.out Tryz.underlying99 rfl (by kernel_rfl) rfl ?_
 exact ⟨by rw [HOne.out],by rw [HOne.out];exact HA.out,HT.out⟩
theorem rc10_any {B:Nat} (rb b:Nat) (s:RS) (w:World) (hV:Vs B w) (hBb:B≤b) (hc:w.cell? ⟨rb,0,none⟩=some (.pointer (some ⟨b,0,none⟩))) (hrl:rb<w.heap.size) (hne:rb≠b) (h:RdAt b s w) (hl:s.rest.length≤1000000000000) :
  Calls Tryz.prog 48 #[.pointer (some ⟨rb,0,none⟩)] w fun e w'=>e=.returned (D4.v (oneH s).1)∧RdAt b (oneH s).2 w'∧Turn (One b) w w':=by
 have HOne:Hid (oneH s=_):=hid (show oneH s=(⟨(rNum 59 0 s).1,(rNum 59 0 (rNum 59 0 s).2).1,(rNum 59 0 (rNum 59 0 (rNum 59 0 s).2).2).1,(rNum 59 (-9223372036854775808) (rNum 59 0 (rNum 59 0 (rNum 59 0 s).2).2).2).1⟩,(rNum 59 (-9223372036854775808) (rNum 59 0 (rNum 59 0 (rNum 59 0 s).2).2).2).2) from rfl)
 have hb0:Below w.heap.size w (w.alloc (.cells #[.int .i64 0,.int .i64 0,.int .i64 0,.int .i64 0] 103)):=by repeat (first | with_reducible exact Below.refl _ _ | with_reducible assumption | with_reducible refine Below.drew ?_ | with_reducible refine Below.alloc ?_ (by first | omega | (simp;done) | (simp;omega)) _)
 have HZ:Hid ((w.alloc (.cells #[.int .i64 0,.int .i64 0,.int .i64 0,.int .i64 0] 103)).heap[w.heap.size]?=some (.cells #[.int .i64 0,.int .i64 0,.int .i64 0,.int .i64 0] 103 (0,0))):=hid (MapKept.heap_alloc w _).1
 have HBx:Hid (b<w.heap.size):=hid h.lt
 have HT:Hid (Turn (One b) w (w.alloc (.cells #[.int .i64 0,.int .i64 0,.int .i64 0,.int .i64 0] 103)).drew):=hid ((Turn.below hb0).drew)
 have HV:=hid (show Vs B (w.alloc (.cells #[.int .i64 0,.int .i64 0,.int .i64 0,.int .i64 0] 103)).drew from hV.now (hb0.trans (Below.refl _ _).drew))
 have HA:=hid (show RdAt b s (w.alloc (.cells #[.int .i64 0,.int .i64 0,.int .i64 0,.int .i64 0] 103)).drew from (h.now hb0).drew)
 have HC:=hid (show (w.alloc (.cells #[.int .i64 0,.int .i64 0,.int .i64 0,.int .i64 0] 103)).drew.cell? ⟨rb,0,none⟩=some (.pointer (some ⟨b,0,none⟩)) from (hb0.cell (p:=⟨rb,0,none⟩) hrl).trans hc)
 have HZl:=hid (box_lt HZ.out)
 have HL:=hid hl
 have HNe:Hid (¬ One b rb):=hid hne
 have HRl:=hid (Nat.lt_of_lt_of_le hrl hb0.size)
 clear hV hc hrl hne h hl hb0
 go_enter Tryz.func48,Tryz.ntmps48
 go_upto_region 1 with fail
 change Code.wp _ _ _ _ (w.alloc (.cells #[.int .i64 0,.int .i64 0,.int .i64 0,.int .i64 0] 103))
 generalize w.alloc (.cells #[.int .i64 0,.int .i64 0,.int .i64 0,.int .i64 0] 103)=wb at *
 obtain ⟨bx,hbx⟩:∃ bx,bx=w.heap.size:=⟨_,rfl⟩
 rw [← hbx] at HZ HZl ⊢
 have HBx2:Hid (bx=w.heap.size):=hid hbx
 clear hbx
 have HRl:Hid (rb<wb.drew.heap.size):=hid HRl.out
 have HZl:Hid (bx<wb.drew.heap.size):=hid HZl.out
 have HZ:Hid (wb.drew.heap[bx]?=some (.cells #[.int .i64 0,.int .i64 0,.int .i64 0,.int .i64 0] 103 (0,0))):=hid HZ.out
 refine wp_region_J (S:=fun w'=>w'.cell? ⟨rb,0,none⟩=some (.pointer (some ⟨b,0,none⟩))) (fun i=>[9].contains i) (by kernel_rfl) (HC.out) (fun hHeld=>?_)
 refine wpAnyJ_take (i:=0) (v:=?_) rfl (by kernel_rfl) (by kernel_rfl) (by kernel_rfl) (by kernel_rfl) (fun _ _ _ h=>h) (Or.inl ⟨by rfl,?_⟩) hHeld ?_
 rotate_left
 ·intro wq hSq
  skip
  go_simp
  try with_reducible rfl
 simp only [Act.put,sA,sB,sC]
 refine wpAnyJ_take (i:=2) (v:=?_) rfl (by kernel_rfl) (by kernel_rfl) (by kernel_rfl) (by kernel_rfl) (fun _ _ _ h=>h) (Or.inl ⟨by rfl,?_⟩) hHeld ?_
 rotate_left
 ·intro wq hSq
  skip
  go_simp
  try with_reducible rfl
 simp only [Act.put,sA,sB,sC]
 refine wpAnyJ_take (i:=4) (v:=?_) rfl (by kernel_rfl) (by kernel_rfl) (by kernel_rfl) (by kernel_rfl) (fun _ _ _ h=>h) (Or.inl ⟨by rfl,?_⟩) hHeld ?_
 rotate_left
 ·intro wq hSq
  skip
  go_simp
  try with_reducible rfl
 simp only [Act.put,sA,sB,sC]
 refine wpAnyJ_take (i:=6) (v:=?_) rfl (by kernel_rfl) (by kernel_rfl) (by kernel_rfl) (by kernel_rfl) (fun _ _ _ h=>h) (Or.inl ⟨by rfl,?_⟩) hHeld ?_
 rotate_left
 ·intro wq hSq
  skip
  go_simp
  try with_reducible rfl
 simp only [Act.put,sA,sB,sC]
 generalize wb.drew=w0 at *
 refine wpAnyJ_one (i:=1) rfl (by kernel_rfl) (fun K hK=>?_)
 go_simp
 have hle:=rNum_rest 59 0 s
 refine (rdNum_any b s w0 HV.out hBb HA.out HL.out).mono ?_
 rintro e w1 ⟨rfl,ha,ht⟩
 go_wp2_with fail
 refine hK.out _ _ (fun _ h=>cell_turn ht HRl.out HNe.out h) ?_
 clear hK K
 have HA:=hid ha
 have HV:=hid (HV.out.on (turn_below ht HV.out.le hBb))
 have HZ:=hid ((ht.block bx HZl.out (by have:=HBx2.out;have:=HBx.out;unfold One;omega)).trans HZ.out)
 have HRl:=hid (Nat.lt_of_lt_of_le HRl.out ht.size)
 have HZl:=hid (Nat.lt_of_lt_of_le HZl.out ht.size)
 have HT:=hid (HT.out.trans ht (fun i hi=>.inl hi))
 have HL:=hid (Nat.le_trans hle HL.out)
 clear ha ht hle
 generalize rNum 59 0 s=r1 at *
 obtain ⟨n1,s1⟩:=r1
 simp only at HOne HA HL ⊢
 refine wpAnyJ_one (i:=3) rfl (by kernel_rfl) (fun K hK=>?_)
 go_simp
 have hle:=rNum_rest 59 0 s1
 refine (rdNum_any b s1 w1 HV.out hBb HA.out HL.out).mono ?_
 rintro e w2 ⟨rfl,ha,ht⟩
 go_wp2_with fail
 refine hK.out _ _ (fun _ h=>cell_turn ht HRl.out HNe.out h) ?_
 clear hK K
 have HA:=hid ha
 have HV:=hid (HV.out.on (turn_below ht HV.out.le hBb))
 have HZ:=hid ((ht.block bx HZl.out (by have:=HBx2.out;have:=HBx.out;unfold One;omega)).trans HZ.out)
 have HRl:=hid (Nat.lt_of_lt_of_le HRl.out ht.size)
 have HZl:=hid (Nat.lt_of_lt_of_le HZl.out ht.size)
 have HT:=hid (HT.out.trans ht (fun i hi=>.inl hi))
 have HL:=hid (Nat.le_trans hle HL.out)
 clear ha ht hle
 generalize rNum 59 0 s1=r2 at *
 obtain ⟨n2,s2⟩:=r2
 simp only at HOne HA HL ⊢
 refine wpAnyJ_one (i:=5) rfl (by kernel_rfl) (fun K hK=>?_)
 go_simp
 have hle:=rNum_rest 59 0 s2
 refine (rdNum_any b s2 w2 HV.out hBb HA.out HL.out).mono ?_
 rintro e w3 ⟨rfl,ha,ht⟩
 go_wp2_with fail
 refine hK.out _ _ (fun _ h=>cell_turn ht HRl.out HNe.out h) ?_
 clear hK K
 have HA:=hid ha
 have HV:=hid (HV.out.on (turn_below ht HV.out.le hBb))
 have HZ:=hid ((ht.block bx HZl.out (by have:=HBx2.out;have:=HBx.out;unfold One;omega)).trans HZ.out)
 have HRl:=hid (Nat.lt_of_lt_of_le HRl.out ht.size)
 have HZl:=hid (Nat.lt_of_lt_of_le HZl.out ht.size)
 have HT:=hid (HT.out.trans ht (fun i hi=>.inl hi))
 have HL:=hid (Nat.le_trans hle HL.out)
 clear ha ht hle
 generalize rNum 59 0 s2=r3 at *
 obtain ⟨n3,s3⟩:=r3
 simp only at HOne HA HL ⊢
 refine wpAnyJ_one (i:=7) rfl (by kernel_rfl) (fun K hK=>?_)
 go_simp
 have hle:=rNum_rest 59 (-9223372036854775808) s3
 refine (rdInt_any b s3 w3 HV.out hBb HA.out HL.out).mono ?_
 rintro e w4 ⟨rfl,ha,ht⟩
 go_wp2_with fail
 refine hK.out _ _ (fun _ h=>cell_turn ht HRl.out HNe.out h) ?_
 clear hK K
 have HA:=hid ha
 have HV:=hid (HV.out.on (turn_below ht HV.out.le hBb))
 have HZ:=hid ((ht.block bx HZl.out (by have:=HBx2.out;have:=HBx.out;unfold One;omega)).trans HZ.out)
 have HRl:=hid (Nat.lt_of_lt_of_le HRl.out ht.size)
 have HZl:=hid (Nat.lt_of_lt_of_le HZl.out ht.size)
 have HT:=hid (HT.out.trans ht (fun i hi=>.inl hi))
 have HL:=hid (Nat.le_trans hle HL.out)
 clear ha ht hle
 generalize rNum 59 (-9223372036854775808) s3=r4 at *
 obtain ⟨n4,s4⟩:=r4
 simp only at HOne HA HL ⊢
 refine wpAnyJ_pure (i:=8) (v:=?_) rfl (by kernel_rfl) (by kernel_rfl) (by kernel_rfl) (fun _ _ _ h=>h) (Or.inl ⟨by rfl,?_⟩) ?_
 rotate_left
 ·intro wq _
  go_simp
  try with_reducible rfl
 simp only [Act.put,sA,sB,sC]
 refine wpAnyJ_one (i:=9) rfl (by kernel_rfl) (fun K hK=>?_)
 refine step_store_bx rfl 103 _ _ rfl bx #[.int .i64 n1,.int .i64 n2,.int .i64 n3,.int .i64 n4] rfl rfl (show w4.there bx 0 4 from there_of_box HZ.out) (by kernel_rfl) (by first | rfl | (simp;done) | (simp [Value.oneCell'];done)) ?_
 obtain ⟨ws,hws⟩:∃ x,x=w4.setCells bx 0 #[.int .i64 n1,.int .i64 n2,.int .i64 n3,.int .i64 n4].toList:=⟨_,rfl⟩
 have hrow:=World.rangeAt_setCells_same w4 bx 0 #[.int .i64 n1,.int .i64 n2,.int .i64 n3,.int .i64 n4].toList (show w4.there bx 0 4 from there_of_box HZ.out)
 have hgs:=grown_setCells w4 bx 0 #[.int .i64 n1,.int .i64 n2,.int .i64 n3,.int .i64 n4].toList
 rw [← hws] at hrow hgs ⊢
 have HRow:=hid hrow
 have HA:=hid (show RdAt b _ ws from (hgs.block b (Nat.lt_of_lt_of_le HBx.out HT.out.size) (fun e=>by have:=HBx2.out;have:=HBx.out;injection e with e;omega)).trans HA.out)
 have HT:=hid (HT.out.trans (Turn.grown (F:=One bx) hgs (fun k hk=>(Option.some.inj hk).symm)) (fun i hi=>.inr (by have:=HBx2.out;unfold One at hi;omega)))
 clear hws hrow hgs
 refine hK.out _ _ (fun h=>nomatch h) ?_
 clear hK K
 refine wpAnyJ_done (by kernel_rfl) ?_ _
 go_wp2_with fail
 refine ret_box 1 103 rfl bx _ _ rfl HRow.out Tryz.underlying103 rfl (by kernel_rfl) rfl ?_
 exact ⟨by rw [HOne.out],by rw [HOne.out];exact HA.out,HT.out⟩
theorem rc11_any {B:Nat} (rb b:Nat) (s:RS) (w:World) (hV:Vs B w) (hBb:B≤b) (hc:w.cell? ⟨rb,0,none⟩=some (.pointer (some ⟨b,0,none⟩))) (hrl:rb<w.heap.size) (hne:rb≠b) (h:RdAt b s w) (hl:s.rest.length≤1000000000000) :
  Calls Tryz.prog 51 #[.pointer (some ⟨rb,0,none⟩)] w fun e w'=>e=.returned (D4.v (one4 s).1)∧RdAt b (one4 s).2 w'∧Turn (One b) w w':=by
 have HOne:Hid (one4 s=_):=hid (show one4 s=(⟨(rNum 59 0 s).1,(rNum 59 0 (rNum 59 0 s).2).1,(rNum 59 0 (rNum 59 0 (rNum 59 0 s).2).2).1,(rNum 59 0 (rNum 59 0 (rNum 59 0 (rNum 59 0 s).2).2).2).1⟩,(rNum 59 0 (rNum 59 0 (rNum 59 0 (rNum 59 0 s).2).2).2).2) from rfl)
 have hb0:Below w.heap.size w (w.alloc (.cells #[.int .i64 0,.int .i64 0,.int .i64 0,.int .i64 0] 50)):=by repeat (first | with_reducible exact Below.refl _ _ | with_reducible assumption | with_reducible refine Below.drew ?_ | with_reducible refine Below.alloc ?_ (by first | omega | (simp;done) | (simp;omega)) _)
 have HZ:Hid ((w.alloc (.cells #[.int .i64 0,.int .i64 0,.int .i64 0,.int .i64 0] 50)).heap[w.heap.size]?=some (.cells #[.int .i64 0,.int .i64 0,.int .i64 0,.int .i64 0] 50 (0,0))):=hid (MapKept.heap_alloc w _).1
 have HBx:Hid (b<w.heap.size):=hid h.lt
 have HT:Hid (Turn (One b) w (w.alloc (.cells #[.int .i64 0,.int .i64 0,.int .i64 0,.int .i64 0] 50)).drew):=hid ((Turn.below hb0).drew)
 have HV:=hid (show Vs B (w.alloc (.cells #[.int .i64 0,.int .i64 0,.int .i64 0,.int .i64 0] 50)).drew from hV.now (hb0.trans (Below.refl _ _).drew))
 have HA:=hid (show RdAt b s (w.alloc (.cells #[.int .i64 0,.int .i64 0,.int .i64 0,.int .i64 0] 50)).drew from (h.now hb0).drew)
 have HC:=hid (show (w.alloc (.cells #[.int .i64 0,.int .i64 0,.int .i64 0,.int .i64 0] 50)).drew.cell? ⟨rb,0,none⟩=some (.pointer (some ⟨b,0,none⟩)) from (hb0.cell (p:=⟨rb,0,none⟩) hrl).trans hc)
 have HZl:=hid (box_lt HZ.out)
 have HL:=hid hl
 have HNe:Hid (¬ One b rb):=hid hne
 have HRl:=hid (Nat.lt_of_lt_of_le hrl hb0.size)
 clear hV hc hrl hne h hl hb0
 go_enter Tryz.func51,Tryz.ntmps51
 go_upto_region 1 with fail
 change Code.wp _ _ _ _ (w.alloc (.cells #[.int .i64 0,.int .i64 0,.int .i64 0,.int .i64 0] 50))
 generalize w.alloc (.cells #[.int .i64 0,.int .i64 0,.int .i64 0,.int .i64 0] 50)=wb at *
 obtain ⟨bx,hbx⟩:∃ bx,bx=w.heap.size:=⟨_,rfl⟩
 rw [← hbx] at HZ HZl ⊢
 have HBx2:Hid (bx=w.heap.size):=hid hbx
 clear hbx
 have HRl:Hid (rb<wb.drew.heap.size):=hid HRl.out
 have HZl:Hid (bx<wb.drew.heap.size):=hid HZl.out
 have HZ:Hid (wb.drew.heap[bx]?=some (.cells #[.int .i64 0,.int .i64 0,.int .i64 0,.int .i64 0] 50 (0,0))):=hid HZ.out
 refine wp_region_J (S:=fun w'=>w'.cell? ⟨rb,0,none⟩=some (.pointer (some ⟨b,0,none⟩))) (fun i=>[9].contains i) (by kernel_rfl) (HC.out) (fun hHeld=>?_)
 refine wpAnyJ_take (i:=0) (v:=?_) rfl (by kernel_rfl) (by kernel_rfl) (by kernel_rfl) (by kernel_rfl) (fun _ _ _ h=>h) (Or.inl ⟨by rfl,?_⟩) hHeld ?_
 rotate_left
 ·intro wq hSq
  skip
  go_simp
  try with_reducible rfl
 simp only [Act.put,sA,sB,sC]
 refine wpAnyJ_take (i:=2) (v:=?_) rfl (by kernel_rfl) (by kernel_rfl) (by kernel_rfl) (by kernel_rfl) (fun _ _ _ h=>h) (Or.inl ⟨by rfl,?_⟩) hHeld ?_
 rotate_left
 ·intro wq hSq
  skip
  go_simp
  try with_reducible rfl
 simp only [Act.put,sA,sB,sC]
 refine wpAnyJ_take (i:=4) (v:=?_) rfl (by kernel_rfl) (by kernel_rfl) (by kernel_rfl) (by kernel_rfl) (fun _ _ _ h=>h) (Or.inl ⟨by rfl,?_⟩) hHeld ?_
 rotate_left
 ·intro wq hSq
  skip
  go_simp
  try with_reducible rfl
 simp only [Act.put,sA,sB,sC]
 refine wpAnyJ_take (i:=6) (v:=?_) rfl (by kernel_rfl) (by kernel_rfl) (by kernel_rfl) (by kernel_rfl) (fun _ _ _ h=>h) (Or.inl ⟨by rfl,?_⟩) hHeld ?_
 rotate_left
 ·intro wq hSq
  skip
  go_simp
  try with_reducible rfl
 simp only [Act.put,sA,sB,sC]
 generalize wb.drew=w0 at *
 refine wpAnyJ_one (i:=1) rfl (by kernel_rfl) (fun K hK=>?_)
 go_simp
 have hle:=rNum_rest 59 0 s
 refine (rdNum_any b s w0 HV.out hBb HA.out HL.out).mono ?_
 rintro e w1 ⟨rfl,ha,ht⟩
 go_wp2_with fail
 refine hK.out _ _ (fun _ h=>cell_turn ht HRl.out HNe.out h) ?_
 clear hK K
 have HA:=hid ha
 have HV:=hid (HV.out.on (turn_below ht HV.out.le hBb))
 have HZ:=hid ((ht.block bx HZl.out (by have:=HBx2.out;have:=HBx.out;unfold One;omega)).trans HZ.out)
 have HRl:=hid (Nat.lt_of_lt_of_le HRl.out ht.size)
 have HZl:=hid (Nat.lt_of_lt_of_le HZl.out ht.size)
 have HT:=hid (HT.out.trans ht (fun i hi=>.inl hi))
 have HL:=hid (Nat.le_trans hle HL.out)
 clear ha ht hle
 generalize rNum 59 0 s=r1 at *
 obtain ⟨n1,s1⟩:=r1
 simp only at HOne HA HL ⊢
 refine wpAnyJ_one (i:=3) rfl (by kernel_rfl) (fun K hK=>?_)
 go_simp
 have hle:=rNum_rest 59 0 s1
 refine (rdNum_any b s1 w1 HV.out hBb HA.out HL.out).mono ?_
 rintro e w2 ⟨rfl,ha,ht⟩
 go_wp2_with fail
 refine hK.out _ _ (fun _ h=>cell_turn ht HRl.out HNe.out h) ?_
 clear hK K
 have HA:=hid ha
 have HV:=hid (HV.out.on (turn_below ht HV.out.le hBb))
 have HZ:=hid ((ht.block bx HZl.out (by have:=HBx2.out;have:=HBx.out;unfold One;omega)).trans HZ.out)
 have HRl:=hid (Nat.lt_of_lt_of_le HRl.out ht.size)
 have HZl:=hid (Nat.lt_of_lt_of_le HZl.out ht.size)
 have HT:=hid (HT.out.trans ht (fun i hi=>.inl hi))
 have HL:=hid (Nat.le_trans hle HL.out)
 clear ha ht hle
 generalize rNum 59 0 s1=r2 at *
 obtain ⟨n2,s2⟩:=r2
 simp only at HOne HA HL ⊢
 refine wpAnyJ_one (i:=5) rfl (by kernel_rfl) (fun K hK=>?_)
 go_simp
 have hle:=rNum_rest 59 0 s2
 refine (rdNum_any b s2 w2 HV.out hBb HA.out HL.out).mono ?_
 rintro e w3 ⟨rfl,ha,ht⟩
 go_wp2_with fail
 refine hK.out _ _ (fun _ h=>cell_turn ht HRl.out HNe.out h) ?_
 clear hK K
 have HA:=hid ha
 have HV:=hid (HV.out.on (turn_below ht HV.out.le hBb))
 have HZ:=hid ((ht.block bx HZl.out (by have:=HBx2.out;have:=HBx.out;unfold One;omega)).trans HZ.out)
 have HRl:=hid (Nat.lt_of_lt_of_le HRl.out ht.size)
 have HZl:=hid (Nat.lt_of_lt_of_le HZl.out ht.size)
 have HT:=hid (HT.out.trans ht (fun i hi=>.inl hi))
 have HL:=hid (Nat.le_trans hle HL.out)
 clear ha ht hle
 generalize rNum 59 0 s2=r3 at *
 obtain ⟨n3,s3⟩:=r3
 simp only at HOne HA HL ⊢
 refine wpAnyJ_one (i:=7) rfl (by kernel_rfl) (fun K hK=>?_)
 go_simp
 have hle:=rNum_rest 59 0 s3
 refine (rdNum_any b s3 w3 HV.out hBb HA.out HL.out).mono ?_
 rintro e w4 ⟨rfl,ha,ht⟩
 go_wp2_with fail
 refine hK.out _ _ (fun _ h=>cell_turn ht HRl.out HNe.out h) ?_
 clear hK K
 have HA:=hid ha
 have HV:=hid (HV.out.on (turn_below ht HV.out.le hBb))
 have HZ:=hid ((ht.block bx HZl.out (by have:=HBx2.out;have:=HBx.out;unfold One;omega)).trans HZ.out)
 have HRl:=hid (Nat.lt_of_lt_of_le HRl.out ht.size)
 have HZl:=hid (Nat.lt_of_lt_of_le HZl.out ht.size)
 have HT:=hid (HT.out.trans ht (fun i hi=>.inl hi))
 have HL:=hid (Nat.le_trans hle HL.out)
 clear ha ht hle
 generalize rNum 59 0 s3=r4 at *
 obtain ⟨n4,s4⟩:=r4
 simp only at HOne HA HL ⊢
 refine wpAnyJ_pure (i:=8) (v:=?_) rfl (by kernel_rfl) (by kernel_rfl) (by kernel_rfl) (fun _ _ _ h=>h) (Or.inl ⟨by rfl,?_⟩) ?_
 rotate_left
 ·intro wq _
  go_simp
  try with_reducible rfl
 simp only [Act.put,sA,sB,sC]
 refine wpAnyJ_one (i:=9) rfl (by kernel_rfl) (fun K hK=>?_)
 refine step_store_bx rfl 50 _ _ rfl bx #[.int .i64 n1,.int .i64 n2,.int .i64 n3,.int .i64 n4] rfl rfl (show w4.there bx 0 4 from there_of_box HZ.out) (by kernel_rfl) (by first | rfl | (simp;done) | (simp [Value.oneCell'];done)) ?_
 obtain ⟨ws,hws⟩:∃ x,x=w4.setCells bx 0 #[.int .i64 n1,.int .i64 n2,.int .i64 n3,.int .i64 n4].toList:=⟨_,rfl⟩
 have hrow:=World.rangeAt_setCells_same w4 bx 0 #[.int .i64 n1,.int .i64 n2,.int .i64 n3,.int .i64 n4].toList (show w4.there bx 0 4 from there_of_box HZ.out)
 have hgs:=grown_setCells w4 bx 0 #[.int .i64 n1,.int .i64 n2,.int .i64 n3,.int .i64 n4].toList
 rw [← hws] at hrow hgs ⊢
 have HRow:=hid hrow
 have HA:=hid (show RdAt b _ ws from (hgs.block b (Nat.lt_of_lt_of_le HBx.out HT.out.size) (fun e=>by have:=HBx2.out;have:=HBx.out;injection e with e;omega)).trans HA.out)
 have HT:=hid (HT.out.trans (Turn.grown (F:=One bx) hgs (fun k hk=>(Option.some.inj hk).symm)) (fun i hi=>.inr (by have:=HBx2.out;unfold One at hi;omega)))
 clear hws hrow hgs
 refine hK.out _ _ (fun h=>nomatch h) ?_
 clear hK K
 refine wpAnyJ_done (by kernel_rfl) ?_ _
 go_wp2_with fail
 refine ret_box 1 50 rfl bx _ _ rfl HRow.out Tryz.underlying50 rfl (by kernel_rfl) rfl ?_
 exact ⟨by rw [HOne.out],by rw [HOne.out];exact HA.out,HT.out⟩
theorem rc12_any {B:Nat} (rb b:Nat) (s:RS) (w:World) (hV:Vs B w) (hBb:B≤b) (hc:w.cell? ⟨rb,0,none⟩=some (.pointer (some ⟨b,0,none⟩))) (hrl:rb<w.heap.size) (hne:rb≠b) (h:RdAt b s w) (hl:s.rest.length≤1000000000000) :
  Calls Tryz.prog 53 #[.pointer (some ⟨rb,0,none⟩)] w fun e w'=>e=.returned (D3.v (one3 s).1)∧RdAt b (one3 s).2 w'∧Turn (One b) w w':=by
 have HOne:Hid (one3 s=_):=hid (show one3 s=(⟨(rNum 59 0 s).1,(rNum 59 0 (rNum 59 0 s).2).1,(rNum 59 0 (rNum 59 0 (rNum 59 0 s).2).2).1⟩,(rNum 59 0 (rNum 59 0 (rNum 59 0 s).2).2).2) from rfl)
 have hb0:Below w.heap.size w (w.alloc (.cells #[.int .i64 0,.int .i64 0,.int .i64 0] 52)):=by repeat (first | with_reducible exact Below.refl _ _ | with_reducible assumption | with_reducible refine Below.drew ?_ | with_reducible refine Below.alloc ?_ (by first | omega | (simp;done) | (simp;omega)) _)
 have HZ:Hid ((w.alloc (.cells #[.int .i64 0,.int .i64 0,.int .i64 0] 52)).heap[w.heap.size]?=some (.cells #[.int .i64 0,.int .i64 0,.int .i64 0] 52 (0,0))):=hid (MapKept.heap_alloc w _).1
 have HBx:Hid (b<w.heap.size):=hid h.lt
 have HT:Hid (Turn (One b) w (w.alloc (.cells #[.int .i64 0,.int .i64 0,.int .i64 0] 52)).drew):=hid ((Turn.below hb0).drew)
 have HV:=hid (show Vs B (w.alloc (.cells #[.int .i64 0,.int .i64 0,.int .i64 0] 52)).drew from hV.now (hb0.trans (Below.refl _ _).drew))
 have HA:=hid (show RdAt b s (w.alloc (.cells #[.int .i64 0,.int .i64 0,.int .i64 0] 52)).drew from (h.now hb0).drew)
 have HC:=hid (show (w.alloc (.cells #[.int .i64 0,.int .i64 0,.int .i64 0] 52)).drew.cell? ⟨rb,0,none⟩=some (.pointer (some ⟨b,0,none⟩)) from (hb0.cell (p:=⟨rb,0,none⟩) hrl).trans hc)
 have HZl:=hid (box_lt HZ.out)
 have HL:=hid hl
 have HNe:Hid (¬ One b rb):=hid hne
 have HRl:=hid (Nat.lt_of_lt_of_le hrl hb0.size)
 clear hV hc hrl hne h hl hb0
 go_enter Tryz.func53,Tryz.ntmps53
 go_upto_region 1 with fail
 change Code.wp _ _ _ _ (w.alloc (.cells #[.int .i64 0,.int .i64 0,.int .i64 0] 52))
 generalize w.alloc (.cells #[.int .i64 0,.int .i64 0,.int .i64 0] 52)=wb at *
 obtain ⟨bx,hbx⟩:∃ bx,bx=w.heap.size:=⟨_,rfl⟩
 rw [← hbx] at HZ HZl ⊢
 have HBx2:Hid (bx=w.heap.size):=hid hbx
 clear hbx
 have HRl:Hid (rb<wb.drew.heap.size):=hid HRl.out
 have HZl:Hid (bx<wb.drew.heap.size):=hid HZl.out
 have HZ:Hid (wb.drew.heap[bx]?=some (.cells #[.int .i64 0,.int .i64 0,.int .i64 0] 52 (0,0))):=hid HZ.out
 refine wp_region_J (S:=fun w'=>w'.cell? ⟨rb,0,none⟩=some (.pointer (some ⟨b,0,none⟩))) (fun i=>[7].contains i) (by kernel_rfl) (HC.out) (fun hHeld=>?_)
 refine wpAnyJ_take (i:=0) (v:=?_) rfl (by kernel_rfl) (by kernel_rfl) (by kernel_rfl) (by kernel_rfl) (fun _ _ _ h=>h) (Or.inl ⟨by rfl,?_⟩) hHeld ?_
 rotate_left
 ·intro wq hSq
  skip
  go_simp
  try with_reducible rfl
 simp only [Act.put,sA,sB,sC]
 refine wpAnyJ_take (i:=2) (v:=?_) rfl (by kernel_rfl) (by kernel_rfl) (by kernel_rfl) (by kernel_rfl) (fun _ _ _ h=>h) (Or.inl ⟨by rfl,?_⟩) hHeld ?_
 rotate_left
 ·intro wq hSq
  skip
  go_simp
  try with_reducible rfl
 simp only [Act.put,sA,sB,sC]
 refine wpAnyJ_take (i:=4) (v:=?_) rfl (by kernel_rfl) (by kernel_rfl) (by kernel_rfl) (by kernel_rfl) (fun _ _ _ h=>h) (Or.inl ⟨by rfl,?_⟩) hHeld ?_
 rotate_left
 ·intro wq hSq
  skip
  go_simp
  try with_reducible rfl
 simp only [Act.put,sA,sB,sC]
 generalize wb.drew=w0 at *
 refine wpAnyJ_one (i:=1) rfl (by kernel_rfl) (fun K hK=>?_)
 go_simp
 have hle:=rNum_rest 59 0 s
 refine (rdNum_any b s w0 HV.out hBb HA.out HL.out).mono ?_
 rintro e w1 ⟨rfl,ha,ht⟩
 go_wp2_with fail
 refine hK.out _ _ (fun _ h=>cell_turn ht HRl.out HNe.out h) ?_
 clear hK K
 have HA:=hid ha
 have HV:=hid (HV.out.on (turn_below ht HV.out.le hBb))
 have HZ:=hid ((ht.block bx HZl.out (by have:=HBx2.out;have:=HBx.out;unfold One;omega)).trans HZ.out)
 have HRl:=hid (Nat.lt_of_lt_of_le HRl.out ht.size)
 have HZl:=hid (Nat.lt_of_lt_of_le HZl.out ht.size)
 have HT:=hid (HT.out.trans ht (fun i hi=>.inl hi))
 have HL:=hid (Nat.le_trans hle HL.out)
 clear ha ht hle
 generalize rNum 59 0 s=r1 at *
 obtain ⟨n1,s1⟩:=r1
 simp only at HOne HA HL ⊢
 refine wpAnyJ_one (i:=3) rfl (by kernel_rfl) (fun K hK=>?_)
 go_simp
 have hle:=rNum_rest 59 0 s1
 refine (rdNum_any b s1 w1 HV.out hBb HA.out HL.out).mono ?_
 rintro e w2 ⟨rfl,ha,ht⟩
 go_wp2_with fail
 refine hK.out _ _ (fun _ h=>cell_turn ht HRl.out HNe.out h) ?_
 clear hK K
 have HA:=hid ha
 have HV:=hid (HV.out.on (turn_below ht HV.out.le hBb))
 have HZ:=hid ((ht.block bx HZl.out (by have:=HBx2.out;have:=HBx.out;unfold One;omega)).trans HZ.out)
 have HRl:=hid (Nat.lt_of_lt_of_le HRl.out ht.size)
 have HZl:=hid (Nat.lt_of_lt_of_le HZl.out ht.size)
 have HT:=hid (HT.out.trans ht (fun i hi=>.inl hi))
 have HL:=hid (Nat.le_trans hle HL.out)
 clear ha ht hle
 generalize rNum 59 0 s1=r2 at *
 obtain ⟨n2,s2⟩:=r2
 simp only at HOne HA HL ⊢
 refine wpAnyJ_one (i:=5) rfl (by kernel_rfl) (fun K hK=>?_)
 go_simp
 have hle:=rNum_rest 59 0 s2
 refine (rdNum_any b s2 w2 HV.out hBb HA.out HL.out).mono ?_
 rintro e w3 ⟨rfl,ha,ht⟩
 go_wp2_with fail
 refine hK.out _ _ (fun _ h=>cell_turn ht HRl.out HNe.out h) ?_
 clear hK K
 have HA:=hid ha
 have HV:=hid (HV.out.on (turn_below ht HV.out.le hBb))
 have HZ:=hid ((ht.block bx HZl.out (by have:=HBx2.out;have:=HBx.out;unfold One;omega)).trans HZ.out)
 have HRl:=hid (Nat.lt_of_lt_of_le HRl.out ht.size)
 have HZl:=hid (Nat.lt_of_lt_of_le HZl.out ht.size)
 have HT:=hid (HT.out.trans ht (fun i hi=>.inl hi))
 have HL:=hid (Nat.le_trans hle HL.out)
 clear ha ht hle
 generalize rNum 59 0 s2=r3 at *
 obtain ⟨n3,s3⟩:=r3
 simp only at HOne HA HL ⊢
 refine wpAnyJ_pure (i:=6) (v:=?_) rfl (by kernel_rfl) (by kernel_rfl) (by kernel_rfl) (fun _ _ _ h=>h) (Or.inl ⟨by rfl,?_⟩) ?_
 rotate_left
 ·intro wq _
  go_simp
  try with_reducible rfl
 simp only [Act.put,sA,sB,sC]
 refine wpAnyJ_one (i:=7) rfl (by kernel_rfl) (fun K hK=>?_)
 refine step_store_bx rfl 52 _ _ rfl bx #[.int .i64 n1,.int .i64 n2,.int .i64 n3] rfl rfl (show w3.there bx 0 3 from there_of_box HZ.out) (by kernel_rfl) (by first | rfl | (simp;done) | (simp [Value.oneCell'];done)) ?_
 obtain ⟨ws,hws⟩:∃ x,x=w3.setCells bx 0 #[.int .i64 n1,.int .i64 n2,.int .i64 n3].toList:=⟨_,rfl⟩
 have hrow:=World.rangeAt_setCells_same w3 bx 0 #[.int .i64 n1,.int .i64 n2,.int .i64 n3].toList (show w3.there bx 0 3 from there_of_box HZ.out)
 have hgs:=grown_setCells w3 bx 0 #[.int .i64 n1,.int .i64 n2,.int .i64 n3].toList
 rw [← hws] at hrow hgs ⊢
 have HRow:=hid hrow
 have HA:=hid (show RdAt b _ ws from (hgs.block b (Nat.lt_of_lt_of_le HBx.out HT.out.size) (fun e=>by have:=HBx2.out;have:=HBx.out;injection e with e;omega)).trans HA.out)
 have HT:=hid (HT.out.trans (Turn.grown (F:=One bx) hgs (fun k hk=>(Option.some.inj hk).symm)) (fun i hi=>.inr (by have:=HBx2.out;unfold One at hi;omega)))
 clear hws hrow hgs
 refine hK.out _ _ (fun h=>nomatch h) ?_
 clear hK K
 refine wpAnyJ_done (by kernel_rfl) ?_ _
 go_wp2_with fail
 refine ret_box 1 52 rfl bx _ _ rfl HRow.out Tryz.underlying52 rfl (by kernel_rfl) rfl ?_
 exact ⟨by rw [HOne.out],by rw [HOne.out];exact HA.out,HT.out⟩
end Go.Proofs.YthlpehhlhebhbaaGreatDoor
