/- Contracts and plain laws, joined: StBk. -/
import Derived.Test.YthlpehhlhebhbaaGreatDoorQbm
import Derived.Test.YthlpehhlhebhbaaGreatDoorQbj
import Derived.Test.YthlpehhlhebhbaaGreatDoorQbn
/- The walk of StateBack (layer 46). -/
set_option linter.unusedSimpArgs false
set_option linter.unusedVariables false
namespace Go.Proofs.YthlpehhlhebhbaaGreatDoor
open Lib (hid)
open Go.RowKit
set_option maxRecDepth 100000
theorem few_ev {s : Stt} {n : Int} (h : FewS s n) : (s.events.length : Int) ≤ n := by
 have := h.ev
 unfold fewAllB at this
 simp only [Bool.and_eq_true,decide_eq_true_eq] at this
 exact this.1
theorem few_nums {s : Stt} (h : FewS s 12) (hw : StWf s) : NumsP s.pl := by
 have he := few_ev h
 refine ⟨?_,fun x hx => (hw.sealed x hx).2.2.2,fun x hx => ⟨(hw.holds x hx).1.2,(hw.holds x hx).2.1.2⟩,?_,?_,?_,?_,?_,?_,?_,?_,?_,?_,?_⟩
 ·have : s.pl.events.length = s.events.length := by simp [Stt.pl]
  omega
 ·exact Nat.le_trans h.queue (by omega)
 ·exact Nat.le_trans h.sent (by omega)
 ·exact Nat.le_trans h.refused (by omega)
 ·exact Nat.le_trans h.pairs (by omega)
 ·exact Nat.le_trans h.proofs (by omega)
 ·have : s.pl.notes.length = s.notes.length := by simp [Stt.pl]
  have := h.nl
  omega
 ·exact Nat.le_trans h.bad (by omega)
 ·exact Nat.le_trans h.holds (by omega)
 ·exact Nat.le_trans h.orders (by omega)
 ·exact Nat.le_trans h.sealed (by omega)
 ·exact Nat.le_trans h.debts (by omega)
theorem wf_pairs {s : Stt} (hw : StWf s) : ∀ x ∈ s.pairs.map prD,x.wf := fun x hx => by
 obtain ⟨y,hy,rfl⟩ := List.mem_map.1 hx
 have h := hw.pairs y hy
 exact ⟨i64_of h.1,i64_of h.2.1,i64_of h.2.2.1,i64_of h.2.2.2⟩
theorem lst_len {T : Type} (f : T → List UInt8) (l : List T) (m n : Nat) (hl : l.length ≤ n) (hn : n ≤ 1000000) (h : ∀ x ∈ l,(f x).length ≤ m) : (lstE f l).length ≤ 22 + n * m := by
 have h1 := flat_bound f m l h
 have h2 : l.length * m ≤ n * m := Nat.mul_le_mul_right _ hl
 have h3 := encN_len l.length ⟨by omega,by omega⟩
 unfold lstE
 rw [List.length_append]
 omega
theorem few_text {s : Stt} (h : FewS s 12) (hw : StWf s) : (textP s.pl).length ≤ 1000000 := by
 unfold textP
 split
 ·rename_i hr
  have W := (stateP_right hr).wf (few_nums h hw)
  have he := few_ev h
  have l0 := encN_len s.pl.step W.step
  have e1 : s.pl.events.length ≤ 12 := by
   have : s.pl.events.length = s.events.length := by simp [Stt.pl]
   omega
  have e7 : s.pl.notes.length ≤ 20 := by
   have h1 : s.pl.notes.length = s.notes.length := by simp [Stt.pl]
   have h2 := h.nl
   omega
  have l1 := lst_len encEv s.pl.events 5030 12 e1 (by omega) (fun x _ => by exact encEv_len x)
  have l2 := lst_len encD4 s.pl.queue 1000 20 h.queue (by omega) (fun x hx => by exact encD4_len (W.queue x hx))
  have l3 := lst_len encD3 s.pl.sent 1000 20 h.sent (by omega) (fun x hx => by exact encD3_len (W.sent x hx))
  have l4 := lst_len encD2 s.pl.refused 1000 20 h.refused (by omega) (fun x hx => by exact encD2_len (W.refused x hx))
  have l5 := lst_len encD4 s.pl.pairs 1000 20 h.pairs (by omega) (fun x hx => by exact encD4_len (W.pairs x hx))
  have l6 := lst_len encD3 s.pl.proofs 1000 20 h.proofs (by omega) (fun x hx => by exact encD3_len (W.proofs x hx))
  have l7 := lst_len (lstE encE5) s.pl.notes 10000 20 e7 (by omega) (fun x hx => by
   obtain ⟨y,hy,rfl⟩ := List.mem_map.1 hx
   have h1 := lst_len encE5 y.l 110 20 (h.notes y hy) (by omega) (fun z hz => by exact encE5_len z ((W.notes y.l hx).2 z hz))
   omega)
  have l8 := lst_len encE3 s.pl.bad 1000 20 h.bad (by omega) (fun x hx => by exact encE3_len (W.bad x hx))
  have l9 := lst_len encH s.pl.holds 1000 20 h.holds (by omega) (fun x hx => by exact encH_len (W.holds x hx))
  have la := lst_len encD4 s.pl.orders 1000 20 h.orders (by omega) (fun x hx => by exact encD4_len (W.orders x hx))
  have lb := lst_len encD3 s.pl.sealed 1000 20 h.sealed (by omega) (fun x hx => by exact encD3_len (W.sealed x hx))
  have lc := lst_len encD2 s.pl.debts 1000 20 h.debts (by omega) (fun x hx => by exact encD2_len (W.debts x hx))
  simp only [bodyP,partsP,List.flatMap_cons,List.flatMap_nil,id,List.length_append,List.length_nil]
  omega
 ·simp
theorem read_facts {x : List UInt8} (hx : x.length ≤ 1000000) : NumsP (readP x).1 ∧ ∀ y ∈ (readP x).1.pairs.map prD,y.wf := by
 by_cases h : (readP x).2 = 0
 ·have h1 : (readP x).1 = (rawP ⟨x,false⟩).1 := by
   unfold readP at h ⊢
   split
   ·rfl
   ·rename_i h0
    rw [if_neg h0] at h
    exact absurd h (show ¬ ((2 : Int) = 0) by decide)
  rw [h1]
  exact rawP_facts x hx
 ·rw [readP_bad h]
  exact ⟨zNums 0,fun y hy => (nomatch hy)⟩
set_option maxHeartbeats 16000000 in
theorem stateBack_any (s t : Stt) (a c : StAd) (x : List UInt8) (w : World) (hV : Vs w.heap.size w) (hs : StOk w w.heap.size s a) (ht : StOk w w.heap.size t c) (ws : StWf s) (wt : StWf t) (hx : x.length ≤ 9223372036854775807) :
  Calls Tryz.prog 4 #[s.v a,t.v c,.string (bs x)] w fun e w' => e = .returned (.bool true) ∧ Below w.heap.size w w' := by
 have hb0 : Below w.heap.size w ((w.alloc (.cells (s.arr a) 34)).alloc (.cells (t.arr c) 34)) := by repeat (first | with_reducible exact Below.refl _ _ | with_reducible assumption | with_reducible refine Below.drew ?_ | with_reducible refine Below.alloc ?_ (by first | omega | (simp; done) | (simp; omega)) _)
 have HX : Hid (StBox w.heap.size s a ((w.alloc (.cells (s.arr a) 34)).alloc (.cells (t.arr c) 34))) := hid (StBox.now (show StBox w.heap.size s a (w.alloc (.cells (s.arr a) 34)) from (MapKept.heap_alloc w _).1) ((Below.refl _ _).alloc (Nat.le_refl _) _))
 have HY : Hid (StBox (w.heap.size + 1) t c ((w.alloc (.cells (s.arr a) 34)).alloc (.cells (t.arr c) 34))) := hid (by
  have := (MapKept.heap_alloc (w.alloc (.cells (s.arr a) 34)) (.cells (t.arr c) 34)).1
  simpa [StBox] using this)
 have HS := hid (hs.now hb0)
 have HT := hid (ht.now hb0)
 have HB := hid hb0
 have HV := hid (hV.now hb0)
 have HWs := hid ws
 have HWt := hid wt
 have hxs : (bs x).size = x.length := bs_size x
 clear hb0 hs ht hV ws wt
 go_enter Tryz.func4,Tryz.ntmps4
 go_upto_region 1 with fail
 generalize (w.alloc (.cells (s.arr a) 34)).alloc (.cells (t.arr c) 34) = w0 at *
 obtain ⟨b4,hb4⟩ : ∃ z,z = w.heap.size + 1 := ⟨_,rfl⟩
 obtain ⟨b3,hb3⟩ : ∃ z,z = w.heap.size := ⟨_,rfl⟩
 rw [← hb4] at HY ⊢
 rw [← hb3] at HX ⊢
 clear hb4 hb3
 go_wp2_with fail
 refine (small46_any w0 HV.out).mono ?_
 rintro e w1 ⟨rfl,hb⟩
 have HX := hid (HX.out.now hb)
 have HY := hid (HY.out.now hb)
 have HS := hid (HS.out.now hb)
 have HT := hid (HT.out.now hb)
 have HV := hid (HV.out.now hb)
 have HB := hid (HB.out.trans ((hb).mono HB.out.size))
 clear hb
 have HXr := hid (range_block HX.out rfl)
 have HYr := hid (range_block HY.out rfl)
 go_wp2_with (first
   | ((with_reducible show wpList _ _ _ (Oper.mk _ (Op.load 34 (.tmp 3)) _ _ _ _ :: _) _ _); refine wpList_load_g rfl 34 (.tmp 3) rfl b3 0 rfl (s.arr a).toList _ (HXr.out) Tryz.underlying34 rfl (by kernel_rfl) ?_)
   | ((with_reducible show wpList _ _ _ (Oper.mk _ (Op.load 34 (.tmp 4)) _ _ _ _ :: _) _ _); refine wpList_load_g rfl 34 (.tmp 4) rfl b4 0 rfl (t.arr c).toList _ (HYr.out) Tryz.underlying34 rfl (by kernel_rfl) ?_)
   | fail)
 clear HXr HYr
 refine (rsFew_any s a 12 w1 HS.out).mono ?_
 rintro e w2 ⟨v1,rfl,hv1,hb⟩
 have HV1 := hid hv1
 have HX := hid (HX.out.now hb)
 have HY := hid (HY.out.now hb)
 have HS := hid (HS.out.now hb)
 have HT := hid (HT.out.now hb)
 have HV := hid (HV.out.now hb)
 have HB := hid (HB.out.trans ((hb).mono HB.out.size))
 clear hb hv1
 cases v1
 ·skip
  have HXr := hid (range_block HX.out rfl)
  have HYr := hid (range_block HY.out rfl)
  go_wp2_with (first
    | ((with_reducible show wpList _ _ _ (Oper.mk _ (Op.load 34 (.tmp 3)) _ _ _ _ :: _) _ _); refine wpList_load_g rfl 34 (.tmp 3) rfl b3 0 rfl (s.arr a).toList _ (HXr.out) Tryz.underlying34 rfl (by kernel_rfl) ?_)
    | ((with_reducible show wpList _ _ _ (Oper.mk _ (Op.load 34 (.tmp 4)) _ _ _ _ :: _) _ _); refine wpList_load_g rfl 34 (.tmp 4) rfl b4 0 rfl (t.arr c).toList _ (HYr.out) Tryz.underlying34 rfl (by kernel_rfl) ?_)
    | fail)
  clear HXr HYr
  go_ret
  exact ⟨rfl,HB.out⟩
 have HF1 := hid (HV1.out rfl)
 clear HV1
 have HXr := hid (range_block HX.out rfl)
 have HYr := hid (range_block HY.out rfl)
 go_wp2_with (first
   | ((with_reducible show wpList _ _ _ (Oper.mk _ (Op.load 34 (.tmp 3)) _ _ _ _ :: _) _ _); refine wpList_load_g rfl 34 (.tmp 3) rfl b3 0 rfl (s.arr a).toList _ (HXr.out) Tryz.underlying34 rfl (by kernel_rfl) ?_)
   | ((with_reducible show wpList _ _ _ (Oper.mk _ (Op.load 34 (.tmp 4)) _ _ _ _ :: _) _ _); refine wpList_load_g rfl 34 (.tmp 4) rfl b4 0 rfl (t.arr c).toList _ (HYr.out) Tryz.underlying34 rfl (by kernel_rfl) ?_)
   | fail)
 clear HXr HYr
 refine (rsFew_any t c 12 w2 HT.out).mono ?_
 rintro e w3 ⟨v2,rfl,hv2,hb⟩
 have HV2 := hid hv2
 have HX := hid (HX.out.now hb)
 have HY := hid (HY.out.now hb)
 have HS := hid (HS.out.now hb)
 have HT := hid (HT.out.now hb)
 have HV := hid (HV.out.now hb)
 have HB := hid (HB.out.trans ((hb).mono HB.out.size))
 clear hb hv2
 cases v2
 ·skip
  have HXr := hid (range_block HX.out rfl)
  have HYr := hid (range_block HY.out rfl)
  go_wp2_with (first
    | ((with_reducible show wpList _ _ _ (Oper.mk _ (Op.load 34 (.tmp 3)) _ _ _ _ :: _) _ _); refine wpList_load_g rfl 34 (.tmp 3) rfl b3 0 rfl (s.arr a).toList _ (HXr.out) Tryz.underlying34 rfl (by kernel_rfl) ?_)
    | ((with_reducible show wpList _ _ _ (Oper.mk _ (Op.load 34 (.tmp 4)) _ _ _ _ :: _) _ _); refine wpList_load_g rfl 34 (.tmp 4) rfl b4 0 rfl (t.arr c).toList _ (HYr.out) Tryz.underlying34 rfl (by kernel_rfl) ?_)
    | fail)
  clear HXr HYr
  go_ret
  exact ⟨rfl,HB.out⟩
 have HF2 := hid (HV2.out rfl)
 clear HV2
 by_cases hl : 3000 < x.length
 ·have d1 : decide ((3000 : Int) < (x.length : Int)) = true := decide_eq_true (by omega)
  have HXr := hid (range_block HX.out rfl)
  have HYr := hid (range_block HY.out rfl)
  go_wp2_with (first
    | ((with_reducible show wpList _ _ _ (Oper.mk _ (Op.load 34 (.tmp 3)) _ _ _ _ :: _) _ _); refine wpList_load_g rfl 34 (.tmp 3) rfl b3 0 rfl (s.arr a).toList _ (HXr.out) Tryz.underlying34 rfl (by kernel_rfl) ?_)
    | ((with_reducible show wpList _ _ _ (Oper.mk _ (Op.load 34 (.tmp 4)) _ _ _ _ :: _) _ _); refine wpList_load_g rfl 34 (.tmp 4) rfl b4 0 rfl (t.arr c).toList _ (HYr.out) Tryz.underlying34 rfl (by kernel_rfl) ?_)
    | fail)
  clear HXr HYr
  go_ret
  exact ⟨rfl,HB.out⟩
 have d1 : decide ((3000 : Int) < (x.length : Int)) = false := decide_eq_false (by omega)
 have HLx : Hid (x.length ≤ 3000) := hid (by omega)
 clear hl
 have HXr := hid (range_block HX.out rfl)
 have HYr := hid (range_block HY.out rfl)
 go_wp2_with (first
   | ((with_reducible show wpList _ _ _ (Oper.mk _ (Op.load 34 (.tmp 3)) _ _ _ _ :: _) _ _); refine wpList_load_g rfl 34 (.tmp 3) rfl b3 0 rfl (s.arr a).toList _ (HXr.out) Tryz.underlying34 rfl (by kernel_rfl) ?_)
   | ((with_reducible show wpList _ _ _ (Oper.mk _ (Op.load 34 (.tmp 4)) _ _ _ _ :: _) _ _); refine wpList_load_g rfl 34 (.tmp 4) rfl b4 0 rfl (t.arr c).toList _ (HYr.out) Tryz.underlying34 rfl (by kernel_rfl) ?_)
   | fail)
 clear HXr HYr
 refine (stText_any s a w3 HV.out HS.out (wf_pairs HWs.out) (few_nums HF1.out HWs.out)).mono ?_
 rintro e w4 ⟨rfl,hb⟩
 have HX := hid (HX.out.now hb)
 have HY := hid (HY.out.now hb)
 have HS := hid (HS.out.now hb)
 have HT := hid (HT.out.now hb)
 have HV := hid (HV.out.now hb)
 have HB := hid (HB.out.trans ((hb).mono HB.out.size))
 clear hb d1
 obtain ⟨tx,htx⟩ : ∃ z,z = textP s.pl := ⟨_,rfl⟩
 rw [← htx]
 have HTx := hid htx
 clear htx
 have HLt : Hid (tx.length ≤ 1000000) := hid (by rw [HTx.out]; exact few_text HF1.out HWs.out)
 have HXr := hid (range_block HX.out rfl)
 have HYr := hid (range_block HY.out rfl)
 go_wp2_with (first
   | ((with_reducible show wpList _ _ _ (Oper.mk _ (Op.load 34 (.tmp 3)) _ _ _ _ :: _) _ _); refine wpList_load_g rfl 34 (.tmp 3) rfl b3 0 rfl (s.arr a).toList _ (HXr.out) Tryz.underlying34 rfl (by kernel_rfl) ?_)
   | ((with_reducible show wpList _ _ _ (Oper.mk _ (Op.load 34 (.tmp 4)) _ _ _ _ :: _) _ _); refine wpList_load_g rfl 34 (.tmp 4) rfl b4 0 rfl (t.arr c).toList _ (HYr.out) Tryz.underlying34 rfl (by kernel_rfl) ?_)
   | fail)
 clear HXr HYr
 refine (stRead_any tx w4 HV.out HLt.out).mono ?_
 rintro e w5 ⟨s2,a2,rfl,hp2,hr2,hb⟩
 have HP2 := hid hp2
 have HR2 := hid hr2.ok
 have HX := hid (HX.out.now hb)
 have HY := hid (HY.out.now hb)
 have HS := hid (HS.out.now hb)
 have HT := hid (HT.out.now hb)
 have HV := hid (HV.out.now hb)
 have HB := hid (HB.out.trans ((hb).mono HB.out.size))
 clear hb hp2 hr2
 go_upto_region 6 with fail
 change Code.wp _ _ _ _ (w5.alloc (.cells (s2.arr a2) 34))
 have hb : Below w5.heap.size w5 (w5.alloc (.cells (s2.arr a2) 34)) := by repeat (first | with_reducible exact Below.refl _ _ | with_reducible assumption | with_reducible refine Below.drew ?_ | with_reducible refine Below.alloc ?_ (by first | omega | (simp; done) | (simp; omega)) _)
 have HZ : Hid (StBox w5.heap.size s2 a2 (w5.alloc (.cells (s2.arr a2) 34))) := hid (MapKept.heap_alloc w5 _).1
 have HX := hid (HX.out.now hb)
 have HY := hid (HY.out.now hb)
 have HS := hid (HS.out.now hb)
 have HT := hid (HT.out.now hb)
 have HV := hid (HV.out.now hb)
 have HB := hid (HB.out.trans ((hb).mono HB.out.size))
 have HR2 := hid (HR2.out.now hb)
 clear hb
 generalize w5.alloc (.cells (s2.arr a2) 34) = w6 at *
 obtain ⟨b9,hb9⟩ : ∃ z,z = w5.heap.size := ⟨_,rfl⟩
 rw [← hb9] at HZ ⊢
 clear hb9
 have HpS : Hid (s.pairs.length ≤ 1000000) := hid (Nat.le_trans HF1.out.pairs (by omega))
 have HXr := hid (range_block HX.out rfl)
 have HYr := hid (range_block HY.out rfl)
 go_wp2_with (first
   | ((with_reducible show wpList _ _ _ (Oper.mk _ (Op.load 34 (.tmp 3)) _ _ _ _ :: _) _ _); refine wpList_load_g rfl 34 (.tmp 3) rfl b3 0 rfl (s.arr a).toList _ (HXr.out) Tryz.underlying34 rfl (by kernel_rfl) ?_)
   | ((with_reducible show wpList _ _ _ (Oper.mk _ (Op.load 34 (.tmp 4)) _ _ _ _ :: _) _ _); refine wpList_load_g rfl 34 (.tmp 4) rfl b4 0 rfl (t.arr c).toList _ (HYr.out) Tryz.underlying34 rfl (by kernel_rfl) ?_)
   | fail)
 clear HXr HYr
 refine (stRight_any s a w6 HS.out HpS.out (wf_pairs HWs.out)).mono ?_
 rintro e w7 ⟨rfl,hb⟩
 have HZ := hid (HZ.out.now hb)
 have HR2 := hid (HR2.out.now hb)
 have HX := hid (HX.out.now hb)
 have HY := hid (HY.out.now hb)
 have HS := hid (HS.out.now hb)
 have HT := hid (HT.out.now hb)
 have HV := hid (HV.out.now hb)
 have HB := hid (HB.out.trans ((hb).mono HB.out.size))
 clear hb
 have hpl := stateB_pl s
 have hkey : Hid ((stateB s = true ∧ (readP tx).2 = 0 ∧ tx ≠ [] ∧ s2.pl = s.pl) ∨ (stateB s = false ∧ (readP tx).2 = 2 ∧ tx = [])) := hid (by
  cases hR : stateB s with
  | true =>
   rw [hR] at hpl
   have h1 := readP_back hpl.symm (few_nums HF1.out HWs.out)
   rw [← HTx.out] at h1
   exact .inl ⟨rfl,by rw [h1],by rw [HTx.out]; exact textP_ne.2 hpl.symm,by rw [HP2.out,h1]⟩
  | false =>
   rw [hR] at hpl
   have h0 : tx = [] := by rw [HTx.out]; unfold textP; rw [if_neg (by rw [← hpl]; decide)]
   exact .inr ⟨rfl,by rw [h0,readP_nil],h0⟩)
 clear hpl HP2
 have HTi : Hid (tx ≠ [] → textP t.pl = tx → s.pl = t.pl) := hid (fun h1 h2 => textP_inj (by rw [← HTx.out]; exact h1) (by rw [← HTx.out,h2]) (few_nums HF1.out HWs.out) (few_nums HF2.out HWt.out))
 generalize stateB s = rs at *
 obtain ⟨cd,hcd⟩ : ∃ z,z = (readP tx).2 := ⟨_,rfl⟩
 rw [← hcd] at hkey ⊢
 clear hcd
 rcases hkey.out with ⟨rfl,rfl,hne,hp⟩ | ⟨rfl,rfl,hnl⟩
 ·have HP := hid hp
  have HNe := hid hne
  have q1 : (bs tx).toList.isEmpty = false := by rw [bs_toList]; cases tx with
   | nil => exact absurd rfl hne
   | cons y r => rfl
  have q2 : ((bs tx).toList == []) = false := by rw [bs_toList]; cases tx with
   | nil => exact absurd rfl hne
   | cons y r => rfl
  have q3 : ((bs tx).toList != []) = true := by rw [bne,q2]; rfl
  clear hkey hp hne
  have HZr := hid (range_block HZ.out rfl)
  have HXr := hid (range_block HX.out rfl)
  go_wp2_with (first
    | ((with_reducible show wpList _ _ _ (Oper.mk _ (Op.load 34 (.tmp 3)) _ _ _ _ :: _) _ _); refine wpList_load_g rfl 34 (.tmp 3) rfl b3 0 rfl (s.arr a).toList _ (HXr.out) Tryz.underlying34 rfl (by kernel_rfl) ?_)
    | ((with_reducible show wpList _ _ _ (Oper.mk _ (Op.load 34 (.tmp 9)) _ _ _ _ :: _) _ _); refine wpList_load_g rfl 34 (.tmp 9) rfl b9 0 rfl (s2.arr a2).toList _ (HZr.out) Tryz.underlying34 rfl (by kernel_rfl) ?_)
    | fail)
  clear HZr HXr
  refine (rsame_c s2 s a2 a w7 HR2.out HS.out HP.out).mono ?_
  rintro e w8 ⟨rfl,hb⟩
  have HX := hid (HX.out.now hb)
  have HY := hid (HY.out.now hb)
  have HS := hid (HS.out.now hb)
  have HT := hid (HT.out.now hb)
  have HV := hid (HV.out.now hb)
  have HB := hid (HB.out.trans ((hb).mono HB.out.size))
  clear hb
  have HXr := hid (range_block HX.out rfl)
  have HYr := hid (range_block HY.out rfl)
  go_wp2_with (first
    | ((with_reducible show wpList _ _ _ (Oper.mk _ (Op.load 34 (.tmp 3)) _ _ _ _ :: _) _ _); refine wpList_load_g rfl 34 (.tmp 3) rfl b3 0 rfl (s.arr a).toList _ (HXr.out) Tryz.underlying34 rfl (by kernel_rfl) ?_)
    | ((with_reducible show wpList _ _ _ (Oper.mk _ (Op.load 34 (.tmp 4)) _ _ _ _ :: _) _ _); refine wpList_load_g rfl 34 (.tmp 4) rfl b4 0 rfl (t.arr c).toList _ (HYr.out) Tryz.underlying34 rfl (by kernel_rfl) ?_)
    | fail)
  clear HXr HYr
  refine (stText_any t c w8 HV.out HT.out (wf_pairs HWt.out) (few_nums HF2.out HWt.out)).mono ?_
  rintro e w9 ⟨rfl,hb⟩
  have HX := hid (HX.out.now hb)
  have HY := hid (HY.out.now hb)
  have HS := hid (HS.out.now hb)
  have HT := hid (HT.out.now hb)
  have HV := hid (HV.out.now hb)
  have HB := hid (HB.out.trans ((hb).mono HB.out.size))
  clear hb
  have HTj : Hid (textP t.pl = tx → s.pl = t.pl) := hid (HTi.out HNe.out)
  generalize textP t.pl = ty at *
  by_cases hty : ty = tx
  ·have HPt := hid (HTj.out hty)
   have q4 : ((bs tx).toList == (bs ty).toList) = true := by rw [bs_beq,hty]; simp
   clear hty HTi
   have HXr := hid (range_block HX.out rfl)
   have HYr := hid (range_block HY.out rfl)
   go_wp2_with (first
     | ((with_reducible show wpList _ _ _ (Oper.mk _ (Op.load 34 (.tmp 3)) _ _ _ _ :: _) _ _); refine wpList_load_g rfl 34 (.tmp 3) rfl b3 0 rfl (s.arr a).toList _ (HXr.out) Tryz.underlying34 rfl (by kernel_rfl) ?_)
     | ((with_reducible show wpList _ _ _ (Oper.mk _ (Op.load 34 (.tmp 4)) _ _ _ _ :: _) _ _); refine wpList_load_g rfl 34 (.tmp 4) rfl b4 0 rfl (t.arr c).toList _ (HYr.out) Tryz.underlying34 rfl (by kernel_rfl) ?_)
     | fail)
   clear HXr HYr
   refine (rsame_c s t a c w9 HS.out HT.out HPt.out).mono ?_
   rintro e w10 ⟨rfl,hb⟩
   have HX := hid (HX.out.now hb)
   have HY := hid (HY.out.now hb)
   have HS := hid (HS.out.now hb)
   have HT := hid (HT.out.now hb)
   have HV := hid (HV.out.now hb)
   have HB := hid (HB.out.trans ((hb).mono HB.out.size))
   clear hb
   have HXr := hid (range_block HX.out rfl)
   have HYr := hid (range_block HY.out rfl)
   go_wp2_with (first
     | ((with_reducible show wpList _ _ _ (Oper.mk _ (Op.load 34 (.tmp 3)) _ _ _ _ :: _) _ _); refine wpList_load_g rfl 34 (.tmp 3) rfl b3 0 rfl (s.arr a).toList _ (HXr.out) Tryz.underlying34 rfl (by kernel_rfl) ?_)
     | ((with_reducible show wpList _ _ _ (Oper.mk _ (Op.load 34 (.tmp 4)) _ _ _ _ :: _) _ _); refine wpList_load_g rfl 34 (.tmp 4) rfl b4 0 rfl (t.arr c).toList _ (HYr.out) Tryz.underlying34 rfl (by kernel_rfl) ?_)
     | fail)
   clear HXr HYr
   clear q1 q2 q3 q4
   refine (stRead_any x w10 HV.out (by have := HLx.out; omega)).mono ?_
   rintro e u1 ⟨s3,a3,rfl,hp3,hr3,hb⟩
   have HP3 := hid hp3
   have HR3 := hid hr3.ok
   have HFa := hid (read_facts (x := x) (by have := HLx.out; omega))
   have HX := hid (HX.out.now hb)
   have HY := hid (HY.out.now hb)
   have HS := hid (HS.out.now hb)
   have HT := hid (HT.out.now hb)
   have HV := hid (HV.out.now hb)
   have HB := hid (HB.out.trans ((hb).mono HB.out.size))
   clear hb hp3 hr3
   go_upto_region 9 with fail
   change Code.wp _ _ _ _ (u1.alloc (.cells (s3.arr a3) 34))
   have hb : Below u1.heap.size u1 (u1.alloc (.cells (s3.arr a3) 34)) := by repeat (first | with_reducible exact Below.refl _ _ | with_reducible assumption | with_reducible refine Below.drew ?_ | with_reducible refine Below.alloc ?_ (by first | omega | (simp; done) | (simp; omega)) _)
   have HQ : Hid (StBox u1.heap.size s3 a3 (u1.alloc (.cells (s3.arr a3) 34))) := hid (MapKept.heap_alloc u1 _).1
   have HX := hid (HX.out.now hb)
   have HY := hid (HY.out.now hb)
   have HS := hid (HS.out.now hb)
   have HT := hid (HT.out.now hb)
   have HV := hid (HV.out.now hb)
   have HB := hid (HB.out.trans ((hb).mono HB.out.size))
   have HR3 := hid (HR3.out.now hb)
   clear hb
   generalize u1.alloc (.cells (s3.arr a3) 34) = u2 at *
   obtain ⟨b11,hb11⟩ : ∃ z,z = u1.heap.size := ⟨_,rfl⟩
   rw [← hb11] at HQ ⊢
   clear hb11
   have HPr : Hid (∀ y ∈ s3.pairs.map prD,y.wf) := hid (by have h := HFa.out.2; rw [← HP3.out] at h; exact h)
   have HNm : Hid (NumsP s3.pl) := hid (by have h := HFa.out.1; rw [← HP3.out] at h; exact h)
   have HCs : Hid (((readP x).2 = 0 ∧ stateB s3 = true ∧ textP s3.pl = x) ∨ ((readP x).2 = 2 ∧ s3.pl = (sttZ 0).pl)) := hid (by
    by_cases h : (readP x).2 = 0
    ·have h1 := readP_ok h
     rw [← HP3.out] at h1
     exact .inl ⟨h,by rw [stateB_pl]; exact h1.1,h1.2⟩
    ·have h1 := readP_bad h
     exact .inr ⟨by rw [h1],by rw [HP3.out,h1]; rfl⟩)
   clear HP3 HFa
   obtain ⟨cx,hcx⟩ : ∃ z,z = (readP x).2 := ⟨_,rfl⟩
   rw [← hcx] at HCs ⊢
   clear hcx
   have HQr := hid (range_block HQ.out rfl)
   rcases HCs.out with ⟨rfl,hst,htx⟩ | ⟨rfl,hz⟩
   ·have HSt := hid hst
    have HTx2 := hid htx
    clear hst htx
    go_wp2_with (first
      | ((with_reducible show wpList _ _ _ (Oper.mk _ (Op.load 34 (.tmp 11)) _ _ _ _ :: _) _ _); refine wpList_load_g rfl 34 (.tmp 11) rfl b11 0 rfl (s3.arr a3).toList _ (HQr.out) Tryz.underlying34 rfl (by kernel_rfl) ?_)
      | fail)
    refine (right_c s3 a3 u2 HR3.out (Nat.le_trans HNm.out.l4 (by omega)) HPr.out HSt.out).mono ?_
    rintro e u3 ⟨rfl,hb⟩
    have HR3 := hid (HR3.out.now hb)
    have HQ := hid (HQ.out.now hb)
    have HX := hid (HX.out.now hb)
    have HY := hid (HY.out.now hb)
    have HS := hid (HS.out.now hb)
    have HT := hid (HT.out.now hb)
    have HV := hid (HV.out.now hb)
    have HB := hid (HB.out.trans ((hb).mono HB.out.size))
    clear hb HQr
    have HQr := hid (range_block HQ.out rfl)
    go_wp2_with (first
      | ((with_reducible show wpList _ _ _ (Oper.mk _ (Op.load 34 (.tmp 11)) _ _ _ _ :: _) _ _); refine wpList_load_g rfl 34 (.tmp 11) rfl b11 0 rfl (s3.arr a3).toList _ (HQr.out) Tryz.underlying34 rfl (by kernel_rfl) ?_)
      | fail)
    refine (text_c s3 a3 (bs x) u3 HV.out HR3.out HPr.out HNm.out (by rw [HTx2.out])).mono ?_
    rintro e u4 ⟨rfl,hb⟩
    have HB := hid (HB.out.trans (hb.mono HB.out.size))
    clear hb HQr
    have q9 : ((bs x).toList == (bs x).toList) = true := by rw [bs_beq]; simp
    go_wp2_with fail
    go_ret
    exact ⟨rfl,HB.out⟩
   ·have HZz := hid hz
    clear hz
    go_wp2_with (first
      | ((with_reducible show wpList _ _ _ (Oper.mk _ (Op.load 34 (.tmp 11)) _ _ _ _ :: _) _ _); refine wpList_load_g rfl 34 (.tmp 11) rfl b11 0 rfl (s3.arr a3).toList _ (HQr.out) Tryz.underlying34 rfl (by kernel_rfl) ?_)
      | fail)
    refine (rsame_c s3 (sttZ 0) a3 adZ u2 HR3.out (zOk u2 0) HZz.out).mono ?_
    rintro e u4 ⟨rfl,hb⟩
    have HB := hid (HB.out.trans (hb.mono HB.out.size))
    clear hb
    go_wp2_with fail
    go_ret
    exact ⟨rfl,HB.out⟩
  ·have q4 : ((bs tx).toList == (bs ty).toList) = false := by rw [bs_beq]; simpa using fun h => hty h.symm
   clear hty HTi
   have HXr := hid (range_block HX.out rfl)
   have HYr := hid (range_block HY.out rfl)
   go_wp2_with (first
     | ((with_reducible show wpList _ _ _ (Oper.mk _ (Op.load 34 (.tmp 3)) _ _ _ _ :: _) _ _); refine wpList_load_g rfl 34 (.tmp 3) rfl b3 0 rfl (s.arr a).toList _ (HXr.out) Tryz.underlying34 rfl (by kernel_rfl) ?_)
     | ((with_reducible show wpList _ _ _ (Oper.mk _ (Op.load 34 (.tmp 4)) _ _ _ _ :: _) _ _); refine wpList_load_g rfl 34 (.tmp 4) rfl b4 0 rfl (t.arr c).toList _ (HYr.out) Tryz.underlying34 rfl (by kernel_rfl) ?_)
     | fail)
   clear HXr HYr
   clear q1 q2 q3 q4
   refine (stRead_any x w9 HV.out (by have := HLx.out; omega)).mono ?_
   rintro e u1 ⟨s3,a3,rfl,hp3,hr3,hb⟩
   have HP3 := hid hp3
   have HR3 := hid hr3.ok
   have HFa := hid (read_facts (x := x) (by have := HLx.out; omega))
   have HX := hid (HX.out.now hb)
   have HY := hid (HY.out.now hb)
   have HS := hid (HS.out.now hb)
   have HT := hid (HT.out.now hb)
   have HV := hid (HV.out.now hb)
   have HB := hid (HB.out.trans ((hb).mono HB.out.size))
   clear hb hp3 hr3
   go_upto_region 9 with fail
   change Code.wp _ _ _ _ (u1.alloc (.cells (s3.arr a3) 34))
   have hb : Below u1.heap.size u1 (u1.alloc (.cells (s3.arr a3) 34)) := by repeat (first | with_reducible exact Below.refl _ _ | with_reducible assumption | with_reducible refine Below.drew ?_ | with_reducible refine Below.alloc ?_ (by first | omega | (simp; done) | (simp; omega)) _)
   have HQ : Hid (StBox u1.heap.size s3 a3 (u1.alloc (.cells (s3.arr a3) 34))) := hid (MapKept.heap_alloc u1 _).1
   have HX := hid (HX.out.now hb)
   have HY := hid (HY.out.now hb)
   have HS := hid (HS.out.now hb)
   have HT := hid (HT.out.now hb)
   have HV := hid (HV.out.now hb)
   have HB := hid (HB.out.trans ((hb).mono HB.out.size))
   have HR3 := hid (HR3.out.now hb)
   clear hb
   generalize u1.alloc (.cells (s3.arr a3) 34) = u2 at *
   obtain ⟨b11,hb11⟩ : ∃ z,z = u1.heap.size := ⟨_,rfl⟩
   rw [← hb11] at HQ ⊢
   clear hb11
   have HPr : Hid (∀ y ∈ s3.pairs.map prD,y.wf) := hid (by have h := HFa.out.2; rw [← HP3.out] at h; exact h)
   have HNm : Hid (NumsP s3.pl) := hid (by have h := HFa.out.1; rw [← HP3.out] at h; exact h)
   have HCs : Hid (((readP x).2 = 0 ∧ stateB s3 = true ∧ textP s3.pl = x) ∨ ((readP x).2 = 2 ∧ s3.pl = (sttZ 0).pl)) := hid (by
    by_cases h : (readP x).2 = 0
    ·have h1 := readP_ok h
     rw [← HP3.out] at h1
     exact .inl ⟨h,by rw [stateB_pl]; exact h1.1,h1.2⟩
    ·have h1 := readP_bad h
     exact .inr ⟨by rw [h1],by rw [HP3.out,h1]; rfl⟩)
   clear HP3 HFa
   obtain ⟨cx,hcx⟩ : ∃ z,z = (readP x).2 := ⟨_,rfl⟩
   rw [← hcx] at HCs ⊢
   clear hcx
   have HQr := hid (range_block HQ.out rfl)
   rcases HCs.out with ⟨rfl,hst,htx⟩ | ⟨rfl,hz⟩
   ·have HSt := hid hst
    have HTx2 := hid htx
    clear hst htx
    go_wp2_with (first
      | ((with_reducible show wpList _ _ _ (Oper.mk _ (Op.load 34 (.tmp 11)) _ _ _ _ :: _) _ _); refine wpList_load_g rfl 34 (.tmp 11) rfl b11 0 rfl (s3.arr a3).toList _ (HQr.out) Tryz.underlying34 rfl (by kernel_rfl) ?_)
      | fail)
    refine (right_c s3 a3 u2 HR3.out (Nat.le_trans HNm.out.l4 (by omega)) HPr.out HSt.out).mono ?_
    rintro e u3 ⟨rfl,hb⟩
    have HR3 := hid (HR3.out.now hb)
    have HQ := hid (HQ.out.now hb)
    have HX := hid (HX.out.now hb)
    have HY := hid (HY.out.now hb)
    have HS := hid (HS.out.now hb)
    have HT := hid (HT.out.now hb)
    have HV := hid (HV.out.now hb)
    have HB := hid (HB.out.trans ((hb).mono HB.out.size))
    clear hb HQr
    have HQr := hid (range_block HQ.out rfl)
    go_wp2_with (first
      | ((with_reducible show wpList _ _ _ (Oper.mk _ (Op.load 34 (.tmp 11)) _ _ _ _ :: _) _ _); refine wpList_load_g rfl 34 (.tmp 11) rfl b11 0 rfl (s3.arr a3).toList _ (HQr.out) Tryz.underlying34 rfl (by kernel_rfl) ?_)
      | fail)
    refine (text_c s3 a3 (bs x) u3 HV.out HR3.out HPr.out HNm.out (by rw [HTx2.out])).mono ?_
    rintro e u4 ⟨rfl,hb⟩
    have HB := hid (HB.out.trans (hb.mono HB.out.size))
    clear hb HQr
    have q9 : ((bs x).toList == (bs x).toList) = true := by rw [bs_beq]; simp
    go_wp2_with fail
    go_ret
    exact ⟨rfl,HB.out⟩
   ·have HZz := hid hz
    clear hz
    go_wp2_with (first
      | ((with_reducible show wpList _ _ _ (Oper.mk _ (Op.load 34 (.tmp 11)) _ _ _ _ :: _) _ _); refine wpList_load_g rfl 34 (.tmp 11) rfl b11 0 rfl (s3.arr a3).toList _ (HQr.out) Tryz.underlying34 rfl (by kernel_rfl) ?_)
      | fail)
    refine (rsame_c s3 (sttZ 0) a3 adZ u2 HR3.out (zOk u2 0) HZz.out).mono ?_
    rintro e u4 ⟨rfl,hb⟩
    have HB := hid (HB.out.trans (hb.mono HB.out.size))
    clear hb
    go_wp2_with fail
    go_ret
    exact ⟨rfl,HB.out⟩
 ·have q1 : (bs tx).toList.isEmpty = true := by rw [bs_toList,hnl]; rfl
  have q2 : ((bs tx).toList == []) = true := by rw [bs_toList,hnl]; rfl
  have q3 : ((bs tx).toList != []) = false := by rw [bne,q2]; rfl
  clear hkey hnl
  have HXr := hid (range_block HX.out rfl)
  have HYr := hid (range_block HY.out rfl)
  go_wp2_with (first
    | ((with_reducible show wpList _ _ _ (Oper.mk _ (Op.load 34 (.tmp 3)) _ _ _ _ :: _) _ _); refine wpList_load_g rfl 34 (.tmp 3) rfl b3 0 rfl (s.arr a).toList _ (HXr.out) Tryz.underlying34 rfl (by kernel_rfl) ?_)
    | ((with_reducible show wpList _ _ _ (Oper.mk _ (Op.load 34 (.tmp 4)) _ _ _ _ :: _) _ _); refine wpList_load_g rfl 34 (.tmp 4) rfl b4 0 rfl (t.arr c).toList _ (HYr.out) Tryz.underlying34 rfl (by kernel_rfl) ?_)
    | fail)
  clear HXr HYr
  clear q1 q2 q3
  refine (stRead_any x w7 HV.out (by have := HLx.out; omega)).mono ?_
  rintro e u1 ⟨s3,a3,rfl,hp3,hr3,hb⟩
  have HP3 := hid hp3
  have HR3 := hid hr3.ok
  have HFa := hid (read_facts (x := x) (by have := HLx.out; omega))
  have HX := hid (HX.out.now hb)
  have HY := hid (HY.out.now hb)
  have HS := hid (HS.out.now hb)
  have HT := hid (HT.out.now hb)
  have HV := hid (HV.out.now hb)
  have HB := hid (HB.out.trans ((hb).mono HB.out.size))
  clear hb hp3 hr3
  go_upto_region 9 with fail
  change Code.wp _ _ _ _ (u1.alloc (.cells (s3.arr a3) 34))
  have hb : Below u1.heap.size u1 (u1.alloc (.cells (s3.arr a3) 34)) := by repeat (first | with_reducible exact Below.refl _ _ | with_reducible assumption | with_reducible refine Below.drew ?_ | with_reducible refine Below.alloc ?_ (by first | omega | (simp; done) | (simp; omega)) _)
  have HQ : Hid (StBox u1.heap.size s3 a3 (u1.alloc (.cells (s3.arr a3) 34))) := hid (MapKept.heap_alloc u1 _).1
  have HX := hid (HX.out.now hb)
  have HY := hid (HY.out.now hb)
  have HS := hid (HS.out.now hb)
  have HT := hid (HT.out.now hb)
  have HV := hid (HV.out.now hb)
  have HB := hid (HB.out.trans ((hb).mono HB.out.size))
  have HR3 := hid (HR3.out.now hb)
  clear hb
  generalize u1.alloc (.cells (s3.arr a3) 34) = u2 at *
  obtain ⟨b11,hb11⟩ : ∃ z,z = u1.heap.size := ⟨_,rfl⟩
  rw [← hb11] at HQ ⊢
  clear hb11
  have HPr : Hid (∀ y ∈ s3.pairs.map prD,y.wf) := hid (by have h := HFa.out.2; rw [← HP3.out] at h; exact h)
  have HNm : Hid (NumsP s3.pl) := hid (by have h := HFa.out.1; rw [← HP3.out] at h; exact h)
  have HCs : Hid (((readP x).2 = 0 ∧ stateB s3 = true ∧ textP s3.pl = x) ∨ ((readP x).2 = 2 ∧ s3.pl = (sttZ 0).pl)) := hid (by
   by_cases h : (readP x).2 = 0
   ·have h1 := readP_ok h
    rw [← HP3.out] at h1
    exact .inl ⟨h,by rw [stateB_pl]; exact h1.1,h1.2⟩
   ·have h1 := readP_bad h
    exact .inr ⟨by rw [h1],by rw [HP3.out,h1]; rfl⟩)
  clear HP3 HFa
  obtain ⟨cx,hcx⟩ : ∃ z,z = (readP x).2 := ⟨_,rfl⟩
  rw [← hcx] at HCs ⊢
  clear hcx
  have HQr := hid (range_block HQ.out rfl)
  rcases HCs.out with ⟨rfl,hst,htx⟩ | ⟨rfl,hz⟩
  ·have HSt := hid hst
   have HTx2 := hid htx
   clear hst htx
   go_wp2_with (first
     | ((with_reducible show wpList _ _ _ (Oper.mk _ (Op.load 34 (.tmp 11)) _ _ _ _ :: _) _ _); refine wpList_load_g rfl 34 (.tmp 11) rfl b11 0 rfl (s3.arr a3).toList _ (HQr.out) Tryz.underlying34 rfl (by kernel_rfl) ?_)
     | fail)
   refine (right_c s3 a3 u2 HR3.out (Nat.le_trans HNm.out.l4 (by omega)) HPr.out HSt.out).mono ?_
   rintro e u3 ⟨rfl,hb⟩
   have HR3 := hid (HR3.out.now hb)
   have HQ := hid (HQ.out.now hb)
   have HX := hid (HX.out.now hb)
   have HY := hid (HY.out.now hb)
   have HS := hid (HS.out.now hb)
   have HT := hid (HT.out.now hb)
   have HV := hid (HV.out.now hb)
   have HB := hid (HB.out.trans ((hb).mono HB.out.size))
   clear hb HQr
   have HQr := hid (range_block HQ.out rfl)
   go_wp2_with (first
     | ((with_reducible show wpList _ _ _ (Oper.mk _ (Op.load 34 (.tmp 11)) _ _ _ _ :: _) _ _); refine wpList_load_g rfl 34 (.tmp 11) rfl b11 0 rfl (s3.arr a3).toList _ (HQr.out) Tryz.underlying34 rfl (by kernel_rfl) ?_)
     | fail)
   refine (text_c s3 a3 (bs x) u3 HV.out HR3.out HPr.out HNm.out (by rw [HTx2.out])).mono ?_
   rintro e u4 ⟨rfl,hb⟩
   have HB := hid (HB.out.trans (hb.mono HB.out.size))
   clear hb HQr
   have q9 : ((bs x).toList == (bs x).toList) = true := by rw [bs_beq]; simp
   go_wp2_with fail
   go_ret
   exact ⟨rfl,HB.out⟩
  ·have HZz := hid hz
   clear hz
   go_wp2_with (first
     | ((with_reducible show wpList _ _ _ (Oper.mk _ (Op.load 34 (.tmp 11)) _ _ _ _ :: _) _ _); refine wpList_load_g rfl 34 (.tmp 11) rfl b11 0 rfl (s3.arr a3).toList _ (HQr.out) Tryz.underlying34 rfl (by kernel_rfl) ?_)
     | fail)
   refine (rsame_c s3 (sttZ 0) a3 adZ u2 HR3.out (zOk u2 0) HZz.out).mono ?_
   rintro e u4 ⟨rfl,hb⟩
   have HB := hid (HB.out.trans (hb.mono HB.out.size))
   clear hb
   go_wp2_with fail
   go_ret
   exact ⟨rfl,HB.out⟩
end Go.Proofs.YthlpehhlhebhbaaGreatDoor
