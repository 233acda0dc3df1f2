/- The walk of WireWrites. -/
import Derived.Test.YtijknmocidggbaaDoorWrK
namespace Go.Proofs.YtijknmocidggbaaDoor
open Go.RowKit

theorem few_fits {xs : List VM} (h : fewV xs = true) {v : VM} (hv : v ∈ xs) : v.Fits := by
  unfold fewV at h
  simp only [Bool.and_eq_true, decide_eq_true_eq, List.all_eq_true] at h
  have h1 := h.2.1 v hv
  have h2 := v.sz_le h1
  unfold VM.ok at h1
  simp only [Bool.and_eq_true, decide_eq_true_eq, List.all_eq_true] at h1
  unfold VM.sz at h2
  exact ⟨by omega, by omega, by omega, by omega⟩
theorem len_encI (xs : List Int) (h : ∀ x ∈ xs, InInt x) (hl : xs.length ≤ 1000000) : (xs.flatMap encI).length ≤ 1000000000000 := by
  have h := flat_bound encI 22 xs (fun x hx => encI_len x (h x hx))
  omega
theorem len_encT (xs : List (List UInt8)) (hl : xs.length ≤ 1000000) (ht : tot xs ≤ 1000000000) : (xs.flatMap encT).length ≤ 1000000000000 := by
  have h := flat_tot xs (fun x hx => ⟨by omega, by have := tot_le hx; omega⟩)
  omega
set_option maxRecDepth 100000 in
set_option maxHeartbeats 4000000 in
theorem writes_any (v : VM) (w : World) (hV : Vs w.heap.size w) (hv : v.Ok w w.heap.size) :
    Calls Tryd.prog 3 #[v.v] w fun e w' => e = .returned (.bool true) ∧ Below w.heap.size w w' := by
  have hr0 : (w.alloc (.cells v.cs.toArray 25)).heap[w.heap.size]? = some (.cells v.cs.toArray 25 (0, 0)) := (MapKept.heap_alloc w _).1
  have hb0 : Below w.heap.size w (w.alloc (.cells v.cs.toArray 25)) := (Below.refl _ _).alloc (Nat.le_refl _) _
  have HB0 := Lib.hid hb0
  have HR0 := Lib.hid hr0
  have HOk := Lib.hid hv
  have HV := Lib.hid hV
  have HD := Lib.hid (show v.cs = [.int .i64 v.kind, .int .i64 v.n, .string (bs v.s), .slice v.lA v.l.length v.lc, .slice v.tA v.t.length v.tc] from rfl)
  clear hb0 hr0 hv hV
  unfold VM.v
  unfold VM.cs at *
  go_enter Tryd.func3, Tryd.ntmps3
  go_wp2_with fail
  refine (small_any _ (HV.out.now HB0.out)).mono ?_
  rintro e w1 ⟨rfl, hb1⟩
  have hr1 := (hb1.block _ (box_lt HR0.out)).trans HR0.out
  have HB1 := Lib.hid (HB0.out.trans (hb1.mono HB0.out.size))
  have HR1 := Lib.hid hr1
  obtain ⟨d0, d1, d2, d3, d4⟩ := row_cells (v := v) hr1
  clear hb1 hr1 HR0 HB0
  go_wp2_with fail
  have hb2 : Below w1.heap.size w1 (w1.alloc (.cells #[.int .i64 v.kind, .int .i64 v.n, .string (bs v.s), .slice v.lA v.l.length v.lc, .slice v.tA v.t.length v.tc] 25)) := (Below.refl _ _).alloc (Nat.le_refl _) _
  have hrd := RdL.block valLay w1 [v] #[.int .i64 v.kind, .int .i64 v.n, .string (bs v.s), .slice v.lA v.l.length v.lc, .slice v.tA v.t.length v.tc] 25 rfl w1.heap.size rfl
  have hok2 : ∀ x ∈ [v], x.Ok (w1.alloc (.cells #[.int .i64 v.kind, .int .i64 v.n, .string (bs v.s), .slice v.lA v.l.length v.lc, .slice v.tA v.t.length v.tc] 25)) (w1.alloc (.cells #[.int .i64 v.kind, .int .i64 v.n, .string (bs v.s), .slice v.lA v.l.length v.lc, .slice v.tA v.t.length v.tc] 25)).heap.size := fun x hx => by
    simp only [List.mem_singleton] at hx
    subst hx
    exact HOk.out.now (HB1.out.trans (hb2.mono HB1.out.size))
  refine (few_any [v] _ _ _ hrd hok2 (by simp)).mono ?_
  rintro e w2 ⟨rfl, hb3⟩
  have hbx := hb2.trans (hb3.mono hb2.size)
  have HB2 := Lib.hid (HB1.out.trans (hbx.mono HB1.out.size))
  have hr2 := (hbx.block _ (box_lt HR1.out)).trans HR1.out
  have HR2 := Lib.hid hr2
  clear hb2 hrd hok2 hb3 hbx hr2 HR1 HB1 d0 d1 d2 d3 d4
  obtain ⟨d0, d1, d2, d3, d4⟩ := row_cells (v := v) HR2.out
  cases hf : fewV [v] with
  | false =>
    clear hf
    go_wp2_with fail
    go_ret
    exact ⟨rfl, HB2.out⟩
  | true =>
    have HF := Lib.hid (few_fits hf (v := v) (by simp))
    clear hf
    have HO2 := Lib.hid (HOk.out.now HB2.out)
    have HV2 := Lib.hid (HV.out.now HB2.out)
    have HC := Lib.hid (fun wq (h : Below w2.heap.size w2 wq) => row_cells (v := v) ((h.block _ (box_lt HR2.out)).trans HR2.out))
    clear d0 d1 d2 d3 d4
    go_wp2_with fail
    go_cut [4] (fun x wx => x = .bool true ∧ Below w2.heap.size w2 wx)
    case first =>
      refine wp_region_det (S := Below w2.heap.size w2) (by kernel_rfl) (by kernel_rfl) ((Below.refl _ _).drew) ?_
      rw [List.toList_toArray]
      repeat (first
          | ((with_reducible show Det _ _ _ _ (Oper.mk _ (Op.call (Call.mk (Callee.value (Operand.func 11)) _ _)) _ _ _ _ :: _) _); refine Det.step (.string (bs (encN v.n))) (by rfl) (fun wq hSq K hK => ?_) ?_; (· (go_simp; refine (wNum_any v.n _ (HV2.out.now hSq) HO2.out.n).mono ?_; rintro e4 w4 ⟨rfl, hb4⟩; go_wp2_with fail; refine hK.out _ _ (hSq.trans (hb4.mono hSq.size)) ?_; rfl)); simp only [Act.put, List.setIfInBounds_toArray, List.set_cons_zero, List.set_cons_succ, List.getElem_toArray, List.getElem_cons_zero, List.getElem_cons_succ])
          | ((with_reducible show Det _ _ _ _ (Oper.mk _ (Op.call (Call.mk (Callee.value (Operand.func 12)) _ _)) _ _ _ _ :: _) _); refine Det.step (.string (bs (encN v.n))) (by rfl) (fun wq hSq K hK => ?_) ?_; (· (go_simp; refine (rNum_any v.n _ HO2.out.n).mono ?_; rintro e4 w4 ⟨rfl, hb4⟩; go_wp2_with fail; refine hK.out _ _ (hSq.trans (hb4.mono hSq.size)) ?_; rfl)); simp only [Act.put, List.setIfInBounds_toArray, List.set_cons_zero, List.set_cons_succ, List.getElem_toArray, List.getElem_cons_zero, List.getElem_cons_succ])
          | ((with_reducible show Det _ _ _ _ (Oper.mk _ (Op.call (Call.mk (Callee.value (Operand.func 13)) _ _)) _ _ _ _ :: _) _); refine Det.step (.string (bs (encI v.n))) (by rfl) (fun wq hSq K hK => ?_) ?_; (· (go_simp; refine (wInt_any v.n _ (HV2.out.now hSq) HO2.out.n).mono ?_; rintro e4 w4 ⟨rfl, hb4⟩; go_wp2_with fail; refine hK.out _ _ (hSq.trans (hb4.mono hSq.size)) ?_; rfl)); simp only [Act.put, List.setIfInBounds_toArray, List.set_cons_zero, List.set_cons_succ, List.getElem_toArray, List.getElem_cons_zero, List.getElem_cons_succ])
          | ((with_reducible show Det _ _ _ _ (Oper.mk _ (Op.call (Call.mk (Callee.value (Operand.func 14)) _ _)) _ _ _ _ :: _) _); refine Det.step (.string (bs (encI v.n))) (by rfl) (fun wq hSq K hK => ?_) ?_; (· (go_simp; refine (rInt_any v.n _ HO2.out.n).mono ?_; rintro e4 w4 ⟨rfl, hb4⟩; go_wp2_with fail; refine hK.out _ _ (hSq.trans (hb4.mono hSq.size)) ?_; rfl)); simp only [Act.put, List.setIfInBounds_toArray, List.set_cons_zero, List.set_cons_succ, List.getElem_toArray, List.getElem_cons_zero, List.getElem_cons_succ])
          | ((with_reducible show Det _ _ _ _ (Oper.mk _ (Op.call (Call.mk (Callee.value (Operand.func 15)) _ _)) _ _ _ _ :: _) _); refine Det.step (.string (bs (encT v.s))) (by rfl) (fun wq hSq K hK => ?_) ?_; (· (go_simp; refine (wText_any v.s _ (HV2.out.now hSq) (by have := HF.out.s; omega)).mono ?_; rintro e4 w4 ⟨rfl, hb4⟩; go_wp2_with fail; refine hK.out _ _ (hSq.trans (hb4.mono hSq.size)) ?_; rfl)); simp only [Act.put, List.setIfInBounds_toArray, List.set_cons_zero, List.set_cons_succ, List.getElem_toArray, List.getElem_cons_zero, List.getElem_cons_succ])
          | ((with_reducible show Det _ _ _ _ (Oper.mk _ (Op.call (Call.mk (Callee.value (Operand.func 16)) _ _)) _ _ _ _ :: _) _); refine Det.step (.string (bs (encT v.s))) (by rfl) (fun wq hSq K hK => ?_) ?_; (· (go_simp; refine (rText_any v.s _ (by have := HF.out.s; omega)).mono ?_; rintro e4 w4 ⟨rfl, hb4⟩; go_wp2_with fail; refine hK.out _ _ (hSq.trans (hb4.mono hSq.size)) ?_; rfl)); simp only [Act.put, List.setIfInBounds_toArray, List.set_cons_zero, List.set_cons_succ, List.getElem_toArray, List.getElem_cons_zero, List.getElem_cons_succ])
          | (refine Det.skip (by rfl) ?_; simp only [Act.put, List.setIfInBounds_toArray, List.set_cons_zero, List.set_cons_succ, List.getElem_toArray, List.getElem_cons_zero, List.getElem_cons_succ])
          | (refine Det.read (v := ?_) (by rfl) ?_ ?_; rotate_left; (· (intro wq hSq; obtain ⟨q0, q1, q2, q3, q4⟩ := HC.out _ hSq; go_simp; try with_reducible rfl)); simp only [Act.put, List.setIfInBounds_toArray, List.set_cons_zero, List.set_cons_succ, List.getElem_toArray, List.getElem_cons_zero, List.getElem_cons_succ])
          | fail)
      refine Det.done fun wz hz => ?_
      go_wp2
      go_meet
      exact ⟨rfl, hz⟩
    case rest =>
      obtain ⟨rfl, hbc⟩ := hcut
      have HB3 := Lib.hid (HB2.out.trans (hbc.mono HB2.out.size))
      have HO3 := Lib.hid (HOk.out.now HB3.out)
      have HV3 := Lib.hid (HV.out.now HB3.out)
      have HR3 := Lib.hid ((hbc.block _ (box_lt HR2.out)).trans HR2.out)
      have HC := Lib.hid (fun wq (h : Below wc.heap.size wc wq) => row_cells (v := v) ((h.block _ (box_lt HR3.out)).trans HR3.out))
      clear hbc HO2 HV2 HR2 HB2
      go_wp2_with fail
      refine wp_region_det (S := Below wc.heap.size wc) (by kernel_rfl) (by kernel_rfl) ((Below.refl _ _).drew) ?_
      rw [List.toList_toArray]
      repeat (first
          | ((with_reducible show Det _ _ _ _ (Oper.mk _ (Op.call (Call.mk (Callee.value (Operand.func 17)) _ _)) _ _ _ _ :: _) _); refine Det.step (.string (bs (encL encI v.l))) (by rfl) (fun wq hSq K hK => ?_) ?_; (· (go_simp; refine (wNums_any v.l _ _ _ (HV3.out.now hSq) (HO3.out.rl.now hSq) HO3.out.li (by have := HF.out.l; omega)).mono ?_; rintro e4 w4 ⟨rfl, hb4⟩; go_wp2_with fail; refine hK.out _ _ (hSq.trans (hb4.mono hSq.size)) ?_; rfl)); simp only [Act.put, List.setIfInBounds_toArray, List.set_cons_zero, List.set_cons_succ, List.getElem_toArray, List.getElem_cons_zero, List.getElem_cons_succ])
          | ((with_reducible show Det _ _ _ _ (Oper.mk _ (Op.call (Call.mk (Callee.value (Operand.func 18)) _ _)) _ _ _ _ :: _) _); refine Det.step (.string (bs (encL encI v.l))) (by rfl) (fun wq hSq K hK => ?_) ?_; (· (go_simp; refine (rListI_any v.l _ _ _ (HO3.out.rl.now hSq) (len_encI v.l HO3.out.li HF.out.l) HO3.out.li (by have := HF.out.l; omega)).mono ?_; rintro e4 w4 ⟨rfl, hb4⟩; go_wp2_with fail; refine hK.out _ _ (hSq.trans (hb4.mono hSq.size)) ?_; rfl)); simp only [Act.put, List.setIfInBounds_toArray, List.set_cons_zero, List.set_cons_succ, List.getElem_toArray, List.getElem_cons_zero, List.getElem_cons_succ])
          | ((with_reducible show Det _ _ _ _ (Oper.mk _ (Op.call (Call.mk (Callee.value (Operand.func 19)) _ _)) _ _ _ _ :: _) _); refine Det.step (.string (bs (encL encT v.t))) (by rfl) (fun wq hSq K hK => ?_) ?_; (· (go_simp; refine (wTexts_any v.t _ _ _ (HV3.out.now hSq) (HO3.out.rt.now hSq) (by have := HF.out.tt; omega) (by have := HF.out.t; omega)).mono ?_; rintro e4 w4 ⟨rfl, hb4⟩; go_wp2_with fail; refine hK.out _ _ (hSq.trans (hb4.mono hSq.size)) ?_; rfl)); simp only [Act.put, List.setIfInBounds_toArray, List.set_cons_zero, List.set_cons_succ, List.getElem_toArray, List.getElem_cons_zero, List.getElem_cons_succ])
          | ((with_reducible show Det _ _ _ _ (Oper.mk _ (Op.call (Call.mk (Callee.value (Operand.func 20)) _ _)) _ _ _ _ :: _) _); refine Det.step (.string (bs (encL encT v.t))) (by rfl) (fun wq hSq K hK => ?_) ?_; (· (go_simp; refine (rListS_any v.t _ _ _ (HO3.out.rt.now hSq) (len_encT v.t HF.out.t HF.out.tt) (fun x hx => by have := tot_le hx; have := HF.out.tt; omega) (by have := HF.out.t; omega)).mono ?_; rintro e4 w4 ⟨rfl, hb4⟩; go_wp2_with fail; refine hK.out _ _ (hSq.trans (hb4.mono hSq.size)) ?_; rfl)); simp only [Act.put, List.setIfInBounds_toArray, List.set_cons_zero, List.set_cons_succ, List.getElem_toArray, List.getElem_cons_zero, List.getElem_cons_succ])
          | (refine Det.skip (by rfl) ?_; simp only [Act.put, List.setIfInBounds_toArray, List.set_cons_zero, List.set_cons_succ, List.getElem_toArray, List.getElem_cons_zero, List.getElem_cons_succ])
          | (refine Det.read (v := ?_) (by rfl) ?_ ?_; rotate_left; (· (intro wq hSq; obtain ⟨q0, q1, q2, q3, q4⟩ := HC.out _ hSq; go_simp; try with_reducible rfl)); simp only [Act.put, List.setIfInBounds_toArray, List.set_cons_zero, List.set_cons_succ, List.getElem_toArray, List.getElem_cons_zero, List.getElem_cons_succ])
          | fail)
      refine Det.done fun wz hz => ?_
      go_wp2
      go_ret
      exact ⟨rfl, HB3.out.trans (hz.mono HB3.out.size)⟩
end Go.Proofs.YtijknmocidggbaaDoor
