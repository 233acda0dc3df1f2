/- Contracts of survive, settle and add of a disk of the reference. -/
import Derived.Test.YtjgeefagnddpfaaDkRD
import Derived.Test.YtjgeefagnddpfaaDkH
namespace Go.Proofs.Ytjgeefagnddpfaa
open Go.RowKit

theorem rPut_i (s t : ByteArray) (a : Int) (w : World) (ha : 0 ≤ a) (hs : s.size ≤ 1073741824) (ht : a + t.size ≤ 1073741824) :
    Calls Try.prog 61 #[.string s, .int .i64 a, .string t] w fun e w' => e = .returned (.string (putB s a.toNat t)) ∧ Below w.heap.size w w' := by
  obtain ⟨n, rfl⟩ := Int.eq_ofNat_of_zero_le ha
  exact rPut_any s t n w hs (by omega)
theorem updF_self (F : Int → FileT) (f : Int) : updF F f (F f) = F := by
  funext g
  unfold updF
  by_cases h : g = f
  · rw [if_pos h, h]
  · rw [if_neg h]
set_option maxHeartbeats 2000000 in
theorem rSurvive_any (p : Nat) (S : DS) (L : RL) (w : World) (x : Int × Int) (h : RK w p S L) (hx : 0 ≤ x.1 ∧ x.1 < 16 ∧ 0 ≤ x.2 ∧ x.2 ≤ 262144) :
    Calls Try.prog 52 #[.pointer (some ⟨p, 0, none⟩), .agg #[.int .i64 x.1, .int .i64 x.2]] w fun e w' => e = .returned (.tuple #[]) ∧ RUpd p (DS.mk (surv1 S.files x) S.queue S.lost S.down S.armed S.keep) L w w' := by
  have H := Lib.hid h
  have hnow := h.wf.now x.1
  have hlast := h.wf.last x.1
  have hb0 : Below w.heap.size w (w.alloc (.cells #[.int .i64 x.1, .int .i64 x.2] 78)) := by repeat (first | with_reducible exact Below.refl _ _ | with_reducible assumption | with_reducible refine Below.drew ?_ | with_reducible refine Below.alloc ?_ (by first | omega | (simp; done) | (simp; omega)) _)
  have HGet := Lib.hid (rGet_any p S L _ x.1 (h.below hb0))
  have HB0 := Lib.hid hb0
  obtain ⟨x0, hx0⟩ : ∃ y, y = S.files x.1 := ⟨_, rfl⟩
  have HSv : Hid (surv1 S.files x = if 64 * x.2 < x0.1.size then updF S.files x.1 (x0.1, putB x0.2 (64 * x.2).toNat (x0.1.extract (64 * x.2).toNat (min (64 * x.2 + 64) x0.1.size).toNat)) else updF S.files x.1 x0) := Lib.hid (by unfold surv1; rw [hx0, updF_self])
  rw [← hx0] at HGet hnow hlast
  clear h hb0 hx0
  generalize x.1 = f at *
  generalize x.2 = n at *
  obtain ⟨hx1, hx2, hx3, hx4⟩ := hx
  by_cases hle : 64 * n < x0.1.size
  · rw [if_pos hle] at HSv
    go_enter Try.func52, Try.ntmps52
    go_wp2_with fail
    refine HGet.out.mono ?_
    rintro e w1 ⟨rfl, hb1⟩
    have hn1 := (hb1.block w.heap.size (by simp)).trans (MapKept.heap_alloc w _).1
    have HB1 := Lib.hid (HB0.out.trans (hb1.mono (by simp)))
    have hz1 : w.heap.size + 1 ≤ w1.heap.size := box_lt hn1
    have s0 : ∀ o, (w1.alloc o).cell? ⟨w.heap.size, 0, none⟩ = some (.int .i64 f) := fun o => (cell_old _ _ _ _ hz1).trans (box_cell hn1 0 _ rfl)
    have s1 : ∀ o, (w1.alloc o).cell? ⟨w.heap.size, 1, none⟩ = some (.int .i64 n) := fun o => (cell_old _ _ _ _ hz1).trans (box_cell hn1 1 _ rfl)
    clear hn1 hb1
    go_wp2_with fail
    obtain ⟨W2, hW2⟩ : ∃ W, W = w1.alloc (.cells #[.int .i64 f, .string x0.1, .string x0.2] 65) := ⟨_, rfl⟩
    have hb2 : Below w.heap.size w W2 := by rw [hW2]; exact HB1.out.alloc (by omega) _
    have hn2 : W2.heap[w1.heap.size]? = some (.cells #[.int .i64 f, .string x0.1, .string x0.2] 65 (0, 0)) := by rw [hW2]; exact (MapKept.heap_alloc w1 _).1
    have t0 : W2.cell? ⟨w.heap.size, 0, none⟩ = some (.int .i64 f) := by rw [hW2]; exact s0 _
    have t1 : W2.cell? ⟨w.heap.size, 1, none⟩ = some (.int .i64 n) := by rw [hW2]; exact s1 _
    have b0 := box_cell hn2 0 _ rfl
    have b1 := box_cell hn2 1 _ rfl
    have b2 := box_cell hn2 2 _ rfl
    have HB2 := Lib.hid hb2
    have HN2 := Lib.hid hn2
    rw [← hW2]
    clear hW2 s0 s1 hb2 hn2
    obtain ⟨sub, hsub⟩ : ∃ s, s = x0.1.extract (64 * n).toNat (min (64 * n + 64) x0.1.size).toNat := ⟨_, rfl⟩
    obtain ⟨x1, hx1'⟩ : ∃ x, x = putB x0.2 (64 * n).toNat sub := ⟨_, rfl⟩
    have hsz : sub.size = (min (64 * n + 64) x0.1.size).toNat - (64 * n).toNat := by rw [hsub, extract_size]; omega
    have hx1s : x1.size ≤ 16777216 := by
      rw [hx1', putB_size _ _ _ (by omega)]
      omega
    rw [← hsub, ← hx1'] at HSv
    have HP := Lib.hid (fun w => hx1' ▸ rPut_i x0.2 sub (64 * n) w (by omega) (by omega) (by omega))
    have HX1s := Lib.hid hx1s
    clear hx1' hsz hx1s
    have hwm : IntKind.i64.wrap (64 * n) = 64 * n := by rw [IntKind.wrap_i64]; omega
    have hwr : IntKind.i64.wrap (64 * n + 64) = 64 * n + 64 := by rw [IntKind.wrap_i64]; omega
    by_cases hmin : (x0.1.size : Int) < 64 * n + 64
    · rw [Int.min_eq_right (by omega), Int.toNat_natCast] at hsub
      have HSub := Lib.hid hsub
      clear hsub
      have hc0 : 0 ≤ 64 * n := by omega
      have hc1 : 64 * n ≤ x0.1.size := by omega
      refine wp_region_held_drew (S := fun wq => wq.cell? ⟨w.heap.size, 1, none⟩ = some (.int .i64 n) ∧ wq.cell? ⟨w1.heap.size, 1, none⟩ = some (.string x0.1) ∧ wq.cell? ⟨w1.heap.size, 0, none⟩ = some (.int .i64 f)) (by kernel_rfl) ⟨t1, b1, b0⟩ (fun hHeld => ?_)
      refine wpAnyH_take (i := 0) (v := ?_) rfl (by kernel_rfl) (by kernel_rfl) (by kernel_rfl) (fun _ _ _ h => h) (Or.inl ⟨by rfl, ?_⟩) (by assumption) ?_
      rotate_left
      · rintro wq ⟨s2, s0, s1⟩
        go_simp
        try with_reducible rfl
      simp only [Act.put, List.setIfInBounds_toArray, List.set_cons_zero, List.set_cons_succ, List.getElem_toArray, List.getElem_cons_zero]
      refine wpAnyH_take (i := 2) (v := ?_) rfl (by kernel_rfl) (by kernel_rfl) (by kernel_rfl) (fun _ _ _ h => h) (Or.inl ⟨by rfl, ?_⟩) (by assumption) ?_
      rotate_left
      · rintro wq ⟨s2, s0, s1⟩
        go_simp
        try with_reducible rfl
      simp only [Act.put, List.setIfInBounds_toArray, List.set_cons_zero, List.set_cons_succ, List.getElem_toArray, List.getElem_cons_zero, List.getElem_cons_succ]
      refine wpAnyH_take (i := 3) (v := ?_) rfl (by kernel_rfl) (by kernel_rfl) (by kernel_rfl) (fun _ _ _ h => h) (Or.inl ⟨by rfl, ?_⟩) (by assumption) ?_
      rotate_left
      · rintro wq ⟨s2, s0, s1⟩
        go_simp
        try with_reducible rfl
      simp only [Act.put, List.setIfInBounds_toArray, List.set_cons_zero, List.set_cons_succ, List.getElem_toArray, List.getElem_cons_zero, List.getElem_cons_succ]
      refine wpAnyH_take (i := 4) (v := ?_) rfl (by kernel_rfl) (by kernel_rfl) (by kernel_rfl) (fun _ _ _ h => h) (Or.inl ⟨by rfl, ?_⟩) (by assumption) ?_
      rotate_left
      · rintro wq ⟨s2, s0, s1⟩
        go_simp
        try with_reducible rfl
      simp only [Act.put, List.setIfInBounds_toArray, List.set_cons_zero, List.set_cons_succ, List.getElem_toArray, List.getElem_cons_zero, List.getElem_cons_succ]
      refine wpAnyH_take (i := 5) (v := ?_) rfl (by kernel_rfl) (by kernel_rfl) (by kernel_rfl) (fun _ _ _ h => h) (Or.inl ⟨by rfl, ?_⟩) (by assumption) ?_
      rotate_left
      · rintro wq ⟨s2, s0, s1⟩
        go_simp
        try with_reducible rfl
      simp only [Act.put, List.setIfInBounds_toArray, List.set_cons_zero, List.set_cons_succ, List.getElem_toArray, List.getElem_cons_zero, List.getElem_cons_succ]
      refine wpAnyH_take (i := 6) (v := ?_) rfl (by kernel_rfl) (by kernel_rfl) (by kernel_rfl) (fun _ _ _ h => h) (Or.inl ⟨by rfl, ?_⟩) (by assumption) ?_
      rotate_left
      · rintro wq ⟨s2, s0, s1⟩
        go_simp
        try with_reducible rfl
      simp only [Act.put, List.setIfInBounds_toArray, List.set_cons_zero, List.set_cons_succ, List.getElem_toArray, List.getElem_cons_zero, List.getElem_cons_succ]
      refine wpAnyH_take (i := 7) (v := ?_) rfl (by kernel_rfl) (by kernel_rfl) (by kernel_rfl) (fun _ _ _ h => h) (Or.inl ⟨by rfl, ?_⟩) (by assumption) ?_
      rotate_left
      · rintro wq ⟨s2, s0, s1⟩
        go_simp
        try with_reducible rfl
      simp only [Act.put, List.setIfInBounds_toArray, List.set_cons_zero, List.set_cons_succ, List.getElem_toArray, List.getElem_cons_zero, List.getElem_cons_succ]
      refine wpAnyH_take (i := 8) (v := ?_) rfl (by kernel_rfl) (by kernel_rfl) (by kernel_rfl) (fun _ _ _ h => h) (Or.inl ⟨by rfl, ?_⟩) (by assumption) ?_
      rotate_left
      · rintro wq ⟨s2, s0, s1⟩
        go_simp
        try with_reducible rfl
      simp only [Act.put, List.setIfInBounds_toArray, List.set_cons_zero, List.set_cons_succ, List.getElem_toArray, List.getElem_cons_zero, List.getElem_cons_succ]
      refine wpAnyH_take (i := 9) (v := ?_) rfl (by kernel_rfl) (by kernel_rfl) (by kernel_rfl) (fun _ _ _ h => h) (Or.inl ⟨by rfl, ?_⟩) (by assumption) ?_
      rotate_left
      · rintro wq ⟨s2, s0, s1⟩
        go_simp
        try with_reducible rfl
      simp only [Act.put, List.setIfInBounds_toArray, List.set_cons_zero, List.set_cons_succ, List.getElem_toArray, List.getElem_cons_zero, List.getElem_cons_succ]
      refine wpAnyH_take (i := 10) (v := ?_) rfl (by kernel_rfl) (by kernel_rfl) (by kernel_rfl) (fun _ _ _ h => h) (Or.inl ⟨by rfl, ?_⟩) (by assumption) ?_
      rotate_left
      · rintro wq ⟨s2, s0, s1⟩
        go_simp
        try with_reducible rfl
      simp only [Act.put, List.setIfInBounds_toArray, List.set_cons_zero, List.set_cons_succ, List.getElem_toArray, List.getElem_cons_zero, List.getElem_cons_succ]
      refine wpAnyH_take (i := 11) (v := ?_) rfl (by kernel_rfl) (by kernel_rfl) (by kernel_rfl) (fun _ _ _ h => h) (Or.inl ⟨by rfl, ?_⟩) (by assumption) ?_
      rotate_left
      · rintro wq ⟨s2, s0, s1⟩
        go_simp
        try with_reducible rfl
      simp only [Act.put, List.setIfInBounds_toArray, List.set_cons_zero, List.set_cons_succ, List.getElem_toArray, List.getElem_cons_zero, List.getElem_cons_succ]
      refine wpAnyH_take (i := 12) (v := ?_) rfl (by kernel_rfl) (by kernel_rfl) (by kernel_rfl) (fun _ _ _ h => h) (Or.inl ⟨by rfl, ?_⟩) (by assumption) ?_
      rotate_left
      · rintro wq ⟨s2, s0, s1⟩
        go_simp
        try with_reducible rfl
      simp only [Act.put, List.setIfInBounds_toArray, List.set_cons_zero, List.set_cons_succ, List.getElem_toArray, List.getElem_cons_zero, List.getElem_cons_succ]
      refine wpAnyH_take (i := 13) (v := ?_) rfl (by kernel_rfl) (by kernel_rfl) (by kernel_rfl) (fun _ _ _ h => h) (Or.inl ⟨by rfl, ?_⟩) (by assumption) ?_
      rotate_left
      · rintro wq ⟨s2, s0, s1⟩
        go_simp
        try with_reducible rfl
      simp only [Act.put, List.setIfInBounds_toArray, List.set_cons_zero, List.set_cons_succ, List.getElem_toArray, List.getElem_cons_zero, List.getElem_cons_succ]
      refine wpAnyH_take (i := 14) (v := ?_) rfl (by kernel_rfl) (by kernel_rfl) (by kernel_rfl) (fun _ _ _ h => h) (Or.inl ⟨by rfl, ?_⟩) (by assumption) ?_
      rotate_left
      · rintro wq ⟨s2, s0, s1⟩
        go_simp
        try with_reducible rfl
      simp only [Act.put, List.setIfInBounds_toArray, List.set_cons_zero, List.set_cons_succ, List.getElem_toArray, List.getElem_cons_zero, List.getElem_cons_succ]
      refine wpAnyH_take (i := 15) (v := ?_) rfl (by kernel_rfl) (by kernel_rfl) (by kernel_rfl) (fun _ _ _ h => h) (Or.inl ⟨by rfl, ?_⟩) (by assumption) ?_
      rotate_left
      · rintro wq ⟨s2, s0, s1⟩
        go_simp
        try with_reducible rfl
      simp only [Act.put, List.setIfInBounds_toArray, List.set_cons_zero, List.set_cons_succ, List.getElem_toArray, List.getElem_cons_zero, List.getElem_cons_succ]
      refine wpAnyH_take (i := 16) (v := ?_) rfl (by kernel_rfl) (by kernel_rfl) (by kernel_rfl) (fun _ _ _ h => h) (Or.inl ⟨by rfl, ?_⟩) (by assumption) ?_
      rotate_left
      · rintro wq ⟨s2, s0, s1⟩
        go_simp
        try with_reducible rfl
      simp only [Act.put, List.setIfInBounds_toArray, List.set_cons_zero, List.set_cons_succ, List.getElem_toArray, List.getElem_cons_zero, List.getElem_cons_succ]
      refine wpAnyH_take (i := 17) (v := ?_) rfl (by kernel_rfl) (by kernel_rfl) (by kernel_rfl) (fun _ _ _ h => h) (Or.inl ⟨by rfl, ?_⟩) (by assumption) ?_
      rotate_left
      · rintro wq ⟨s2, s0, s1⟩
        go_simp
        try with_reducible rfl
      simp only [Act.put, List.setIfInBounds_toArray, List.set_cons_zero, List.set_cons_succ, List.getElem_toArray, List.getElem_cons_zero, List.getElem_cons_succ]
      refine wpAnyH_take (i := 18) (v := ?_) rfl (by kernel_rfl) (by kernel_rfl) (by kernel_rfl) (fun _ _ _ h => h) (Or.inl ⟨by rfl, ?_⟩) (by assumption) ?_
      rotate_left
      · rintro wq ⟨s2, s0, s1⟩
        go_simp
        try with_reducible rfl
      simp only [Act.put, List.setIfInBounds_toArray, List.set_cons_zero, List.set_cons_succ, List.getElem_toArray, List.getElem_cons_zero, List.getElem_cons_succ]
      refine wpAnyH_ready (rs := [1]) (by kernel_rfl) (by simp) ?_
      refine AllReadyH.cons rfl (fun K hK => ?_) AllReadyH.nil
      go_simp
      refine hK.out _ _ hHeld ?_
      clear hK K hHeld
      intro hHeld
      refine wpAnyH_ready (rs := [19]) (by kernel_rfl) (by simp) ?_
      refine AllReadyH.cons rfl (fun K hK => ?_) AllReadyH.nil
      go_simp
      rw [← HSub.out]
      refine (HP.out _).mono ?_
      rintro e w3 ⟨rfl, hb3⟩
      have hb3' : Below W2.heap.size W2 w3 := ((Below.refl _ W2).drew).trans hb3
      have hz2 := box_lt HN2.out
      have hbx3 := (hb3'.block w1.heap.size hz2).trans HN2.out
      have g2 := box_cell hbx3 2 _ rfl
      have gz := fun j => box_free hbx3 j
      have HBX3 := Lib.hid hbx3
      have HB3 := Lib.hid (HB2.out.trans (hb3'.mono HB2.out.size))
      have t13 := (hb3'.cell (p := ⟨w.heap.size, 1, none⟩) (by show w.heap.size < _; omega)).trans t1
      go_wp2_with fail
      refine hK.out _ _ ⟨t13, box_cell HBX3.out 1 _ rfl, box_cell HBX3.out 0 _ rfl⟩ ?_
      clear hK K hHeld hb3 hb3' hbx3
      intro hHeld
      refine wpAnyH_take (i := 20) (v := ?_) rfl (by kernel_rfl) (by kernel_rfl) (by kernel_rfl) (fun _ _ _ h => h) (Or.inl ⟨by rfl, ?_⟩) (by assumption) ?_
      rotate_left
      · rintro wq ⟨s2, s0, s1⟩
        go_simp
        try with_reducible rfl
      simp only [Act.put, List.setIfInBounds_toArray, List.set_cons_zero, List.set_cons_succ, List.getElem_toArray, List.getElem_cons_zero, List.getElem_cons_succ]
      refine wpAnyH_ready (rs := [21]) (by kernel_rfl) (by simp) ?_
      refine AllReadyH.cons rfl (fun K hK => ?_) AllReadyH.nil
      go_simp
      obtain ⟨W4, hW4⟩ : ∃ W, W = w3.setCell ⟨w1.heap.size, 2, none⟩ (.string x1) := ⟨_, rfl⟩
      have hn4 := heap_setCell_same w3 w1.heap.size 2 _ _ (.string x1) HBX3.out
      have t14 : (w3.setCell ⟨w1.heap.size, 2, none⟩ (.string x1)).cell? ⟨w.heap.size, 1, none⟩ = some (.int .i64 n) := (World.cell?_of_block (heap_setCell_other w3 ⟨w1.heap.size, 2, none⟩ w.heap.size (.string x1) (by show w.heap.size ≠ w1.heap.size; omega))).trans t13
      rw [← hW4] at hn4 t14 ⊢
      have hb4 : Below w.heap.size w W4 := by
        rw [hW4]
        exact HB3.out.setCell (p := ⟨w1.heap.size, 2, none⟩) (by show w.heap.size ≤ w1.heap.size; omega) _
      clear hW4 g2 gz
      have h40 := box_cell hn4 0 _ rfl
      have h41 := box_cell hn4 1 _ rfl
      have h42 := box_cell hn4 2 _ rfl
      refine hK.out _ _ ⟨t14, h41, h40⟩ ?_
      clear hK K hHeld
      intro hHeld
      refine wpAnyH_done (by kernel_rfl) ?_ _
      clear hHeld
      go_wp2_with fail
      refine (rSet_any p S L _ (f, (x0.1, x1)) (H.out.below hb4) ⟨hx1, hx2⟩ hnow HX1s.out).mono ?_
      rintro e w5 ⟨rfl, hu⟩
      go_wp2
      go_end0
      exact ⟨rfl, by rw [HSv.out]; exact RUpd.behind hb4 hu⟩
    · rw [Int.min_eq_left (by omega)] at hsub
      have HSub := Lib.hid hsub
      clear hsub
      have hif : (if (x0.1.size : Int) < 64 * n + 64 then (x0.1.size : Int) else 64 * n + 64) = 64 * n + 64 := if_neg hmin
      have hc0 : 0 ≤ 64 * n := by omega
      have hc1 : 0 ≤ 64 * n + 64 := by omega
      have hc2 : 64 * n + 64 ≤ x0.1.size := by omega
      have hc3 : 64 * n ≤ 64 * n + 64 := by omega
      refine wp_region_held_drew (S := fun wq => wq.cell? ⟨w.heap.size, 1, none⟩ = some (.int .i64 n) ∧ wq.cell? ⟨w1.heap.size, 1, none⟩ = some (.string x0.1) ∧ wq.cell? ⟨w1.heap.size, 0, none⟩ = some (.int .i64 f)) (by kernel_rfl) ⟨t1, b1, b0⟩ (fun hHeld => ?_)
      refine wpAnyH_take (i := 0) (v := ?_) rfl (by kernel_rfl) (by kernel_rfl) (by kernel_rfl) (fun _ _ _ h => h) (Or.inl ⟨by rfl, ?_⟩) (by assumption) ?_
      rotate_left
      · rintro wq ⟨s2, s0, s1⟩
        go_simp
        try with_reducible rfl
      simp only [Act.put, List.setIfInBounds_toArray, List.set_cons_zero, List.set_cons_succ, List.getElem_toArray, List.getElem_cons_zero]
      refine wpAnyH_take (i := 2) (v := ?_) rfl (by kernel_rfl) (by kernel_rfl) (by kernel_rfl) (fun _ _ _ h => h) (Or.inl ⟨by rfl, ?_⟩) (by assumption) ?_
      rotate_left
      · rintro wq ⟨s2, s0, s1⟩
        go_simp
        try with_reducible rfl
      simp only [Act.put, List.setIfInBounds_toArray, List.set_cons_zero, List.set_cons_succ, List.getElem_toArray, List.getElem_cons_zero, List.getElem_cons_succ]
      refine wpAnyH_take (i := 3) (v := ?_) rfl (by kernel_rfl) (by kernel_rfl) (by kernel_rfl) (fun _ _ _ h => h) (Or.inl ⟨by rfl, ?_⟩) (by assumption) ?_
      rotate_left
      · rintro wq ⟨s2, s0, s1⟩
        go_simp
        try with_reducible rfl
      simp only [Act.put, List.setIfInBounds_toArray, List.set_cons_zero, List.set_cons_succ, List.getElem_toArray, List.getElem_cons_zero, List.getElem_cons_succ]
      refine wpAnyH_take (i := 4) (v := ?_) rfl (by kernel_rfl) (by kernel_rfl) (by kernel_rfl) (fun _ _ _ h => h) (Or.inl ⟨by rfl, ?_⟩) (by assumption) ?_
      rotate_left
      · rintro wq ⟨s2, s0, s1⟩
        go_simp
        try with_reducible rfl
      simp only [Act.put, List.setIfInBounds_toArray, List.set_cons_zero, List.set_cons_succ, List.getElem_toArray, List.getElem_cons_zero, List.getElem_cons_succ]
      refine wpAnyH_take (i := 5) (v := ?_) rfl (by kernel_rfl) (by kernel_rfl) (by kernel_rfl) (fun _ _ _ h => h) (Or.inl ⟨by rfl, ?_⟩) (by assumption) ?_
      rotate_left
      · rintro wq ⟨s2, s0, s1⟩
        go_simp
        try with_reducible rfl
      simp only [Act.put, List.setIfInBounds_toArray, List.set_cons_zero, List.set_cons_succ, List.getElem_toArray, List.getElem_cons_zero, List.getElem_cons_succ]
      refine wpAnyH_take (i := 6) (v := ?_) rfl (by kernel_rfl) (by kernel_rfl) (by kernel_rfl) (fun _ _ _ h => h) (Or.inl ⟨by rfl, ?_⟩) (by assumption) ?_
      rotate_left
      · rintro wq ⟨s2, s0, s1⟩
        go_simp
        try with_reducible rfl
      simp only [Act.put, List.setIfInBounds_toArray, List.set_cons_zero, List.set_cons_succ, List.getElem_toArray, List.getElem_cons_zero, List.getElem_cons_succ]
      refine wpAnyH_take (i := 7) (v := ?_) rfl (by kernel_rfl) (by kernel_rfl) (by kernel_rfl) (fun _ _ _ h => h) (Or.inl ⟨by rfl, ?_⟩) (by assumption) ?_
      rotate_left
      · rintro wq ⟨s2, s0, s1⟩
        go_simp
        try with_reducible rfl
      simp only [Act.put, List.setIfInBounds_toArray, List.set_cons_zero, List.set_cons_succ, List.getElem_toArray, List.getElem_cons_zero, List.getElem_cons_succ]
      refine wpAnyH_take (i := 8) (v := ?_) rfl (by kernel_rfl) (by kernel_rfl) (by kernel_rfl) (fun _ _ _ h => h) (Or.inl ⟨by rfl, ?_⟩) (by assumption) ?_
      rotate_left
      · rintro wq ⟨s2, s0, s1⟩
        go_simp
        try with_reducible rfl
      simp only [Act.put, List.setIfInBounds_toArray, List.set_cons_zero, List.set_cons_succ, List.getElem_toArray, List.getElem_cons_zero, List.getElem_cons_succ]
      refine wpAnyH_take (i := 9) (v := ?_) rfl (by kernel_rfl) (by kernel_rfl) (by kernel_rfl) (fun _ _ _ h => h) (Or.inl ⟨by rfl, ?_⟩) (by assumption) ?_
      rotate_left
      · rintro wq ⟨s2, s0, s1⟩
        go_simp
        try with_reducible rfl
      simp only [Act.put, List.setIfInBounds_toArray, List.set_cons_zero, List.set_cons_succ, List.getElem_toArray, List.getElem_cons_zero, List.getElem_cons_succ]
      refine wpAnyH_take (i := 10) (v := ?_) rfl (by kernel_rfl) (by kernel_rfl) (by kernel_rfl) (fun _ _ _ h => h) (Or.inl ⟨by rfl, ?_⟩) (by assumption) ?_
      rotate_left
      · rintro wq ⟨s2, s0, s1⟩
        go_simp
        try with_reducible rfl
      simp only [Act.put, List.setIfInBounds_toArray, List.set_cons_zero, List.set_cons_succ, List.getElem_toArray, List.getElem_cons_zero, List.getElem_cons_succ]
      refine wpAnyH_take (i := 11) (v := ?_) rfl (by kernel_rfl) (by kernel_rfl) (by kernel_rfl) (fun _ _ _ h => h) (Or.inl ⟨by rfl, ?_⟩) (by assumption) ?_
      rotate_left
      · rintro wq ⟨s2, s0, s1⟩
        go_simp
        try with_reducible rfl
      simp only [Act.put, List.setIfInBounds_toArray, List.set_cons_zero, List.set_cons_succ, List.getElem_toArray, List.getElem_cons_zero, List.getElem_cons_succ]
      refine wpAnyH_take (i := 12) (v := ?_) rfl (by kernel_rfl) (by kernel_rfl) (by kernel_rfl) (fun _ _ _ h => h) (Or.inl ⟨by rfl, ?_⟩) (by assumption) ?_
      rotate_left
      · rintro wq ⟨s2, s0, s1⟩
        go_simp
        try with_reducible rfl
      simp only [Act.put, List.setIfInBounds_toArray, List.set_cons_zero, List.set_cons_succ, List.getElem_toArray, List.getElem_cons_zero, List.getElem_cons_succ]
      refine wpAnyH_take (i := 13) (v := ?_) rfl (by kernel_rfl) (by kernel_rfl) (by kernel_rfl) (fun _ _ _ h => h) (Or.inl ⟨by rfl, ?_⟩) (by assumption) ?_
      rotate_left
      · rintro wq ⟨s2, s0, s1⟩
        go_simp
        try with_reducible rfl
      simp only [Act.put, List.setIfInBounds_toArray, List.set_cons_zero, List.set_cons_succ, List.getElem_toArray, List.getElem_cons_zero, List.getElem_cons_succ]
      refine wpAnyH_take (i := 14) (v := ?_) rfl (by kernel_rfl) (by kernel_rfl) (by kernel_rfl) (fun _ _ _ h => h) (Or.inl ⟨by rfl, ?_⟩) (by assumption) ?_
      rotate_left
      · rintro wq ⟨s2, s0, s1⟩
        go_simp
        try with_reducible rfl
      simp only [Act.put, List.setIfInBounds_toArray, List.set_cons_zero, List.set_cons_succ, List.getElem_toArray, List.getElem_cons_zero, List.getElem_cons_succ]
      refine wpAnyH_take (i := 15) (v := ?_) rfl (by kernel_rfl) (by kernel_rfl) (by kernel_rfl) (fun _ _ _ h => h) (Or.inl ⟨by rfl, ?_⟩) (by assumption) ?_
      rotate_left
      · rintro wq ⟨s2, s0, s1⟩
        go_simp
        try with_reducible rfl
      simp only [Act.put, List.setIfInBounds_toArray, List.set_cons_zero, List.set_cons_succ, List.getElem_toArray, List.getElem_cons_zero, List.getElem_cons_succ]
      refine wpAnyH_take (i := 16) (v := ?_) rfl (by kernel_rfl) (by kernel_rfl) (by kernel_rfl) (fun _ _ _ h => h) (Or.inl ⟨by rfl, ?_⟩) (by assumption) ?_
      rotate_left
      · rintro wq ⟨s2, s0, s1⟩
        go_simp
        try with_reducible rfl
      simp only [Act.put, List.setIfInBounds_toArray, List.set_cons_zero, List.set_cons_succ, List.getElem_toArray, List.getElem_cons_zero, List.getElem_cons_succ]
      refine wpAnyH_take (i := 17) (v := ?_) rfl (by kernel_rfl) (by kernel_rfl) (by kernel_rfl) (fun _ _ _ h => h) (Or.inl ⟨by rfl, ?_⟩) (by assumption) ?_
      rotate_left
      · rintro wq ⟨s2, s0, s1⟩
        go_simp
        try with_reducible rfl
      simp only [Act.put, List.setIfInBounds_toArray, List.set_cons_zero, List.set_cons_succ, List.getElem_toArray, List.getElem_cons_zero, List.getElem_cons_succ]
      refine wpAnyH_take (i := 18) (v := ?_) rfl (by kernel_rfl) (by kernel_rfl) (by kernel_rfl) (fun _ _ _ h => h) (Or.inl ⟨by rfl, ?_⟩) (by assumption) ?_
      rotate_left
      · rintro wq ⟨s2, s0, s1⟩
        go_simp
        try with_reducible rfl
      simp only [Act.put, List.setIfInBounds_toArray, List.set_cons_zero, List.set_cons_succ, List.getElem_toArray, List.getElem_cons_zero, List.getElem_cons_succ]
      refine wpAnyH_ready (rs := [1]) (by kernel_rfl) (by simp) ?_
      refine AllReadyH.cons rfl (fun K hK => ?_) AllReadyH.nil
      go_simp
      refine hK.out _ _ hHeld ?_
      clear hK K hHeld
      intro hHeld
      refine wpAnyH_ready (rs := [19]) (by kernel_rfl) (by simp) ?_
      refine AllReadyH.cons rfl (fun K hK => ?_) AllReadyH.nil
      go_simp
      rw [← HSub.out]
      refine (HP.out _).mono ?_
      rintro e w3 ⟨rfl, hb3⟩
      have hb3' : Below W2.heap.size W2 w3 := ((Below.refl _ W2).drew).trans hb3
      have hz2 := box_lt HN2.out
      have hbx3 := (hb3'.block w1.heap.size hz2).trans HN2.out
      have g2 := box_cell hbx3 2 _ rfl
      have gz := fun j => box_free hbx3 j
      have HBX3 := Lib.hid hbx3
      have HB3 := Lib.hid (HB2.out.trans (hb3'.mono HB2.out.size))
      have t13 := (hb3'.cell (p := ⟨w.heap.size, 1, none⟩) (by show w.heap.size < _; omega)).trans t1
      go_wp2_with fail
      refine hK.out _ _ ⟨t13, box_cell HBX3.out 1 _ rfl, box_cell HBX3.out 0 _ rfl⟩ ?_
      clear hK K hHeld hb3 hb3' hbx3
      intro hHeld
      refine wpAnyH_take (i := 20) (v := ?_) rfl (by kernel_rfl) (by kernel_rfl) (by kernel_rfl) (fun _ _ _ h => h) (Or.inl ⟨by rfl, ?_⟩) (by assumption) ?_
      rotate_left
      · rintro wq ⟨s2, s0, s1⟩
        go_simp
        try with_reducible rfl
      simp only [Act.put, List.setIfInBounds_toArray, List.set_cons_zero, List.set_cons_succ, List.getElem_toArray, List.getElem_cons_zero, List.getElem_cons_succ]
      refine wpAnyH_ready (rs := [21]) (by kernel_rfl) (by simp) ?_
      refine AllReadyH.cons rfl (fun K hK => ?_) AllReadyH.nil
      go_simp
      obtain ⟨W4, hW4⟩ : ∃ W, W = w3.setCell ⟨w1.heap.size, 2, none⟩ (.string x1) := ⟨_, rfl⟩
      have hn4 := heap_setCell_same w3 w1.heap.size 2 _ _ (.string x1) HBX3.out
      have t14 : (w3.setCell ⟨w1.heap.size, 2, none⟩ (.string x1)).cell? ⟨w.heap.size, 1, none⟩ = some (.int .i64 n) := (World.cell?_of_block (heap_setCell_other w3 ⟨w1.heap.size, 2, none⟩ w.heap.size (.string x1) (by show w.heap.size ≠ w1.heap.size; omega))).trans t13
      rw [← hW4] at hn4 t14 ⊢
      have hb4 : Below w.heap.size w W4 := by
        rw [hW4]
        exact HB3.out.setCell (p := ⟨w1.heap.size, 2, none⟩) (by show w.heap.size ≤ w1.heap.size; omega) _
      clear hW4 g2 gz
      have h40 := box_cell hn4 0 _ rfl
      have h41 := box_cell hn4 1 _ rfl
      have h42 := box_cell hn4 2 _ rfl
      refine hK.out _ _ ⟨t14, h41, h40⟩ ?_
      clear hK K hHeld
      intro hHeld
      refine wpAnyH_done (by kernel_rfl) ?_ _
      clear hHeld
      go_wp2_with fail
      refine (rSet_any p S L _ (f, (x0.1, x1)) (H.out.below hb4) ⟨hx1, hx2⟩ hnow HX1s.out).mono ?_
      rintro e w5 ⟨rfl, hu⟩
      go_wp2
      go_end0
      exact ⟨rfl, by rw [HSv.out]; exact RUpd.behind hb4 hu⟩
  · rw [if_neg hle] at HSv
    have hle2 : x0.1.size ≤ 64 * n := by omega
    go_enter Try.func52, Try.ntmps52
    go_wp2_with fail
    refine HGet.out.mono ?_
    rintro e w1 ⟨rfl, hb1⟩
    have hn1 := (hb1.block w.heap.size (by simp)).trans (MapKept.heap_alloc w _).1
    have HB1 := Lib.hid (HB0.out.trans (hb1.mono (by simp)))
    have hz1 : w.heap.size + 1 ≤ w1.heap.size := box_lt hn1
    have s0 : ∀ o, (w1.alloc o).cell? ⟨w.heap.size, 0, none⟩ = some (.int .i64 f) := fun o => (cell_old _ _ _ _ hz1).trans (box_cell hn1 0 _ rfl)
    have s1 : ∀ o, (w1.alloc o).cell? ⟨w.heap.size, 1, none⟩ = some (.int .i64 n) := fun o => (cell_old _ _ _ _ hz1).trans (box_cell hn1 1 _ rfl)
    clear hn1 hb1
    go_wp2_with fail
    have hb2 : Below w.heap.size w (w1.alloc (.cells #[.int .i64 f, .string x0.1, .string x0.2] 65)) := HB1.out.alloc (by omega) _
    refine (rSet_any p S L _ (f, x0) (H.out.below hb2) ⟨hx1, hx2⟩ hnow hlast).mono ?_
    rintro e w2 ⟨rfl, hu⟩
    go_wp2
    go_end0
    exact ⟨rfl, by rw [HSv.out]; exact RUpd.behind hb2 hu⟩
end Go.Proofs.Ytjgeefagnddpfaa
