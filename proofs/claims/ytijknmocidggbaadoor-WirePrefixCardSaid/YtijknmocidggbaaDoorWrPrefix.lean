/- The walk of WirePrefix. -/
import Derived.Test.YtijknmocidggbaaDoorWrBack
namespace Go.Proofs.YtijknmocidggbaaDoor
open Go.RowKit

/-- The encodings of two values of one kind: where one begins with the other, they are equal. -/
theorem prefix_eq {v u : VM} (hk : v.knd = u.knd) (hnv : InInt v.n) (hlv : ∀ x ∈ v.l, InInt x) (hfv : v.Fits) (hnu : InInt u.n) (hlu : ∀ x ∈ u.l, InInt x) (hfu : u.Fits) (tl : List UInt8) (h : u.enc = v.enc ++ tl) :
    tl = [] ∧ u.eq ⟨v.enc, false⟩ = (true, ⟨[], false⟩) := by
  have h1 := eq_back u [] hnu hlu hfu
  have h2 := eq_back v tl hnv hlv hfv
  rw [List.append_nil] at h1
  rw [← h] at h2
  have h3 : (v.eq ⟨u.enc, false⟩).2 = (u.eq ⟨u.enc, false⟩).2 := by
    unfold VM.eq
    rw [hk]
    repeat' split
    all_goals rfl
  rw [h1, h2] at h3
  simp only [RS.mk.injEq, and_true] at h3
  subst h3
  rw [List.append_nil] at h
  exact ⟨rfl, by rw [← h]; exact h1⟩
set_option maxRecDepth 100000 in
set_option maxHeartbeats 8000000 in
theorem prefix_any (v u : VM) (w : World) (hV : Vs w.heap.size w) (hv : v.Ok w w.heap.size) (hu : u.Ok w w.heap.size) :
    Calls Tryd.prog 5 #[v.v, u.v] w fun e w' => e = .returned (.bool true) ∧ Below w.heap.size w w' := by
  have hr0 : (w.alloc (.cells v.cs.toArray 25)).heap[w.heap.size]? = some (.cells v.cs.toArray 25 (0, 0)) := (MapKept.heap_alloc w _).1
  have hb0 : Below w.heap.size w (w.alloc (.cells v.cs.toArray 25)) := (Below.refl _ _).alloc (Nat.le_refl _) _
  have hr1 : ((w.alloc (.cells v.cs.toArray 25)).alloc (.cells u.cs.toArray 25)).heap[w.heap.size + 1]? = some (.cells u.cs.toArray 25 (0, 0)) := by
    have := (MapKept.heap_alloc (w.alloc (.cells v.cs.toArray 25)) (.cells u.cs.toArray 25)).1
    simpa using this
  have hb1 : Below (w.heap.size + 1) (w.alloc (.cells v.cs.toArray 25)) ((w.alloc (.cells v.cs.toArray 25)).alloc (.cells u.cs.toArray 25)) := (Below.refl _ _).alloc (by simp) _
  have hr0' := (hb1.block w.heap.size (by omega)).trans hr0
  have HB0 := Lib.hid (hb0.trans (hb1.mono (Nat.le_succ _)))
  have HR0 := Lib.hid hr0'
  have HR1 := Lib.hid hr1
  have HOv := Lib.hid hv
  have HOu := Lib.hid hu
  have HV := Lib.hid hV
  clear hb0 hr0 hr0' hb1 hr1 hv hu hV
  unfold VM.v
  unfold VM.cs at *
  go_enter Tryd.func5, Tryd.ntmps5
  go_wp2_with fail
  refine (small_any _ (HV.out.now HB0.out)).mono ?_
  rintro e w1 ⟨rfl, hb1⟩
  have HB1 := Lib.hid (HB0.out.trans (hb1.mono HB0.out.size))
  have HR0 := Lib.hid ((hb1.block _ (box_lt HR0.out)).trans HR0.out)
  have HR1 := Lib.hid ((hb1.block _ (box_lt HR1.out)).trans HR1.out)
  obtain ⟨a0, a1, a2, a3, a4⟩ := row_cells (v := v) HR0.out
  obtain ⟨b0, b1, b2, b3, b4⟩ := row_cells (v := u) HR1.out
  clear hb1
  go_wp2_with fail
  go_cut [26] (fun x wx => x = .bool (!(fewV [v] && (fewV [u] && decide (v.knd = u.knd)))) ∧ Below w1.heap.size w1 wx)
  case first =>
    have HC := Lib.hid (fun wq (h : Below w1.heap.size w1 wq) => row_cells (v := v) ((h.block _ (box_lt HR0.out)).trans HR0.out))
    have HD := Lib.hid (fun wq (h : Below w1.heap.size w1 wq) => row_cells (v := u) ((h.block _ (box_lt HR1.out)).trans HR1.out))
    clear a0 a1 a2 a3 a4 b0 b1 b2 b3 b4
    refine wp_region_held_drew (S := Below w1.heap.size w1) (by kernel_rfl) ((Below.refl _ _).drew) (fun hHeld => ?_)
    refine wpAnyH_take (i := 0) (v := ?_) rfl (by kernel_rfl) (by kernel_rfl) (by kernel_rfl) (fun _ _ _ h => h) (Or.inl ⟨by rfl, ?_⟩) (by assumption) ?_
    rotate_left
    · intro wq hSq
      obtain ⟨q0, q1, q2, q3, q4⟩ := HC.out _ hSq
      go_simp
      try with_reducible rfl
    simp only [Act.put, List.setIfInBounds_toArray, List.set_cons_zero, List.set_cons_succ, List.getElem_toArray, List.getElem_cons_zero, List.getElem_cons_succ]
    refine wpAnyH_ready (rs := [1]) (by kernel_rfl) (by simp) ?_
    refine AllReadyH.cons rfl (fun K hK => ?_) AllReadyH.nil
    go_simp
    refine hK.out _ _ (hHeld.alloc (by simp) _) ?_
    clear hK K
    intro hHeld
    refine wpAnyH_ready (rs := [2]) (by kernel_rfl) (by simp) ?_
    refine AllReadyH.cons rfl (fun K hK => ?_) AllReadyH.nil
    go_simp
    refine (few_any [v] _ _ _ (RdL.block valLay w1.drew [v] #[.int .i64 v.kind, .int .i64 v.n, .string (bs v.s), .slice v.lA v.l.length v.lc, .slice v.tA v.t.length v.tc] 25 rfl w1.heap.size rfl) (fun x hx => by
      simp only [List.mem_singleton] at hx
      subst hx
      exact HOv.out.now (HB1.out.trans (hHeld.mono HB1.out.size))) (by simp)).mono ?_
    rintro e w2 ⟨rfl, hb2⟩
    go_wp2_with fail
    refine hK.out _ _ (hHeld.trans (hb2.mono hHeld.size)) ?_
    clear hK K
    intro hHeld
    clear hb2
    refine wpAnyH_take (i := 3) (v := ?_) rfl (by kernel_rfl) (by kernel_rfl) (by kernel_rfl) (fun _ _ _ h => h) (Or.inl ⟨by rfl, ?_⟩) (by assumption) ?_
    rotate_left
    · intro wq hSq
      skip
      go_simp
      try with_reducible rfl
    simp only [Act.put, List.setIfInBounds_toArray, List.set_cons_zero, List.set_cons_succ, List.getElem_toArray, List.getElem_cons_zero, List.getElem_cons_succ]
    refine wpAnyH_take (i := 4) (v := ?_) rfl (by kernel_rfl) (by kernel_rfl) (by kernel_rfl) (fun _ _ _ h => h) (Or.inl ⟨by rfl, ?_⟩) (by assumption) ?_
    rotate_left
    · intro wq hSq
      skip
      go_simp
      try with_reducible rfl
    simp only [Act.put, List.setIfInBounds_toArray, List.set_cons_zero, List.set_cons_succ, List.getElem_toArray, List.getElem_cons_zero, List.getElem_cons_succ]
    cases hf : fewV [v] with
    | false =>
      have HF := Lib.hid hf
      clear hf
      refine wpAnyH_take (i := 5) (v := undef) rfl (by kernel_rfl) (by kernel_rfl) (by kernel_rfl) (fun _ _ _ h => h) (Or.inr ⟨by rfl, rfl⟩) (by assumption) ?_
      simp only [Act.put, List.setIfInBounds_toArray, List.set_cons_zero, List.set_cons_succ, List.getElem_toArray, List.getElem_cons_zero, List.getElem_cons_succ]
      refine wpAnyH_take (i := 6) (v := undef) rfl (by kernel_rfl) (by kernel_rfl) (by kernel_rfl) (fun _ _ _ h => h) (Or.inr ⟨by rfl, rfl⟩) (by assumption) ?_
      simp only [Act.put, List.setIfInBounds_toArray, List.set_cons_zero, List.set_cons_succ, List.getElem_toArray, List.getElem_cons_zero, List.getElem_cons_succ]
      refine wpAnyH_take (i := 7) (v := undef) rfl (by kernel_rfl) (by kernel_rfl) (by kernel_rfl) (fun _ _ _ h => h) (Or.inr ⟨by rfl, rfl⟩) (by assumption) ?_
      simp only [Act.put, List.setIfInBounds_toArray, List.set_cons_zero, List.set_cons_succ, List.getElem_toArray, List.getElem_cons_zero, List.getElem_cons_succ]
      refine wpAnyH_take (i := 8) (v := undef) rfl (by kernel_rfl) (by kernel_rfl) (by kernel_rfl) (fun _ _ _ h => h) (Or.inr ⟨by rfl, rfl⟩) (by assumption) ?_
      simp only [Act.put, List.setIfInBounds_toArray, List.set_cons_zero, List.set_cons_succ, List.getElem_toArray, List.getElem_cons_zero, List.getElem_cons_succ]
      refine wpAnyH_take (i := 9) (v := ?_) rfl (by kernel_rfl) (by kernel_rfl) (by kernel_rfl) (fun _ _ _ h => h) (Or.inl ⟨by rfl, ?_⟩) (by assumption) ?_
      rotate_left
      · intro wq hSq
        skip
        go_simp
        try with_reducible rfl
      simp only [Act.put, List.setIfInBounds_toArray, List.set_cons_zero, List.set_cons_succ, List.getElem_toArray, List.getElem_cons_zero, List.getElem_cons_succ]
      refine wpAnyH_take (i := 10) (v := ?_) rfl (by kernel_rfl) (by kernel_rfl) (by kernel_rfl) (fun _ _ _ h => h) (Or.inl ⟨by rfl, ?_⟩) (by assumption) ?_
      rotate_left
      · intro wq hSq
        skip
        go_simp
        try with_reducible rfl
      simp only [Act.put, List.setIfInBounds_toArray, List.set_cons_zero, List.set_cons_succ, List.getElem_toArray, List.getElem_cons_zero, List.getElem_cons_succ]
      refine wpAnyH_take (i := 11) (v := undef) rfl (by kernel_rfl) (by kernel_rfl) (by kernel_rfl) (fun _ _ _ h => h) (Or.inr ⟨by rfl, rfl⟩) (by assumption) ?_
      simp only [Act.put, List.setIfInBounds_toArray, List.set_cons_zero, List.set_cons_succ, List.getElem_toArray, List.getElem_cons_zero, List.getElem_cons_succ]
      refine wpAnyH_take (i := 12) (v := undef) rfl (by kernel_rfl) (by kernel_rfl) (by kernel_rfl) (fun _ _ _ h => h) (Or.inr ⟨by rfl, rfl⟩) (by assumption) ?_
      simp only [Act.put, List.setIfInBounds_toArray, List.set_cons_zero, List.set_cons_succ, List.getElem_toArray, List.getElem_cons_zero, List.getElem_cons_succ]
      refine wpAnyH_take (i := 13) (v := undef) rfl (by kernel_rfl) (by kernel_rfl) (by kernel_rfl) (fun _ _ _ h => h) (Or.inr ⟨by rfl, rfl⟩) (by assumption) ?_
      simp only [Act.put, List.setIfInBounds_toArray, List.set_cons_zero, List.set_cons_succ, List.getElem_toArray, List.getElem_cons_zero, List.getElem_cons_succ]
      refine wpAnyH_take (i := 14) (v := undef) rfl (by kernel_rfl) (by kernel_rfl) (by kernel_rfl) (fun _ _ _ h => h) (Or.inr ⟨by rfl, rfl⟩) (by assumption) ?_
      simp only [Act.put, List.setIfInBounds_toArray, List.set_cons_zero, List.set_cons_succ, List.getElem_toArray, List.getElem_cons_zero, List.getElem_cons_succ]
      refine wpAnyH_take (i := 15) (v := undef) rfl (by kernel_rfl) (by kernel_rfl) (by kernel_rfl) (fun _ _ _ h => h) (Or.inr ⟨by rfl, rfl⟩) (by assumption) ?_
      simp only [Act.put, List.setIfInBounds_toArray, List.set_cons_zero, List.set_cons_succ, List.getElem_toArray, List.getElem_cons_zero, List.getElem_cons_succ]
      refine wpAnyH_take (i := 16) (v := ?_) rfl (by kernel_rfl) (by kernel_rfl) (by kernel_rfl) (fun _ _ _ h => h) (Or.inl ⟨by rfl, ?_⟩) (by assumption) ?_
      rotate_left
      · intro wq hSq
        skip
        go_simp
        try with_reducible rfl
      simp only [Act.put, List.setIfInBounds_toArray, List.set_cons_zero, List.set_cons_succ, List.getElem_toArray, List.getElem_cons_zero, List.getElem_cons_succ]
      refine wpAnyH_done (by kernel_rfl) ?_ _
      go_wp2
      go_meet
      exact ⟨by simp [HF.out], hHeld⟩
    | true =>
      have HF := Lib.hid hf
      clear hf
      refine wpAnyH_take (i := 5) (v := ?_) rfl (by kernel_rfl) (by kernel_rfl) (by kernel_rfl) (fun _ _ _ h => h) (Or.inl ⟨by rfl, ?_⟩) (by assumption) ?_
      rotate_left
      · intro wq hSq
        obtain ⟨q0, q1, q2, q3, q4⟩ := HD.out _ hSq
        go_simp
        try with_reducible rfl
      simp only [Act.put, List.setIfInBounds_toArray, List.set_cons_zero, List.set_cons_succ, List.getElem_toArray, List.getElem_cons_zero, List.getElem_cons_succ]
      refine wpAnyH_ready (rs := [6]) (by kernel_rfl) (by simp) ?_
      refine AllReadyH.cons rfl (fun K hK => ?_) AllReadyH.nil
      go_simp
      refine hK.out _ _ (hHeld.alloc hHeld.size _) ?_
      clear hK K
      intro hHeld
      refine wpAnyH_ready (rs := [7]) (by kernel_rfl) (by simp) ?_
      refine AllReadyH.cons rfl (fun K hK => ?_) AllReadyH.nil
      go_simp
      refine (few_any [u] _ _ _ (RdL.block valLay w2 [u] #[.int .i64 u.kind, .int .i64 u.n, .string (bs u.s), .slice u.lA u.l.length u.lc, .slice u.tA u.t.length u.tc] 25 rfl w2.heap.size rfl) (fun x hx => by
        simp only [List.mem_singleton] at hx
        subst hx
        exact HOu.out.now (HB1.out.trans (hHeld.mono HB1.out.size))) (by simp)).mono ?_
      rintro e w3 ⟨rfl, hb3⟩
      go_wp2_with fail
      refine hK.out _ _ (hHeld.trans (hb3.mono hHeld.size)) ?_
      clear hK K
      intro hHeld
      clear hb3
      refine wpAnyH_take (i := 8) (v := ?_) rfl (by kernel_rfl) (by kernel_rfl) (by kernel_rfl) (fun _ _ _ h => h) (Or.inl ⟨by rfl, ?_⟩) (by assumption) ?_
      rotate_left
      · intro wq hSq
        skip
        go_simp
        try with_reducible rfl
      simp only [Act.put, List.setIfInBounds_toArray, List.set_cons_zero, List.set_cons_succ, List.getElem_toArray, List.getElem_cons_zero, List.getElem_cons_succ]
      refine wpAnyH_take (i := 9) (v := ?_) rfl (by kernel_rfl) (by kernel_rfl) (by kernel_rfl) (fun _ _ _ h => h) (Or.inl ⟨by rfl, ?_⟩) (by assumption) ?_
      rotate_left
      · intro wq hSq
        skip
        go_simp
        try with_reducible rfl
      simp only [Act.put, List.setIfInBounds_toArray, List.set_cons_zero, List.set_cons_succ, List.getElem_toArray, List.getElem_cons_zero, List.getElem_cons_succ]
      refine wpAnyH_take (i := 10) (v := ?_) rfl (by kernel_rfl) (by kernel_rfl) (by kernel_rfl) (fun _ _ _ h => h) (Or.inl ⟨by rfl, ?_⟩) (by assumption) ?_
      rotate_left
      · intro wq hSq
        skip
        go_simp
        try with_reducible rfl
      simp only [Act.put, List.setIfInBounds_toArray, List.set_cons_zero, List.set_cons_succ, List.getElem_toArray, List.getElem_cons_zero, List.getElem_cons_succ]
      cases hf : fewV [u] with
      | false =>
        have HG := Lib.hid hf
        clear hf
        refine wpAnyH_take (i := 11) (v := undef) rfl (by kernel_rfl) (by kernel_rfl) (by kernel_rfl) (fun _ _ _ h => h) (Or.inr ⟨by rfl, rfl⟩) (by assumption) ?_
        simp only [Act.put, List.setIfInBounds_toArray, List.set_cons_zero, List.set_cons_succ, List.getElem_toArray, List.getElem_cons_zero, List.getElem_cons_succ]
        refine wpAnyH_take (i := 12) (v := undef) rfl (by kernel_rfl) (by kernel_rfl) (by kernel_rfl) (fun _ _ _ h => h) (Or.inr ⟨by rfl, rfl⟩) (by assumption) ?_
        simp only [Act.put, List.setIfInBounds_toArray, List.set_cons_zero, List.set_cons_succ, List.getElem_toArray, List.getElem_cons_zero, List.getElem_cons_succ]
        refine wpAnyH_take (i := 13) (v := undef) rfl (by kernel_rfl) (by kernel_rfl) (by kernel_rfl) (fun _ _ _ h => h) (Or.inr ⟨by rfl, rfl⟩) (by assumption) ?_
        simp only [Act.put, List.setIfInBounds_toArray, List.set_cons_zero, List.set_cons_succ, List.getElem_toArray, List.getElem_cons_zero, List.getElem_cons_succ]
        refine wpAnyH_take (i := 14) (v := undef) rfl (by kernel_rfl) (by kernel_rfl) (by kernel_rfl) (fun _ _ _ h => h) (Or.inr ⟨by rfl, rfl⟩) (by assumption) ?_
        simp only [Act.put, List.setIfInBounds_toArray, List.set_cons_zero, List.set_cons_succ, List.getElem_toArray, List.getElem_cons_zero, List.getElem_cons_succ]
        refine wpAnyH_take (i := 15) (v := undef) rfl (by kernel_rfl) (by kernel_rfl) (by kernel_rfl) (fun _ _ _ h => h) (Or.inr ⟨by rfl, rfl⟩) (by assumption) ?_
        simp only [Act.put, List.setIfInBounds_toArray, List.set_cons_zero, List.set_cons_succ, List.getElem_toArray, List.getElem_cons_zero, List.getElem_cons_succ]
        refine wpAnyH_take (i := 16) (v := ?_) rfl (by kernel_rfl) (by kernel_rfl) (by kernel_rfl) (fun _ _ _ h => h) (Or.inl ⟨by rfl, ?_⟩) (by assumption) ?_
        rotate_left
        · intro wq hSq
          skip
          go_simp
          try with_reducible rfl
        simp only [Act.put, List.setIfInBounds_toArray, List.set_cons_zero, List.set_cons_succ, List.getElem_toArray, List.getElem_cons_zero, List.getElem_cons_succ]
        refine wpAnyH_done (by kernel_rfl) ?_ _
        go_wp2
        go_meet
        exact ⟨by simp [HF.out, HG.out], hHeld⟩
      | true =>
        have HG := Lib.hid hf
        clear hf
        refine wpAnyH_take (i := 11) (v := ?_) rfl (by kernel_rfl) (by kernel_rfl) (by kernel_rfl) (fun _ _ _ h => h) (Or.inl ⟨by rfl, ?_⟩) (by assumption) ?_
        rotate_left
        · intro wq hSq
          obtain ⟨q0, q1, q2, q3, q4⟩ := HC.out _ hSq
          go_simp
          try with_reducible rfl
        simp only [Act.put, List.setIfInBounds_toArray, List.set_cons_zero, List.set_cons_succ, List.getElem_toArray, List.getElem_cons_zero, List.getElem_cons_succ]
        refine wpAnyH_take (i := 13) (v := ?_) rfl (by kernel_rfl) (by kernel_rfl) (by kernel_rfl) (fun _ _ _ h => h) (Or.inl ⟨by rfl, ?_⟩) (by assumption) ?_
        rotate_left
        · intro wq hSq
          obtain ⟨q0, q1, q2, q3, q4⟩ := HD.out _ hSq
          go_simp
          try with_reducible rfl
        simp only [Act.put, List.setIfInBounds_toArray, List.set_cons_zero, List.set_cons_succ, List.getElem_toArray, List.getElem_cons_zero, List.getElem_cons_succ]
        refine wpAnyH_ready (rs := [12]) (by kernel_rfl) (by simp) ?_
        refine AllReadyH.cons rfl (fun K hK => ?_) AllReadyH.nil
        go_simp
        refine (kind_any v _).mono ?_
        rintro e w4 ⟨rfl, hb4⟩
        go_wp2_with fail
        refine hK.out _ _ (hHeld.trans (hb4.mono hHeld.size)) ?_
        clear hK K
        intro hHeld
        clear hb4
        refine wpAnyH_ready (rs := [14]) (by kernel_rfl) (by simp) ?_
        refine AllReadyH.cons rfl (fun K hK => ?_) AllReadyH.nil
        go_simp
        refine (kind_any u _).mono ?_
        rintro e w5 ⟨rfl, hb5⟩
        go_wp2_with fail
        refine hK.out _ _ (hHeld.trans (hb5.mono hHeld.size)) ?_
        clear hK K
        intro hHeld
        clear hb5
        refine wpAnyH_take (i := 15) (v := ?_) rfl (by kernel_rfl) (by kernel_rfl) (by kernel_rfl) (fun _ _ _ h => h) (Or.inl ⟨by rfl, ?_⟩) (by assumption) ?_
        rotate_left
        · intro wq hSq
          skip
          go_simp
          try with_reducible rfl
        simp only [Act.put, List.setIfInBounds_toArray, List.set_cons_zero, List.set_cons_succ, List.getElem_toArray, List.getElem_cons_zero, List.getElem_cons_succ]
        refine wpAnyH_take (i := 16) (v := ?_) rfl (by kernel_rfl) (by kernel_rfl) (by kernel_rfl) (fun _ _ _ h => h) (Or.inl ⟨by rfl, ?_⟩) (by assumption) ?_
        rotate_left
        · intro wq hSq
          skip
          go_simp
          try with_reducible rfl
        simp only [Act.put, List.setIfInBounds_toArray, List.set_cons_zero, List.set_cons_succ, List.getElem_toArray, List.getElem_cons_zero, List.getElem_cons_succ]
        refine wpAnyH_done (by kernel_rfl) ?_ _
        go_wp2
        go_meet
        exact ⟨by simp [HF.out, HG.out, bne]; rfl, hHeld⟩
  case rest =>
    obtain ⟨rfl, hbc⟩ := hcut
    have HB2 := Lib.hid (HB1.out.trans (hbc.mono HB1.out.size))
    have HR0 := Lib.hid ((hbc.block _ (box_lt HR0.out)).trans HR0.out)
    have HR1 := Lib.hid ((hbc.block _ (box_lt HR1.out)).trans HR1.out)
    clear hbc a0 a1 a2 a3 a4 b0 b1 b2 b3 b4
    obtain ⟨a0, a1, a2, a3, a4⟩ := row_cells (v := v) HR0.out
    obtain ⟨b0, b1, b2, b3, b4⟩ := row_cells (v := u) HR1.out
    by_cases hall : fewV [v] = true ∧ fewV [u] = true ∧ v.knd = u.knd
    · have e1 : (!(fewV [v] && (fewV [u] && decide (v.knd = u.knd)))) = false := by simp [hall.1, hall.2.1, hall.2.2]
      rw [e1]
      clear e1
      have HFv := Lib.hid (few_fits hall.1 (v := v) (by simp))
      have HFu := Lib.hid (few_fits hall.2.1 (v := u) (by simp))
      have HK := Lib.hid hall.2.2
      clear hall
      go_wp2_with fail
      refine (write_any v _ (HV.out.now HB2.out) (HOv.out.now HB2.out) HFv.out).mono ?_
      rintro e w3 ⟨rfl, hb3⟩
      have HB3 := Lib.hid (HB2.out.trans (hb3.mono HB2.out.size))
      have HR1 := Lib.hid ((hb3.block _ (box_lt HR1.out)).trans HR1.out)
      clear hb3 a0 a1 a2 a3 a4 b0 b1 b2 b3 b4
      obtain ⟨b0, b1, b2, b3, b4⟩ := row_cells (v := u) HR1.out
      go_wp2_with fail
      refine (write_any u _ (HV.out.now HB3.out) (HOu.out.now HB3.out) HFu.out).mono ?_
      rintro e w4 ⟨rfl, hb4⟩
      have HB4 := Lib.hid (HB3.out.trans (hb4.mono HB3.out.size))
      have HR1 := Lib.hid ((hb4.block _ (box_lt HR1.out)).trans HR1.out)
      clear hb4 b0 b1 b2 b3 b4
      obtain ⟨b0, b1, b2, b3, b4⟩ := row_cells (v := u) HR1.out
      have HPr := Lib.hid (fun tl => prefix_eq (tl := tl) HK.out HOv.out.n HOv.out.li HFv.out HOu.out.n HOu.out.li HFu.out)
      have HEl := Lib.hid (enc_le v HOv.out.n HOv.out.li HFv.out)
      generalize hsv : v.enc = sv at *
      generalize hsu : u.enc = su at *
      clear hsv hsu
      have hz1 : (bs sv).size = sv.length := bs_size _
      have hz2 : (bs su).size = su.length := bs_size _
      by_cases hlen : (su.length : Int) < sv.length
      · go_wp2_with fail
        go_ret
        exact ⟨rfl, HB4.out⟩
      · have hlen2 : (sv.length : Int) ≤ su.length := by omega
        have htk : (bs su).extract 0 (min (sv.length : Int) su.length).toNat = bs (su.take sv.length) := by
          rw [bs_take]; congr 2; omega
        have htk2 : (bs su).extract 0 sv.length = bs (su.take sv.length) := bs_take _ _
        by_cases hpre : su.take sv.length = sv
        · have hq : ((bs (su.take sv.length)).toList == (bs sv).toList) = true := by rw [bs_beq, hpre]; simp
          have hq2 : ((bs (su.take sv.length)).toList != (bs sv).toList) = false := by rw [bne, hq]; rfl
          have hsplit : su = sv ++ su.drop sv.length := by conv => lhs; rw [← List.take_append_drop sv.length su, hpre]
          have hres := HPr.out _ hsplit
          have hsu : su = sv := by rw [hsplit, hres.1, List.append_nil]
          have HRes := Lib.hid hres.2
          clear hres hsplit hpre
          subst hsu
          have hEl := HEl.out
          go_wp2_with fail
          refine (open_any su _).mono ?_
          rintro e w5 ⟨rfl, hr5, hb5⟩
          have HB5 := Lib.hid (HB4.out.trans (hb5.mono HB4.out.size))
          have HRd := Lib.hid hr5
          have HZ := Lib.hid (show w.heap.size ≤ w4.heap.size from HB4.out.size)
          have HR1 := Lib.hid ((hb5.block _ (box_lt HR1.out)).trans HR1.out)
          clear hr5 hb5 b0 b1 b2 b3 b4
          obtain ⟨b0, b1, b2, b3, b4⟩ := row_cells (v := u) HR1.out
          generalize w4.heap.size = bb at *
          go_wp2_with fail
          refine (equal_any bb ⟨su, false⟩ u _ (HV.out.now HB5.out) HZ.out HRd.out (show su.length ≤ _ by omega) (VM.Ok.at_ HOu.out HB5.out)).mono ?_
          rw [HRes.out]
          rintro e w6 ⟨rfl, hr6, ht6⟩
          have HB6 := Lib.hid (HB5.out.trans (ht6.to_below HB5.out.size (fun i hi => by cases hi; exact HZ.out)))
          clear hr6 ht6
          go_wp2_with fail
          go_ret
          exact ⟨rfl, HB6.out⟩
        · have hq : ((bs (su.take sv.length)).toList == (bs sv).toList) = false := by rw [bs_beq]; simpa using hpre
          have hq2 : ((bs (su.take sv.length)).toList != (bs sv).toList) = true := by rw [bne, hq]; rfl
          clear hpre
          go_wp2_with fail
          go_ret
          exact ⟨rfl, HB4.out⟩
    · have e1 : (!(fewV [v] && (fewV [u] && decide (v.knd = u.knd)))) = true := by
        cases h1 : fewV [v] <;> cases h2 : fewV [u] <;> simp_all
      rw [e1]
      clear e1 hall
      go_wp2_with fail
      go_ret
      exact ⟨rfl, HB2.out⟩
end Go.Proofs.YtijknmocidggbaaDoor
