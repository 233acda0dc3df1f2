/- Contracts of maps.Clone and of Copy of a disk. -/
import Derived.Test.YtjgeefagnddpfaaDkI
import Derived.Laws.Externs
namespace Go.Proofs.Ytjgeefagnddpfaa
open Go.RowKit

theorem equalIn_map_nil {P : Program} (w : World) (d : Nat) (t k e : TypeId) (p : Option Nat) (h : P.underlying t = some (.map k e)) : (Op.equalIn (d + 1) t (.map p) (.map none)).run P w = .ok p.isNone w := by
  cases p <;> simp [Op.equalIn, run_underlying h]
theorem run_eql_map_nil_at {P : Program} (w : World) (t k e : TypeId) (p : Option Nat) (h : P.underlying t = some (.map k e)) : (binOp .eql t (.map p) (.map none)).run P w = .ok (.bool p.isNone) w := by
  simp [binOp, show Op.equal t (.map p) (.map none) = Op.equalIn (9999 + 1) t (.map p) (.map none) from rfl, equalIn_map_nil w 9999 t k e p h]
theorem run_clone_map {P : Program} {w : World} {r : Nat} {es : Array MapEntry} {clock : Nat} (t : TypeId) (hb : w.heap[r]? = some (.map es clock)) :
    (Extern.MapsClone.clone #[.iface t (.map (some r))]).run P w = .ok (.iface t (.map (some w.heap.size))) (w.alloc (.map es clock)) := by
  have e : Extern.MapsClone.clone #[.iface t (.map (some r))] = (getObj r >>= fun o => match o with
      | .map entries clock => (newObj (.map entries clock) >>= fun n => pure (.iface t (.map (some n))))
      | _ => stuck "maps.clone: a map expected") := rfl
  rw [e]
  simp [MapKept.run_getObj_map hb, Result.andThen, go_sem]
theorem run_typeAssert_map {P : Program} (w : World) (t xT k e : TypeId) (v : Value) (h : P.underlying t = some (.map k e)) : (Instr.typeAssert (.iface t v) xT t false).run P w = .ok v w := by
  simp [Instr.typeAssert, run_underlying h, go_sem, Result.andThen]
theorem cloneF_any (b : Nat) (es : Array MapEntry) (clock : Nat) (w : World) (hb : w.heap[b]? = some (.map es clock)) :
    Calls Try.prog 40 #[.map (some b)] w fun e w' => e = .returned (.map (some w.heap.size)) ∧ w' = w.alloc (.map es clock) := by
  have hq := fun w => run_eql_map_nil_at (P := Try.prog) w 52 _ _ (some b) Try.underlying52
  go_enter Try.func40, Try.ntmps40
  go_wp2
  rw [run_callFunc_extern Try.func55 (by kernel_rfl) (by kernel_rfl) (by kernel_rfl) (e := Extern.MapsClone.clone) (by kernel_rfl), run_clone_map 52 hb]
  simp only [Result.andThen]
  rw [Oper.upon_value]
  go_wp2
  rw [run_typeAssert_map _ 52 20 _ _ _ Try.underlying52]
  simp only [Result.andThen]
  rw [Oper.upon_value]
  go_wp2
  go_ret
  exact ⟨rfl, rfl⟩
theorem cloneM_any (b : Nat) (es : Array MapEntry) (clock : Nat) (w : World) (hb : w.heap[b]? = some (.map es clock)) :
    Calls Try.prog 42 #[.map (some b)] w fun e w' => e = .returned (.map (some w.heap.size)) ∧ w' = w.alloc (.map es clock) := by
  have hq := fun w => run_eql_map_nil_at (P := Try.prog) w 53 _ _ (some b) Try.underlying53
  go_enter Try.func42, Try.ntmps42
  go_wp2
  rw [run_callFunc_extern Try.func55 (by kernel_rfl) (by kernel_rfl) (by kernel_rfl) (e := Extern.MapsClone.clone) (by kernel_rfl), run_clone_map 53 hb]
  simp only [Result.andThen]
  rw [Oper.upon_value]
  go_wp2
  rw [run_typeAssert_map _ 53 20 _ _ _ Try.underlying53]
  simp only [Result.andThen]
  rw [Oper.upon_value]
  go_wp2
  go_ret
  exact ⟨rfl, rfl⟩

theorem DK.setc {w : World} {p : Nat} {S : DS} {L : DL} (h : DK w p S L) (b j : Nat) (v : Value) (hn : ¬ L.own p b) (hk : slBlk L.kA ≠ some b) : DK (w.setCell ⟨b, j, none⟩ v) p S L :=
  h.turn (fun i hi => heap_setCell_other w ⟨b, j, none⟩ i v (fun e => by
    have e' : i = b := e
    subst e'
    rcases hi with hi | hi
    · exact hn hi
    · exact hk hi)) (by simp [World.setCell])
set_option maxRecDepth 100000 in
set_option maxHeartbeats 4000000 in
theorem dCopy_any (p : Nat) (S : DS) (L : DL) (w : World) (h : DK w p S L) :
    Calls Try.prog 18 #[.pointer (some ⟨p, 0, none⟩)] w fun e w' => ∃ p2 L2, e = .returned (.pointer (some ⟨p2, 0, none⟩)) ∧ Below w.heap.size w w' ∧ DK w' p2 S L2 ∧ (∀ i, L2.own p2 i → w.heap.size ≤ i) ∧ L2.kA = L.kA := by
  have H := Lib.hid h
  have c0 := h.c0
  have c1 := h.c1
  have c2 := h.c2
  have c3 := h.c3
  have c4 := h.c4
  have c5 := h.c5
  have c6 := h.c6
  have hp := box_lt h.box
  clear h
  go_enter Try.func18, Try.ntmps18
  go_wp2_with fail
  obtain ⟨W1, hW1⟩ : ∃ W, W = (w.alloc (.cells (diskV S L) 56)).drew := ⟨_, rfl⟩
  have hW1' : (w.alloc (.cells #[.map (some L.bf), .slice L.qA S.queue.length L.qc, .map (some L.bs), .int .i64 S.lost, .bool S.down, .int .i64 S.armed, .slice L.kA S.keep.length L.kc] 56)).drew = W1 := hW1.symm
  have hb1 : Below w.heap.size w W1 := by rw [hW1]; exact ((Below.refl _ w).alloc (Nat.le_refl _) _).drew
  have hn1 : W1.heap[w.heap.size]? = some (.cells (diskV S L) 56 (0, 0)) := by rw [hW1]; exact (MapKept.heap_alloc w _).1
  have hz1 : W1.heap.size = w.heap.size + 1 := by rw [hW1]; simp
  have D1 := Lib.hid (H.out.below hb1)
  have N1 := Lib.hid hn1
  have B1 := Lib.hid hb1
  refine wp_region_held_drew (S := fun wq => wq.cell? ⟨p, 0, none⟩ = some (.map (some L.bf)) ∧ wq.cell? ⟨p, 1, none⟩ = some (.slice L.qA S.queue.length L.qc) ∧ wq.cell? ⟨p, 2, none⟩ = some (.map (some L.bs))) (by kernel_rfl) ?_ (fun hHeld => ?_)
  · rw [hW1']
    exact ⟨D1.out.c0, D1.out.c1, D1.out.c2⟩
  rw [hW1'] at hHeld ⊢
  clear hW1 hW1' hb1 hn1 c0 c1 c2 c3 c4 c5 c6
  refine wpAnyH_take (i := 0) (v := ?_) rfl (by kernel_rfl) (by kernel_rfl) (by kernel_rfl) (fun _ _ _ h => h) (Or.inl ⟨by rfl, ?_⟩) (by assumption) ?_
  rotate_left
  · rintro wq ⟨s2, s0, s1⟩
    go_simp
    try with_reducible rfl
  simp only [Act.put, List.setIfInBounds_toArray, List.set_cons_zero, List.set_cons_succ, List.getElem_toArray, List.getElem_cons_zero]
  refine wpAnyH_take (i := 1) (v := ?_) rfl (by kernel_rfl) (by kernel_rfl) (by kernel_rfl) (fun _ _ _ h => h) (Or.inl ⟨by rfl, ?_⟩) (by assumption) ?_
  rotate_left
  · rintro wq ⟨s2, s0, s1⟩
    go_simp
    try with_reducible rfl
  simp only [Act.put, List.setIfInBounds_toArray, List.set_cons_zero, List.set_cons_succ, List.getElem_toArray, List.getElem_cons_zero, List.getElem_cons_succ]
  refine wpAnyH_take (i := 2) (v := ?_) rfl (by kernel_rfl) (by kernel_rfl) (by kernel_rfl) (fun _ _ _ h => h) (Or.inl ⟨by rfl, ?_⟩) (by assumption) ?_
  rotate_left
  · rintro wq ⟨s2, s0, s1⟩
    go_simp
    try with_reducible rfl
  simp only [Act.put, List.setIfInBounds_toArray, List.set_cons_zero, List.set_cons_succ, List.getElem_toArray, List.getElem_cons_zero, List.getElem_cons_succ]
  refine wpAnyH_take (i := 3) (v := ?_) rfl (by kernel_rfl) (by kernel_rfl) (by kernel_rfl) (fun _ _ _ h => h) (Or.inl ⟨by rfl, ?_⟩) (by assumption) ?_
  rotate_left
  · rintro wq ⟨s2, s0, s1⟩
    go_simp
    try with_reducible rfl
  simp only [Act.put, List.setIfInBounds_toArray, List.set_cons_zero, List.set_cons_succ, List.getElem_toArray, List.getElem_cons_zero, List.getElem_cons_succ]
  refine wpAnyH_take (i := 5) (v := ?_) rfl (by kernel_rfl) (by kernel_rfl) (by kernel_rfl) (fun _ _ _ h => h) (Or.inl ⟨by rfl, ?_⟩) (by assumption) ?_
  rotate_left
  · rintro wq ⟨s2, s0, s1⟩
    go_simp
    try with_reducible rfl
  simp only [Act.put, List.setIfInBounds_toArray, List.set_cons_zero, List.set_cons_succ, List.getElem_toArray, List.getElem_cons_zero, List.getElem_cons_succ]
  refine wpAnyH_take (i := 6) (v := ?_) rfl (by kernel_rfl) (by kernel_rfl) (by kernel_rfl) (fun _ _ _ h => h) (Or.inl ⟨by rfl, ?_⟩) (by assumption) ?_
  rotate_left
  · rintro wq ⟨s2, s0, s1⟩
    go_simp
    try with_reducible rfl
  simp only [Act.put, List.setIfInBounds_toArray, List.set_cons_zero, List.set_cons_succ, List.getElem_toArray, List.getElem_cons_zero, List.getElem_cons_succ]
  refine wpAnyH_take (i := 7) (v := ?_) rfl (by kernel_rfl) (by kernel_rfl) (by kernel_rfl) (fun _ _ _ h => h) (Or.inl ⟨by rfl, ?_⟩) (by assumption) ?_
  rotate_left
  · rintro wq ⟨s2, s0, s1⟩
    go_simp
    try with_reducible rfl
  simp only [Act.put, List.setIfInBounds_toArray, List.set_cons_zero, List.set_cons_succ, List.getElem_toArray, List.getElem_cons_zero, List.getElem_cons_succ]
  refine wpAnyH_take (i := 8) (v := ?_) rfl (by kernel_rfl) (by kernel_rfl) (by kernel_rfl) (fun _ _ _ h => h) (Or.inl ⟨by rfl, ?_⟩) (by assumption) ?_
  rotate_left
  · rintro wq ⟨s2, s0, s1⟩
    go_simp
    try with_reducible rfl
  simp only [Act.put, List.setIfInBounds_toArray, List.set_cons_zero, List.set_cons_succ, List.getElem_toArray, List.getElem_cons_zero, List.getElem_cons_succ]
  refine wpAnyH_take (i := 10) (v := ?_) rfl (by kernel_rfl) (by kernel_rfl) (by kernel_rfl) (fun _ _ _ h => h) (Or.inl ⟨by rfl, ?_⟩) (by assumption) ?_
  rotate_left
  · rintro wq ⟨s2, s0, s1⟩
    go_simp
    try with_reducible rfl
  simp only [Act.put, List.setIfInBounds_toArray, List.set_cons_zero, List.set_cons_succ, List.getElem_toArray, List.getElem_cons_zero, List.getElem_cons_succ]
  refine wpAnyH_take (i := 11) (v := ?_) rfl (by kernel_rfl) (by kernel_rfl) (by kernel_rfl) (fun _ _ _ h => h) (Or.inl ⟨by rfl, ?_⟩) (by assumption) ?_
  rotate_left
  · rintro wq ⟨s2, s0, s1⟩
    go_simp
    try with_reducible rfl
  simp only [Act.put, List.setIfInBounds_toArray, List.set_cons_zero, List.set_cons_succ, List.getElem_toArray, List.getElem_cons_zero, List.getElem_cons_succ]
  refine wpAnyH_take (i := 12) (v := ?_) rfl (by kernel_rfl) (by kernel_rfl) (by kernel_rfl) (fun _ _ _ h => h) (Or.inl ⟨by rfl, ?_⟩) (by assumption) ?_
  rotate_left
  · rintro wq ⟨s2, s0, s1⟩
    go_simp
    try with_reducible rfl
  simp only [Act.put, List.setIfInBounds_toArray, List.set_cons_zero, List.set_cons_succ, List.getElem_toArray, List.getElem_cons_zero, List.getElem_cons_succ]
  refine wpAnyH_take (i := 13) (v := ?_) rfl (by kernel_rfl) (by kernel_rfl) (by kernel_rfl) (fun _ _ _ h => h) (Or.inl ⟨by rfl, ?_⟩) (by assumption) ?_
  rotate_left
  · rintro wq ⟨s2, s0, s1⟩
    go_simp
    try with_reducible rfl
  simp only [Act.put, List.setIfInBounds_toArray, List.set_cons_zero, List.set_cons_succ, List.getElem_toArray, List.getElem_cons_zero, List.getElem_cons_succ]
  obtain ⟨m, hm, hS⟩ := D1.out.files
  obtain ⟨es, clock, hes, E⟩ := hm
  refine wpAnyH_ready (rs := [4]) (by kernel_rfl) (by simp) ?_
  refine AllReadyH.cons rfl (fun K hK => ?_) AllReadyH.nil
  go_simp
  refine (cloneF_any L.bf es clock W1 hes).mono ?_
  rintro e W2 ⟨rfl, hW2⟩
  have hb2 : Below W1.heap.size W1 W2 := by rw [hW2]; exact (Below.refl _ _).alloc (Nat.le_refl _) _
  have hf2 : W2.heap[W1.heap.size]? = some (.map es clock) := by rw [hW2]; exact (MapKept.heap_alloc W1 _).1
  have hz2 : W2.heap.size = w.heap.size + 2 := by rw [hW2]; simp [hz1]
  have D2 := Lib.hid (D1.out.below hb2)
  have N2 := Lib.hid ((hb2.block w.heap.size (by omega)).trans N1.out)
  have F2 := Lib.hid hf2
  have B2 := Lib.hid (B1.out.trans (hb2.mono (by omega)))
  clear hW2 hb2 hf2
  go_wp2_with fail
  refine hK.out _ _ ⟨D2.out.c0, D2.out.c1, D2.out.c2⟩ ?_
  clear hK K hHeld
  intro hHeld
  refine wpAnyH_ready (rs := [9]) (by kernel_rfl) (by simp) ?_
  refine AllReadyH.cons rfl (fun K hK => ?_) AllReadyH.nil
  go_simp
  refine (cloneS_any S.queue L.qA S.queue.length L.qc W2 rfl (D2.out.queue.rd secLay) (by have := H.out.wf.qlen; omega)).mono ?_
  rintro e W3 ⟨A3, c3, rfl, hown3, hb3⟩
  have hz3 := hb3.size
  have D3 := Lib.hid (D2.out.below hb3)
  have N3 := Lib.hid ((hb3.block w.heap.size (by omega)).trans N2.out)
  have F3 := Lib.hid ((hb3.block W1.heap.size (by omega)).trans F2.out)
  have O3 := Lib.hid hown3
  have B3 := Lib.hid (B2.out.trans (hb3.mono (by omega)))
  clear hb3 hown3
  go_wp2_with fail
  refine hK.out _ _ ⟨D3.out.c0, D3.out.c1, D3.out.c2⟩ ?_
  clear hK K hHeld
  intro hHeld
  obtain ⟨es2, clock2, hes2, E2⟩ := D3.out.set
  refine wpAnyH_ready (rs := [14]) (by kernel_rfl) (by simp) ?_
  refine AllReadyH.cons rfl (fun K hK => ?_) AllReadyH.nil
  go_simp
  refine (cloneM_any L.bs es2 clock2 W3 hes2).mono ?_
  rintro e W4 ⟨rfl, hW4⟩
  have hb4 : Below W3.heap.size W3 W4 := by rw [hW4]; exact (Below.refl _ _).alloc (Nat.le_refl _) _
  have hs4 : W4.heap[W3.heap.size]? = some (.map es2 clock2) := by rw [hW4]; exact (MapKept.heap_alloc W3 _).1
  have hz4 : W4.heap.size = W3.heap.size + 1 := by rw [hW4]; simp
  have D4 := Lib.hid (D3.out.below hb4)
  have N4 := Lib.hid ((hb4.block w.heap.size (by omega)).trans N3.out)
  have F4 := Lib.hid ((hb4.block W1.heap.size (by omega)).trans F3.out)
  have O4 := Lib.hid (O3.out.below hb4)
  have S4 := Lib.hid hs4
  have B4 := Lib.hid (B3.out.trans (hb4.mono (by omega)))
  clear hW4 hb4 hs4
  have n0 := box_cell N4.out 0 _ rfl
  have n1 := box_cell N4.out 1 _ rfl
  have n2 := box_cell N4.out 2 _ rfl
  have nz := fun j => box_free N4.out j
  go_wp2_with fail
  refine hK.out _ _ ⟨D4.out.c0, D4.out.c1, D4.out.c2⟩ ?_
  clear hK K hHeld
  intro hHeld
  have hno : ¬ L.own p w.heap.size := fun h => by have := H.out.lt _ h; omega
  have hnk : slBlk L.kA ≠ some w.heap.size := fun h => by have := H.out.kl _ h; omega
  have D5 := Lib.hid (D4.out.setc w.heap.size 0 (.map (some (w.heap.size + 1))) hno hnk)
  have D6 := Lib.hid (D5.out.setc w.heap.size 1 (.slice A3 S.queue.length c3) hno hnk)
  have D7 := Lib.hid (D6.out.setc w.heap.size 2 (.map (some W3.heap.size)) hno hnk)
  refine wpAnyH_take (i := 15) (v := ?_) rfl (by kernel_rfl) (by kernel_rfl) (by kernel_rfl) (fun _ _ _ h => h) (Or.inl ⟨by rfl, ?_⟩) (by assumption) ?_
  rotate_left
  · rintro wq ⟨s2, s0, s1⟩
    go_simp
    try with_reducible rfl
  simp only [Act.put, List.setIfInBounds_toArray, List.set_cons_zero, List.set_cons_succ, List.getElem_toArray, List.getElem_cons_zero, List.getElem_cons_succ]
  refine wpAnyH_ready (rs := [16]) (by kernel_rfl) (by simp) ?_
  refine AllReadyH.cons rfl (fun K hK => ?_) AllReadyH.nil
  go_simp
  refine hK.out _ _ ⟨D5.out.c0, D5.out.c1, D5.out.c2⟩ ?_
  clear hK K hHeld
  intro hHeld
  refine wpAnyH_take (i := 17) (v := ?_) rfl (by kernel_rfl) (by kernel_rfl) (by kernel_rfl) (fun _ _ _ h => h) (Or.inl ⟨by rfl, ?_⟩) (by assumption) ?_
  rotate_left
  · rintro wq ⟨s2, s0, s1⟩
    go_simp
    try with_reducible rfl
  simp only [Act.put, List.setIfInBounds_toArray, List.set_cons_zero, List.set_cons_succ, List.getElem_toArray, List.getElem_cons_zero, List.getElem_cons_succ]
  refine wpAnyH_ready (rs := [18]) (by kernel_rfl) (by simp) ?_
  refine AllReadyH.cons rfl (fun K hK => ?_) AllReadyH.nil
  go_simp
  refine hK.out _ _ ⟨D6.out.c0, D6.out.c1, D6.out.c2⟩ ?_
  clear hK K hHeld
  intro hHeld
  refine wpAnyH_take (i := 19) (v := ?_) rfl (by kernel_rfl) (by kernel_rfl) (by kernel_rfl) (fun _ _ _ h => h) (Or.inl ⟨by rfl, ?_⟩) (by assumption) ?_
  rotate_left
  · rintro wq ⟨s2, s0, s1⟩
    go_simp
    try with_reducible rfl
  simp only [Act.put, List.setIfInBounds_toArray, List.set_cons_zero, List.set_cons_succ, List.getElem_toArray, List.getElem_cons_zero, List.getElem_cons_succ]
  refine wpAnyH_ready (rs := [20]) (by kernel_rfl) (by simp) ?_
  refine AllReadyH.cons rfl (fun K hK => ?_) AllReadyH.nil
  go_simp
  refine hK.out _ _ ⟨D7.out.c0, D7.out.c1, D7.out.c2⟩ ?_
  clear hK K hHeld
  intro hHeld
  refine wpAnyH_done (by kernel_rfl) ?_ _
  clear hHeld n0 n1 n2 nz
  obtain ⟨W7, hW7⟩ : ∃ W, W = ((W4.setCell ⟨w.heap.size, 0, none⟩ (.map (some (w.heap.size + 1)))).setCell ⟨w.heap.size, 1, none⟩ (.slice A3 S.queue.length c3)).setCell ⟨w.heap.size, 2, none⟩ (.map (some W3.heap.size)) := ⟨_, rfl⟩
  have hN7 := heap_setCell_same _ w.heap.size 2 _ _ (.map (some W3.heap.size)) (heap_setCell_same _ w.heap.size 1 _ _ (.slice A3 S.queue.length c3) (heap_setCell_same _ w.heap.size 0 _ _ (.map (some (w.heap.size + 1))) N4.out))
  have o7 : ∀ i, i ≠ w.heap.size → W7.heap[i]? = W4.heap[i]? := fun i hi => by
    rw [hW7, heap_setCell_other _ ⟨w.heap.size, 2, none⟩ _ _ hi, heap_setCell_other _ ⟨w.heap.size, 1, none⟩ _ _ hi, heap_setCell_other _ ⟨w.heap.size, 0, none⟩ _ _ hi]
  have hB7 : Below w.heap.size w W7 := by
    rw [hW7]
    exact (((B4.out.setCell (p := ⟨w.heap.size, 0, none⟩) (Nat.le_refl _) _).setCell (p := ⟨w.heap.size, 1, none⟩) (Nat.le_refl _) _).setCell (p := ⟨w.heap.size, 2, none⟩) (Nat.le_refl _) _)
  have hz7 : W7.heap.size = W4.heap.size := by rw [hW7]; simp [World.setCell]
  rw [← hW7] at hN7 ⊢
  clear hW7
  have HN7 := Lib.hid hN7
  have HO7 := Lib.hid o7
  have HB7 := Lib.hid hB7
  clear hN7 o7 hB7
  go_wp2
  go_ret
  have hA3 : ∀ i, slBlk A3 = some i → w.heap.size + 2 ≤ i ∧ i < W3.heap.size := fun i hi => by have := O3.out.blk_lt hi; omega
  refine ⟨w.heap.size, ⟨w.heap.size + 1, W3.heap.size, A3, c3, L.kA, L.kc⟩, rfl, HB7.out, ⟨H.out.wf, HN7.out, ⟨m, ⟨es, clock, ?_, E⟩, hS⟩, ?_, ⟨es2, clock2, ?_, E2⟩, H.out.keep.turn (fun i hi hl => HB7.out.block i hl) HB7.out.size, ?_, ?_, ?_, ?_, ?_, fun i hi => Nat.lt_of_lt_of_le (H.out.kl i hi) HB7.out.size⟩, ?_, rfl⟩
  · exact (HO7.out (w.heap.size + 1) (by omega)).trans (by rw [← hz1]; exact F4.out)
  · exact (O4.out.turn (fun i hi hl => HO7.out i (by have := hA3 i hi; omega))).mono (Nat.zero_le _)
  · exact (HO7.out W3.heap.size (by omega)).trans S4.out
  · show w.heap.size ≠ w.heap.size + 1
    omega
  · show w.heap.size ≠ W3.heap.size
    omega
  · show w.heap.size + 1 ≠ W3.heap.size
    omega
  · intro i hi
    have := hA3 i hi
    refine ⟨?_, ?_, ?_⟩
    · show i ≠ w.heap.size
      omega
    · show i ≠ w.heap.size + 1
      omega
    · show i ≠ W3.heap.size
      omega
  · intro i hi ho
    have h1 := H.out.kl i hi
    rcases ho with ho | ho | ho | ho
    · omega
    · have h' : i = w.heap.size + 1 := ho
      omega
    · have h' : i = W3.heap.size := ho
      omega
    · have := hA3 i ho
      omega
  · rintro i (ho | ho | ho | ho)
    · omega
    · have h' : i = w.heap.size + 1 := ho
      omega
    · have h' : i = W3.heap.size := ho
      omega
    · have := hA3 i ho
      omega
end Go.Proofs.Ytjgeefagnddpfaa
