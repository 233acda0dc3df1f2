/- Contracts and plain laws, joined: SyW. -/
import Derived.Test.YtnaejabgkfhlbaaDoorQat
import Derived.Test.YtnaejabgkfhlbaaDoorQac
import Derived.Test.YtnaejabgkfhlbaaDoorShelf
/- Contracts of syntax.Same and linguaref12.Same (written by gensamep.py). -/
set_option linter.unusedSimpArgs false
set_option linter.unusedVariables false
namespace Go.Proofs.YtnaejabgkfhlbaaDoor
open Go.RowKit

noncomputable def sameP (p q : Prof) : Bool := @decide (p = q) (Classical.propDecidable _)
theorem sameP_iff (p q : Prof) : sameP p q = true ↔ p = q := by unfold sameP; exact @decide_eq_true_iff _ (Classical.propDecidable _)
theorem toList_inj2 {s t : ByteArray} (h : s.toList = t.toList) : s = t := by
  rw [ByteArray.toList_eq, ByteArray.toList_eq] at h
  exact ByteArray.ext (Array.toList_inj.1 h)
theorem sameP_all (p q : Prof) : (((((((((((((((((((((decide (p.types = q.types) && (p.name.toList == q.name.toList)) && (p.edit == q.edit)) && (p.within_ == q.within_)) && (p.delete == q.delete)) && (p.react == q.react)) && (p.thread == q.thread)) && (p.quote == q.quote)) && (p.mention == q.mention)) && (p.size == q.size)) && (p.parts == q.parts)) && (p.files == q.files)) && (p.bytes == q.bytes)) && (p.join == q.join)) && (p.history == q.history)) && (p.remove == q.remove)) && (p.level == q.level)) && (p.batch == q.batch)) && (p.rate == q.rate)) && (p.down == q.down)) && (p.window == q.window)) && (p.keep == q.keep)) = sameP p q := by
  rw [Bool.eq_iff_iff, sameP_iff]
  constructor
  · intro h
    simp only [Bool.and_eq_true, decide_eq_true_eq, beq_iff_eq] at h
    obtain ⟨name, edit, within_, delete, react, thread, quote, mention, size, parts, files, bytes, types, join, history, remove, level, batch, rate, down, window, keep⟩ := p
    obtain ⟨name', edit', within_', delete', react', thread', quote', mention', size', parts', files', bytes', types', join', history', remove', level', batch', rate', down', window', keep'⟩ := q
    have hn := h.1.1.1.1.1.1.1.1.1.1.1.1.1.1.1.1.1.1.1.1.2
    have hn2 := toList_inj2 hn
    simp only at h hn2
    subst hn2
    simp [h]
  · rintro rfl
    simp
theorem sameP_two (p q : Prof) (h : p.types = q.types) : (((((((((((p.name.toList == q.name.toList) && (p.edit == q.edit)) && (p.within_ == q.within_)) && (p.delete == q.delete)) && (p.react == q.react)) && (p.thread == q.thread)) && (p.quote == q.quote)) && (p.mention == q.mention)) && (p.size == q.size)) && (p.parts == q.parts)) && (((((((((((p.files == q.files) && (p.bytes == q.bytes)) && (p.join == q.join)) && (p.history == q.history)) && (p.remove == q.remove)) && (p.level == q.level)) && (p.batch == q.batch)) && (p.rate == q.rate)) && (p.down == q.down)) && (p.window == q.window)) && (p.keep == q.keep))) = sameP p q := by
  rw [← sameP_all, Bool.eq_iff_iff]
  simp only [Bool.and_eq_true, decide_eq_true_eq, h, true_and, and_assoc]
theorem boxAll2 (w : World) (cs ds : Array Value) (t : TypeId) : (∀ (j : Nat) v, cs[j]? = some v → ((w.alloc (.cells cs t)).alloc (.cells ds t)).cell? ⟨w.heap.size, j, none⟩ = some v) ∧ (∀ (j : Nat) v, ds[j]? = some v → ((w.alloc (.cells cs t)).alloc (.cells ds t)).cell? ⟨w.heap.size + 1, j, none⟩ = some v) := by
  refine ⟨fun j v h => ?_, fun j v h => ?_⟩
  · have h1 : (w.alloc (.cells cs t)).heap[w.heap.size]? = some (.cells cs t (0, 0)) := (MapKept.heap_alloc w _).1
    exact box_cell ((Below.heap_alloc _ _ _ (by simp)).trans h1) j v h
  · have h1 := (MapKept.heap_alloc (w.alloc (.cells cs t)) (.cells ds t)).1
    rw [show (w.alloc (.cells cs t)).heap.size = w.heap.size + 1 by simp] at h1
    exact box_cell h1 j v h
theorem strEq_any (xs ys : List ByteArray) (A A2 : Option Addr) (c d : Nat) (w : World) (hx : RdS w w.heap.size A xs) (hy : RdS w w.heap.size A2 ys) (hl : xs.length ≤ 1000) (hm : ys.length ≤ 1000) :
    Calls Tryd.prog 63 #[.slice A xs.length c, .slice A2 ys.length d] w fun e w' => e = .returned (.bool (decide (xs = ys))) ∧ Below w.heap.size w w' := by
  by_cases hne : xs.length = ys.length
  · cases xs with
    | nil =>
      have : ys = [] := List.eq_nil_of_length_eq_zero hne.symm
      subst this
      refine (Tryd.slices_Equal_string_empty A A2 c 0 d w (by decide)).mono ?_
      rintro e w' ⟨rfl, rfl⟩
      exact ⟨rfl, Below.refl _ _⟩
    | cons x r =>
      obtain ⟨b1, o1, s1, rfl, hb1, _, _⟩ := RdS_at hx (k := 0) (by simp)
      obtain ⟨b2, o2, s2, rfl, hb2, _, _⟩ := RdS_at hy (k := 0) (by rw [← hne]; simp)
      have cell : ∀ (zs : List ByteArray) (b o : Nat), RdS w w.heap.size (some ⟨b, o, none⟩) zs → ∀ j, j < zs.length → w.cell? ⟨b, o + j, none⟩ = some (.string (zs.getD j ByteArray.empty)) := fun zs b o h j hj => by
        obtain ⟨b', o', s, e, _, hs, hc⟩ := RdS_at h hj
        injection e with e
        injection e with e1 e2
        subst e1 e2
        rw [hc]
        simp [List.getD, hs]
      refine (Tryd.slices_Equal_string b1 o1 (x :: r).length c b2 o2 ys.length d (x :: r) ys w (Nat.le_refl _) (Nat.le_refl _) (by omega) (by omega) (cell _ _ _ hx) (cell _ _ _ hy)).mono ?_
      rintro e w' ⟨rfl, q, rfl⟩
      rw [List.take_length, List.take_length]
      exact ⟨rfl, below_drewN (Below.refl _ _) _⟩
  · refine (Tryd.slices_Equal_string_lens A A2 xs.length c ys.length d w hne).mono ?_
    rintro e w' ⟨rfl, rfl⟩
    exact ⟨by rw [decide_eq_false (fun h => hne (congrArg List.length h))], Below.refl _ _⟩
set_option maxRecDepth 100000 in
set_option maxHeartbeats 8000000 in
theorem fSame_any (p q : Prof) (A A2 : Option Addr) (c d : Nat) (w : World) (hp : ProfOk w w.heap.size A p) (hq : ProfOk w w.heap.size A2 q) (hl : p.types.length ≤ 1000) (hm : q.types.length ≤ 1000) :
    Calls Tryd.prog 18 #[p.v A c, q.v A2 d] w fun e w' => e = .returned (.bool (sameP p q)) ∧ Below w.heap.size w w' := by
  have hb0 : Below w.heap.size w ((w.alloc (.cells (p.cs A c) 24)).alloc (.cells (q.cs A2 d) 24)) := by repeat (first | with_reducible exact Below.refl _ _ | with_reducible assumption | with_reducible refine Below.drew ?_ | with_reducible refine Below.alloc ?_ (by first | omega | (simp; done) | (simp; omega)) _)
  have HB := Lib.hid hb0
  have HEq := Lib.hid (strEq_any p.types q.types A A2 c d _ (hp.now hb0).rd (hq.now hb0).rd hl hm)
  have HSm := Lib.hid (sameP_all p q)
  clear hp hq hb0
  go_enter Tryd.func18, Tryd.ntmps18
  go_wp2_with fail
  refine HEq.out.mono ?_
  rintro e w1 ⟨rfl, hb1⟩
  have HC1 := Lib.hid (fun j v (hv : (p.cs A c)[j]? = some v) => (hb1.cell (p := ⟨w.heap.size, j, none⟩) (by simp; omega)).trans ((boxAll2 w (p.cs A c) (q.cs A2 d) 24).1 j v hv))
  have HC2 := Lib.hid (fun j v (hv : (q.cs A2 d)[j]? = some v) => (hb1.cell (p := ⟨w.heap.size + 1, j, none⟩) (by simp)).trans ((boxAll2 w (p.cs A c) (q.cs A2 d) 24).2 j v hv))
  have HB1 := Lib.hid (HB.out.trans (hb1.mono HB.out.size))
  clear hb1
  obtain ⟨b12, hb12⟩ : ∃ x, x = decide (p.types = q.types) := ⟨_, rfl⟩
  rw [← hb12] at HSm ⊢
  clear hb12
  go_upto_region 2 with fail
  refine wp_region_list ?_
  simp only [List.cons_append, List.nil_append]
  refine wpList_val (v := ?_) rfl ?_ ?_
  rotate_left
  · go_simp
    try with_reducible rfl
  simp only [Act.put, List.setIfInBounds_toArray, List.set_cons_zero, List.set_cons_succ]
  refine wpList_val (v := ?_) rfl ?_ ?_
  rotate_left
  · go_simp
    try with_reducible rfl
  simp only [Act.put, List.setIfInBounds_toArray, List.set_cons_zero, List.set_cons_succ]
  refine wpList_opt (v := ?_) _ rfl (by rfl) (fun hq => ?_) ?_
  rotate_left
  · go_simp
    try with_reducible rfl
  simp only [Act.put, List.setIfInBounds_toArray, List.set_cons_zero, List.set_cons_succ]
  refine wpList_opt (v := ?_) _ rfl (by rfl) (fun hq => ?_) ?_
  rotate_left
  · have cc := HC1.out 0 _ rfl
    go_simp
    try with_reducible rfl
  simp only [Act.put, List.setIfInBounds_toArray, List.set_cons_zero, List.set_cons_succ]
  refine wpList_opt (v := ?_) _ rfl (by rfl) (fun hq => ?_) ?_
  rotate_left
  · go_simp
    try with_reducible rfl
  simp only [Act.put, List.setIfInBounds_toArray, List.set_cons_zero, List.set_cons_succ]
  refine wpList_opt (v := ?_) _ rfl (by rfl) (fun hq => ?_) ?_
  rotate_left
  · have cc := HC2.out 0 _ rfl
    go_simp
    try with_reducible rfl
  simp only [Act.put, List.setIfInBounds_toArray, List.set_cons_zero, List.set_cons_succ]
  refine wpList_opt (v := ?_) _ rfl (by rfl) (fun hq => ?_) ?_
  rotate_left
  · go_simp
    try with_reducible rfl
  simp only [Act.put, List.setIfInBounds_toArray, List.set_cons_zero, List.set_cons_succ]
  refine wpList_pick _ _ rfl rfl (by rfl) (by rfl) (fun q0 h0 => ?_)
  simp only [Act.put, List.setIfInBounds_toArray, List.set_cons_zero, List.set_cons_succ]
  refine wpList_val (v := ?_) rfl ?_ ?_
  rotate_left
  · go_simp
    try with_reducible rfl
  simp only [Act.put, List.setIfInBounds_toArray, List.set_cons_zero, List.set_cons_succ]
  refine wpList_opt (v := ?_) _ rfl (by rfl) (fun hq => ?_) ?_
  rotate_left
  · go_simp
    try with_reducible rfl
  simp only [Act.put, List.setIfInBounds_toArray, List.set_cons_zero, List.set_cons_succ]
  refine wpList_opt (v := ?_) _ rfl (by rfl) (fun hq => ?_) ?_
  rotate_left
  · have cc := HC1.out 1 _ rfl
    go_simp
    try with_reducible rfl
  simp only [Act.put, List.setIfInBounds_toArray, List.set_cons_zero, List.set_cons_succ]
  refine wpList_opt (v := ?_) _ rfl (by rfl) (fun hq => ?_) ?_
  rotate_left
  · go_simp
    try with_reducible rfl
  simp only [Act.put, List.setIfInBounds_toArray, List.set_cons_zero, List.set_cons_succ]
  refine wpList_opt (v := ?_) _ rfl (by rfl) (fun hq => ?_) ?_
  rotate_left
  · have cc := HC2.out 1 _ rfl
    go_simp
    try with_reducible rfl
  simp only [Act.put, List.setIfInBounds_toArray, List.set_cons_zero, List.set_cons_succ]
  refine wpList_opt (v := ?_) _ rfl (by rfl) (fun hq => ?_) ?_
  rotate_left
  · go_simp
    try with_reducible rfl
  simp only [Act.put, List.setIfInBounds_toArray, List.set_cons_zero, List.set_cons_succ]
  refine wpList_pick _ _ rfl rfl (by rfl) (by rfl) (fun q1 h1 => ?_)
  simp only [Act.put, List.setIfInBounds_toArray, List.set_cons_zero, List.set_cons_succ]
  refine wpList_val (v := ?_) rfl ?_ ?_
  rotate_left
  · go_simp
    try with_reducible rfl
  simp only [Act.put, List.setIfInBounds_toArray, List.set_cons_zero, List.set_cons_succ]
  refine wpList_opt (v := ?_) _ rfl (by rfl) (fun hq => ?_) ?_
  rotate_left
  · go_simp
    try with_reducible rfl
  simp only [Act.put, List.setIfInBounds_toArray, List.set_cons_zero, List.set_cons_succ]
  refine wpList_opt (v := ?_) _ rfl (by rfl) (fun hq => ?_) ?_
  rotate_left
  · have cc := HC1.out 2 _ rfl
    go_simp
    try with_reducible rfl
  simp only [Act.put, List.setIfInBounds_toArray, List.set_cons_zero, List.set_cons_succ]
  refine wpList_opt (v := ?_) _ rfl (by rfl) (fun hq => ?_) ?_
  rotate_left
  · go_simp
    try with_reducible rfl
  simp only [Act.put, List.setIfInBounds_toArray, List.set_cons_zero, List.set_cons_succ]
  refine wpList_opt (v := ?_) _ rfl (by rfl) (fun hq => ?_) ?_
  rotate_left
  · have cc := HC2.out 2 _ rfl
    go_simp
    try with_reducible rfl
  simp only [Act.put, List.setIfInBounds_toArray, List.set_cons_zero, List.set_cons_succ]
  refine wpList_opt (v := ?_) _ rfl (by rfl) (fun hq => ?_) ?_
  rotate_left
  · go_simp
    try with_reducible rfl
  simp only [Act.put, List.setIfInBounds_toArray, List.set_cons_zero, List.set_cons_succ]
  refine wpList_pick _ _ rfl rfl (by rfl) (by rfl) (fun q2 h2 => ?_)
  simp only [Act.put, List.setIfInBounds_toArray, List.set_cons_zero, List.set_cons_succ]
  refine wpList_val (v := ?_) rfl ?_ ?_
  rotate_left
  · go_simp
    try with_reducible rfl
  simp only [Act.put, List.setIfInBounds_toArray, List.set_cons_zero, List.set_cons_succ]
  refine wpList_opt (v := ?_) _ rfl (by rfl) (fun hq => ?_) ?_
  rotate_left
  · go_simp
    try with_reducible rfl
  simp only [Act.put, List.setIfInBounds_toArray, List.set_cons_zero, List.set_cons_succ]
  refine wpList_opt (v := ?_) _ rfl (by rfl) (fun hq => ?_) ?_
  rotate_left
  · have cc := HC1.out 3 _ rfl
    go_simp
    try with_reducible rfl
  simp only [Act.put, List.setIfInBounds_toArray, List.set_cons_zero, List.set_cons_succ]
  refine wpList_opt (v := ?_) _ rfl (by rfl) (fun hq => ?_) ?_
  rotate_left
  · go_simp
    try with_reducible rfl
  simp only [Act.put, List.setIfInBounds_toArray, List.set_cons_zero, List.set_cons_succ]
  refine wpList_opt (v := ?_) _ rfl (by rfl) (fun hq => ?_) ?_
  rotate_left
  · have cc := HC2.out 3 _ rfl
    go_simp
    try with_reducible rfl
  simp only [Act.put, List.setIfInBounds_toArray, List.set_cons_zero, List.set_cons_succ]
  refine wpList_opt (v := ?_) _ rfl (by rfl) (fun hq => ?_) ?_
  rotate_left
  · go_simp
    try with_reducible rfl
  simp only [Act.put, List.setIfInBounds_toArray, List.set_cons_zero, List.set_cons_succ]
  refine wpList_pick _ _ rfl rfl (by rfl) (by rfl) (fun q3 h3 => ?_)
  simp only [Act.put, List.setIfInBounds_toArray, List.set_cons_zero, List.set_cons_succ]
  refine wpList_val (v := ?_) rfl ?_ ?_
  rotate_left
  · go_simp
    try with_reducible rfl
  simp only [Act.put, List.setIfInBounds_toArray, List.set_cons_zero, List.set_cons_succ]
  refine wpList_opt (v := ?_) _ rfl (by rfl) (fun hq => ?_) ?_
  rotate_left
  · go_simp
    try with_reducible rfl
  simp only [Act.put, List.setIfInBounds_toArray, List.set_cons_zero, List.set_cons_succ]
  refine wpList_opt (v := ?_) _ rfl (by rfl) (fun hq => ?_) ?_
  rotate_left
  · have cc := HC1.out 4 _ rfl
    go_simp
    try with_reducible rfl
  simp only [Act.put, List.setIfInBounds_toArray, List.set_cons_zero, List.set_cons_succ]
  refine wpList_opt (v := ?_) _ rfl (by rfl) (fun hq => ?_) ?_
  rotate_left
  · go_simp
    try with_reducible rfl
  simp only [Act.put, List.setIfInBounds_toArray, List.set_cons_zero, List.set_cons_succ]
  refine wpList_opt (v := ?_) _ rfl (by rfl) (fun hq => ?_) ?_
  rotate_left
  · have cc := HC2.out 4 _ rfl
    go_simp
    try with_reducible rfl
  simp only [Act.put, List.setIfInBounds_toArray, List.set_cons_zero, List.set_cons_succ]
  refine wpList_opt (v := ?_) _ rfl (by rfl) (fun hq => ?_) ?_
  rotate_left
  · go_simp
    try with_reducible rfl
  simp only [Act.put, List.setIfInBounds_toArray, List.set_cons_zero, List.set_cons_succ]
  refine wpList_pick _ _ rfl rfl (by rfl) (by rfl) (fun q4 h4 => ?_)
  simp only [Act.put, List.setIfInBounds_toArray, List.set_cons_zero, List.set_cons_succ]
  refine wpList_val (v := ?_) rfl ?_ ?_
  rotate_left
  · go_simp
    try with_reducible rfl
  simp only [Act.put, List.setIfInBounds_toArray, List.set_cons_zero, List.set_cons_succ]
  refine wpList_opt (v := ?_) _ rfl (by rfl) (fun hq => ?_) ?_
  rotate_left
  · go_simp
    try with_reducible rfl
  simp only [Act.put, List.setIfInBounds_toArray, List.set_cons_zero, List.set_cons_succ]
  refine wpList_opt (v := ?_) _ rfl (by rfl) (fun hq => ?_) ?_
  rotate_left
  · have cc := HC1.out 5 _ rfl
    go_simp
    try with_reducible rfl
  simp only [Act.put, List.setIfInBounds_toArray, List.set_cons_zero, List.set_cons_succ]
  refine wpList_opt (v := ?_) _ rfl (by rfl) (fun hq => ?_) ?_
  rotate_left
  · go_simp
    try with_reducible rfl
  simp only [Act.put, List.setIfInBounds_toArray, List.set_cons_zero, List.set_cons_succ]
  refine wpList_opt (v := ?_) _ rfl (by rfl) (fun hq => ?_) ?_
  rotate_left
  · have cc := HC2.out 5 _ rfl
    go_simp
    try with_reducible rfl
  simp only [Act.put, List.setIfInBounds_toArray, List.set_cons_zero, List.set_cons_succ]
  refine wpList_opt (v := ?_) _ rfl (by rfl) (fun hq => ?_) ?_
  rotate_left
  · go_simp
    try with_reducible rfl
  simp only [Act.put, List.setIfInBounds_toArray, List.set_cons_zero, List.set_cons_succ]
  refine wpList_pick _ _ rfl rfl (by rfl) (by rfl) (fun q5 h5 => ?_)
  simp only [Act.put, List.setIfInBounds_toArray, List.set_cons_zero, List.set_cons_succ]
  refine wpList_val (v := ?_) rfl ?_ ?_
  rotate_left
  · go_simp
    try with_reducible rfl
  simp only [Act.put, List.setIfInBounds_toArray, List.set_cons_zero, List.set_cons_succ]
  refine wpList_opt (v := ?_) _ rfl (by rfl) (fun hq => ?_) ?_
  rotate_left
  · go_simp
    try with_reducible rfl
  simp only [Act.put, List.setIfInBounds_toArray, List.set_cons_zero, List.set_cons_succ]
  refine wpList_opt (v := ?_) _ rfl (by rfl) (fun hq => ?_) ?_
  rotate_left
  · have cc := HC1.out 6 _ rfl
    go_simp
    try with_reducible rfl
  simp only [Act.put, List.setIfInBounds_toArray, List.set_cons_zero, List.set_cons_succ]
  refine wpList_opt (v := ?_) _ rfl (by rfl) (fun hq => ?_) ?_
  rotate_left
  · go_simp
    try with_reducible rfl
  simp only [Act.put, List.setIfInBounds_toArray, List.set_cons_zero, List.set_cons_succ]
  refine wpList_opt (v := ?_) _ rfl (by rfl) (fun hq => ?_) ?_
  rotate_left
  · have cc := HC2.out 6 _ rfl
    go_simp
    try with_reducible rfl
  simp only [Act.put, List.setIfInBounds_toArray, List.set_cons_zero, List.set_cons_succ]
  refine wpList_opt (v := ?_) _ rfl (by rfl) (fun hq => ?_) ?_
  rotate_left
  · go_simp
    try with_reducible rfl
  simp only [Act.put, List.setIfInBounds_toArray, List.set_cons_zero, List.set_cons_succ]
  refine wpList_pick _ _ rfl rfl (by rfl) (by rfl) (fun q6 h6 => ?_)
  simp only [Act.put, List.setIfInBounds_toArray, List.set_cons_zero, List.set_cons_succ]
  refine wpList_val (v := ?_) rfl ?_ ?_
  rotate_left
  · go_simp
    try with_reducible rfl
  simp only [Act.put, List.setIfInBounds_toArray, List.set_cons_zero, List.set_cons_succ]
  refine wpList_opt (v := ?_) _ rfl (by rfl) (fun hq => ?_) ?_
  rotate_left
  · go_simp
    try with_reducible rfl
  simp only [Act.put, List.setIfInBounds_toArray, List.set_cons_zero, List.set_cons_succ]
  refine wpList_opt (v := ?_) _ rfl (by rfl) (fun hq => ?_) ?_
  rotate_left
  · have cc := HC1.out 7 _ rfl
    go_simp
    try with_reducible rfl
  simp only [Act.put, List.setIfInBounds_toArray, List.set_cons_zero, List.set_cons_succ]
  refine wpList_opt (v := ?_) _ rfl (by rfl) (fun hq => ?_) ?_
  rotate_left
  · go_simp
    try with_reducible rfl
  simp only [Act.put, List.setIfInBounds_toArray, List.set_cons_zero, List.set_cons_succ]
  refine wpList_opt (v := ?_) _ rfl (by rfl) (fun hq => ?_) ?_
  rotate_left
  · have cc := HC2.out 7 _ rfl
    go_simp
    try with_reducible rfl
  simp only [Act.put, List.setIfInBounds_toArray, List.set_cons_zero, List.set_cons_succ]
  refine wpList_opt (v := ?_) _ rfl (by rfl) (fun hq => ?_) ?_
  rotate_left
  · go_simp
    try with_reducible rfl
  simp only [Act.put, List.setIfInBounds_toArray, List.set_cons_zero, List.set_cons_succ]
  refine wpList_pick _ _ rfl rfl (by rfl) (by rfl) (fun q7 h7 => ?_)
  simp only [Act.put, List.setIfInBounds_toArray, List.set_cons_zero, List.set_cons_succ]
  refine wpList_val (v := ?_) rfl ?_ ?_
  rotate_left
  · go_simp
    try with_reducible rfl
  simp only [Act.put, List.setIfInBounds_toArray, List.set_cons_zero, List.set_cons_succ]
  refine wpList_opt (v := ?_) _ rfl (by rfl) (fun hq => ?_) ?_
  rotate_left
  · go_simp
    try with_reducible rfl
  simp only [Act.put, List.setIfInBounds_toArray, List.set_cons_zero, List.set_cons_succ]
  refine wpList_opt (v := ?_) _ rfl (by rfl) (fun hq => ?_) ?_
  rotate_left
  · have cc := HC1.out 8 _ rfl
    go_simp
    try with_reducible rfl
  simp only [Act.put, List.setIfInBounds_toArray, List.set_cons_zero, List.set_cons_succ]
  refine wpList_opt (v := ?_) _ rfl (by rfl) (fun hq => ?_) ?_
  rotate_left
  · go_simp
    try with_reducible rfl
  simp only [Act.put, List.setIfInBounds_toArray, List.set_cons_zero, List.set_cons_succ]
  refine wpList_opt (v := ?_) _ rfl (by rfl) (fun hq => ?_) ?_
  rotate_left
  · have cc := HC2.out 8 _ rfl
    go_simp
    try with_reducible rfl
  simp only [Act.put, List.setIfInBounds_toArray, List.set_cons_zero, List.set_cons_succ]
  refine wpList_opt (v := ?_) _ rfl (by rfl) (fun hq => ?_) ?_
  rotate_left
  · go_simp
    try with_reducible rfl
  simp only [Act.put, List.setIfInBounds_toArray, List.set_cons_zero, List.set_cons_succ]
  refine wpList_pick _ _ rfl rfl (by rfl) (by rfl) (fun q8 h8 => ?_)
  simp only [Act.put, List.setIfInBounds_toArray, List.set_cons_zero, List.set_cons_succ]
  refine wpList_val (v := ?_) rfl ?_ ?_
  rotate_left
  · go_simp
    try with_reducible rfl
  simp only [Act.put, List.setIfInBounds_toArray, List.set_cons_zero, List.set_cons_succ]
  refine wpList_opt (v := ?_) _ rfl (by rfl) (fun hq => ?_) ?_
  rotate_left
  · go_simp
    try with_reducible rfl
  simp only [Act.put, List.setIfInBounds_toArray, List.set_cons_zero, List.set_cons_succ]
  refine wpList_opt (v := ?_) _ rfl (by rfl) (fun hq => ?_) ?_
  rotate_left
  · have cc := HC1.out 9 _ rfl
    go_simp
    try with_reducible rfl
  simp only [Act.put, List.setIfInBounds_toArray, List.set_cons_zero, List.set_cons_succ]
  refine wpList_opt (v := ?_) _ rfl (by rfl) (fun hq => ?_) ?_
  rotate_left
  · go_simp
    try with_reducible rfl
  simp only [Act.put, List.setIfInBounds_toArray, List.set_cons_zero, List.set_cons_succ]
  refine wpList_opt (v := ?_) _ rfl (by rfl) (fun hq => ?_) ?_
  rotate_left
  · have cc := HC2.out 9 _ rfl
    go_simp
    try with_reducible rfl
  simp only [Act.put, List.setIfInBounds_toArray, List.set_cons_zero, List.set_cons_succ]
  refine wpList_opt (v := ?_) _ rfl (by rfl) (fun hq => ?_) ?_
  rotate_left
  · go_simp
    try with_reducible rfl
  simp only [Act.put, List.setIfInBounds_toArray, List.set_cons_zero, List.set_cons_succ]
  refine wpList_pick _ _ rfl rfl (by rfl) (by rfl) (fun q9 h9 => ?_)
  simp only [Act.put, List.setIfInBounds_toArray, List.set_cons_zero, List.set_cons_succ]
  refine wpList_val (v := ?_) rfl ?_ ?_
  rotate_left
  · go_simp
    try with_reducible rfl
  simp only [Act.put, List.setIfInBounds_toArray, List.set_cons_zero, List.set_cons_succ]
  refine wpList_opt (v := ?_) _ rfl (by rfl) (fun hq => ?_) ?_
  rotate_left
  · go_simp
    try with_reducible rfl
  simp only [Act.put, List.setIfInBounds_toArray, List.set_cons_zero, List.set_cons_succ]
  refine wpList_opt (v := ?_) _ rfl (by rfl) (fun hq => ?_) ?_
  rotate_left
  · have cc := HC1.out 10 _ rfl
    go_simp
    try with_reducible rfl
  simp only [Act.put, List.setIfInBounds_toArray, List.set_cons_zero, List.set_cons_succ]
  refine wpList_opt (v := ?_) _ rfl (by rfl) (fun hq => ?_) ?_
  rotate_left
  · go_simp
    try with_reducible rfl
  simp only [Act.put, List.setIfInBounds_toArray, List.set_cons_zero, List.set_cons_succ]
  refine wpList_opt (v := ?_) _ rfl (by rfl) (fun hq => ?_) ?_
  rotate_left
  · have cc := HC2.out 10 _ rfl
    go_simp
    try with_reducible rfl
  simp only [Act.put, List.setIfInBounds_toArray, List.set_cons_zero, List.set_cons_succ]
  refine wpList_opt (v := ?_) _ rfl (by rfl) (fun hq => ?_) ?_
  rotate_left
  · go_simp
    try with_reducible rfl
  simp only [Act.put, List.setIfInBounds_toArray, List.set_cons_zero, List.set_cons_succ]
  refine wpList_pick _ _ rfl rfl (by rfl) (by rfl) (fun q10 h10 => ?_)
  simp only [Act.put, List.setIfInBounds_toArray, List.set_cons_zero, List.set_cons_succ]
  refine wpList_val (v := ?_) rfl ?_ ?_
  rotate_left
  · go_simp
    try with_reducible rfl
  simp only [Act.put, List.setIfInBounds_toArray, List.set_cons_zero, List.set_cons_succ]
  refine wpList_opt (v := ?_) _ rfl (by rfl) (fun hq => ?_) ?_
  rotate_left
  · go_simp
    try with_reducible rfl
  simp only [Act.put, List.setIfInBounds_toArray, List.set_cons_zero, List.set_cons_succ]
  refine wpList_opt (v := ?_) _ rfl (by rfl) (fun hq => ?_) ?_
  rotate_left
  · have cc := HC1.out 11 _ rfl
    go_simp
    try with_reducible rfl
  simp only [Act.put, List.setIfInBounds_toArray, List.set_cons_zero, List.set_cons_succ]
  refine wpList_opt (v := ?_) _ rfl (by rfl) (fun hq => ?_) ?_
  rotate_left
  · go_simp
    try with_reducible rfl
  simp only [Act.put, List.setIfInBounds_toArray, List.set_cons_zero, List.set_cons_succ]
  refine wpList_opt (v := ?_) _ rfl (by rfl) (fun hq => ?_) ?_
  rotate_left
  · have cc := HC2.out 11 _ rfl
    go_simp
    try with_reducible rfl
  simp only [Act.put, List.setIfInBounds_toArray, List.set_cons_zero, List.set_cons_succ]
  refine wpList_opt (v := ?_) _ rfl (by rfl) (fun hq => ?_) ?_
  rotate_left
  · go_simp
    try with_reducible rfl
  simp only [Act.put, List.setIfInBounds_toArray, List.set_cons_zero, List.set_cons_succ]
  refine wpList_pick _ _ rfl rfl (by rfl) (by rfl) (fun q11 h11 => ?_)
  simp only [Act.put, List.setIfInBounds_toArray, List.set_cons_zero, List.set_cons_succ]
  refine wpList_val (v := ?_) rfl ?_ ?_
  rotate_left
  · go_simp
    try with_reducible rfl
  simp only [Act.put, List.setIfInBounds_toArray, List.set_cons_zero, List.set_cons_succ]
  refine wpList_opt (v := ?_) _ rfl (by rfl) (fun hq => ?_) ?_
  rotate_left
  · go_simp
    try with_reducible rfl
  simp only [Act.put, List.setIfInBounds_toArray, List.set_cons_zero, List.set_cons_succ]
  refine wpList_opt (v := ?_) _ rfl (by rfl) (fun hq => ?_) ?_
  rotate_left
  · have cc := HC1.out 13 _ rfl
    go_simp
    try with_reducible rfl
  simp only [Act.put, List.setIfInBounds_toArray, List.set_cons_zero, List.set_cons_succ]
  refine wpList_opt (v := ?_) _ rfl (by rfl) (fun hq => ?_) ?_
  rotate_left
  · go_simp
    try with_reducible rfl
  simp only [Act.put, List.setIfInBounds_toArray, List.set_cons_zero, List.set_cons_succ]
  refine wpList_opt (v := ?_) _ rfl (by rfl) (fun hq => ?_) ?_
  rotate_left
  · have cc := HC2.out 13 _ rfl
    go_simp
    try with_reducible rfl
  simp only [Act.put, List.setIfInBounds_toArray, List.set_cons_zero, List.set_cons_succ]
  refine wpList_opt (v := ?_) _ rfl (by rfl) (fun hq => ?_) ?_
  rotate_left
  · go_simp
    try with_reducible rfl
  simp only [Act.put, List.setIfInBounds_toArray, List.set_cons_zero, List.set_cons_succ]
  refine wpList_pick _ _ rfl rfl (by rfl) (by rfl) (fun q12 h12 => ?_)
  simp only [Act.put, List.setIfInBounds_toArray, List.set_cons_zero, List.set_cons_succ]
  refine wpList_val (v := ?_) rfl ?_ ?_
  rotate_left
  · go_simp
    try with_reducible rfl
  simp only [Act.put, List.setIfInBounds_toArray, List.set_cons_zero, List.set_cons_succ]
  refine wpList_opt (v := ?_) _ rfl (by rfl) (fun hq => ?_) ?_
  rotate_left
  · go_simp
    try with_reducible rfl
  simp only [Act.put, List.setIfInBounds_toArray, List.set_cons_zero, List.set_cons_succ]
  refine wpList_opt (v := ?_) _ rfl (by rfl) (fun hq => ?_) ?_
  rotate_left
  · have cc := HC1.out 14 _ rfl
    go_simp
    try with_reducible rfl
  simp only [Act.put, List.setIfInBounds_toArray, List.set_cons_zero, List.set_cons_succ]
  refine wpList_opt (v := ?_) _ rfl (by rfl) (fun hq => ?_) ?_
  rotate_left
  · go_simp
    try with_reducible rfl
  simp only [Act.put, List.setIfInBounds_toArray, List.set_cons_zero, List.set_cons_succ]
  refine wpList_opt (v := ?_) _ rfl (by rfl) (fun hq => ?_) ?_
  rotate_left
  · have cc := HC2.out 14 _ rfl
    go_simp
    try with_reducible rfl
  simp only [Act.put, List.setIfInBounds_toArray, List.set_cons_zero, List.set_cons_succ]
  refine wpList_opt (v := ?_) _ rfl (by rfl) (fun hq => ?_) ?_
  rotate_left
  · go_simp
    try with_reducible rfl
  simp only [Act.put, List.setIfInBounds_toArray, List.set_cons_zero, List.set_cons_succ]
  refine wpList_pick _ _ rfl rfl (by rfl) (by rfl) (fun q13 h13 => ?_)
  simp only [Act.put, List.setIfInBounds_toArray, List.set_cons_zero, List.set_cons_succ]
  refine wpList_val (v := ?_) rfl ?_ ?_
  rotate_left
  · go_simp
    try with_reducible rfl
  simp only [Act.put, List.setIfInBounds_toArray, List.set_cons_zero, List.set_cons_succ]
  refine wpList_opt (v := ?_) _ rfl (by rfl) (fun hq => ?_) ?_
  rotate_left
  · go_simp
    try with_reducible rfl
  simp only [Act.put, List.setIfInBounds_toArray, List.set_cons_zero, List.set_cons_succ]
  refine wpList_opt (v := ?_) _ rfl (by rfl) (fun hq => ?_) ?_
  rotate_left
  · have cc := HC1.out 15 _ rfl
    go_simp
    try with_reducible rfl
  simp only [Act.put, List.setIfInBounds_toArray, List.set_cons_zero, List.set_cons_succ]
  refine wpList_opt (v := ?_) _ rfl (by rfl) (fun hq => ?_) ?_
  rotate_left
  · go_simp
    try with_reducible rfl
  simp only [Act.put, List.setIfInBounds_toArray, List.set_cons_zero, List.set_cons_succ]
  refine wpList_opt (v := ?_) _ rfl (by rfl) (fun hq => ?_) ?_
  rotate_left
  · have cc := HC2.out 15 _ rfl
    go_simp
    try with_reducible rfl
  simp only [Act.put, List.setIfInBounds_toArray, List.set_cons_zero, List.set_cons_succ]
  refine wpList_opt (v := ?_) _ rfl (by rfl) (fun hq => ?_) ?_
  rotate_left
  · go_simp
    try with_reducible rfl
  simp only [Act.put, List.setIfInBounds_toArray, List.set_cons_zero, List.set_cons_succ]
  refine wpList_pick _ _ rfl rfl (by rfl) (by rfl) (fun q14 h14 => ?_)
  simp only [Act.put, List.setIfInBounds_toArray, List.set_cons_zero, List.set_cons_succ]
  refine wpList_val (v := ?_) rfl ?_ ?_
  rotate_left
  · go_simp
    try with_reducible rfl
  simp only [Act.put, List.setIfInBounds_toArray, List.set_cons_zero, List.set_cons_succ]
  refine wpList_opt (v := ?_) _ rfl (by rfl) (fun hq => ?_) ?_
  rotate_left
  · go_simp
    try with_reducible rfl
  simp only [Act.put, List.setIfInBounds_toArray, List.set_cons_zero, List.set_cons_succ]
  refine wpList_opt (v := ?_) _ rfl (by rfl) (fun hq => ?_) ?_
  rotate_left
  · have cc := HC1.out 16 _ rfl
    go_simp
    try with_reducible rfl
  simp only [Act.put, List.setIfInBounds_toArray, List.set_cons_zero, List.set_cons_succ]
  refine wpList_opt (v := ?_) _ rfl (by rfl) (fun hq => ?_) ?_
  rotate_left
  · go_simp
    try with_reducible rfl
  simp only [Act.put, List.setIfInBounds_toArray, List.set_cons_zero, List.set_cons_succ]
  refine wpList_opt (v := ?_) _ rfl (by rfl) (fun hq => ?_) ?_
  rotate_left
  · have cc := HC2.out 16 _ rfl
    go_simp
    try with_reducible rfl
  simp only [Act.put, List.setIfInBounds_toArray, List.set_cons_zero, List.set_cons_succ]
  refine wpList_opt (v := ?_) _ rfl (by rfl) (fun hq => ?_) ?_
  rotate_left
  · go_simp
    try with_reducible rfl
  simp only [Act.put, List.setIfInBounds_toArray, List.set_cons_zero, List.set_cons_succ]
  refine wpList_pick _ _ rfl rfl (by rfl) (by rfl) (fun q15 h15 => ?_)
  simp only [Act.put, List.setIfInBounds_toArray, List.set_cons_zero, List.set_cons_succ]
  refine wpList_val (v := ?_) rfl ?_ ?_
  rotate_left
  · go_simp
    try with_reducible rfl
  simp only [Act.put, List.setIfInBounds_toArray, List.set_cons_zero, List.set_cons_succ]
  refine wpList_opt (v := ?_) _ rfl (by rfl) (fun hq => ?_) ?_
  rotate_left
  · go_simp
    try with_reducible rfl
  simp only [Act.put, List.setIfInBounds_toArray, List.set_cons_zero, List.set_cons_succ]
  refine wpList_opt (v := ?_) _ rfl (by rfl) (fun hq => ?_) ?_
  rotate_left
  · have cc := HC1.out 17 _ rfl
    go_simp
    try with_reducible rfl
  simp only [Act.put, List.setIfInBounds_toArray, List.set_cons_zero, List.set_cons_succ]
  refine wpList_opt (v := ?_) _ rfl (by rfl) (fun hq => ?_) ?_
  rotate_left
  · go_simp
    try with_reducible rfl
  simp only [Act.put, List.setIfInBounds_toArray, List.set_cons_zero, List.set_cons_succ]
  refine wpList_opt (v := ?_) _ rfl (by rfl) (fun hq => ?_) ?_
  rotate_left
  · have cc := HC2.out 17 _ rfl
    go_simp
    try with_reducible rfl
  simp only [Act.put, List.setIfInBounds_toArray, List.set_cons_zero, List.set_cons_succ]
  refine wpList_opt (v := ?_) _ rfl (by rfl) (fun hq => ?_) ?_
  rotate_left
  · go_simp
    try with_reducible rfl
  simp only [Act.put, List.setIfInBounds_toArray, List.set_cons_zero, List.set_cons_succ]
  refine wpList_pick _ _ rfl rfl (by rfl) (by rfl) (fun q16 h16 => ?_)
  simp only [Act.put, List.setIfInBounds_toArray, List.set_cons_zero, List.set_cons_succ]
  refine wpList_val (v := ?_) rfl ?_ ?_
  rotate_left
  · go_simp
    try with_reducible rfl
  simp only [Act.put, List.setIfInBounds_toArray, List.set_cons_zero, List.set_cons_succ]
  refine wpList_opt (v := ?_) _ rfl (by rfl) (fun hq => ?_) ?_
  rotate_left
  · go_simp
    try with_reducible rfl
  simp only [Act.put, List.setIfInBounds_toArray, List.set_cons_zero, List.set_cons_succ]
  refine wpList_opt (v := ?_) _ rfl (by rfl) (fun hq => ?_) ?_
  rotate_left
  · have cc := HC1.out 18 _ rfl
    go_simp
    try with_reducible rfl
  simp only [Act.put, List.setIfInBounds_toArray, List.set_cons_zero, List.set_cons_succ]
  refine wpList_opt (v := ?_) _ rfl (by rfl) (fun hq => ?_) ?_
  rotate_left
  · go_simp
    try with_reducible rfl
  simp only [Act.put, List.setIfInBounds_toArray, List.set_cons_zero, List.set_cons_succ]
  refine wpList_opt (v := ?_) _ rfl (by rfl) (fun hq => ?_) ?_
  rotate_left
  · have cc := HC2.out 18 _ rfl
    go_simp
    try with_reducible rfl
  simp only [Act.put, List.setIfInBounds_toArray, List.set_cons_zero, List.set_cons_succ]
  refine wpList_opt (v := ?_) _ rfl (by rfl) (fun hq => ?_) ?_
  rotate_left
  · go_simp
    try with_reducible rfl
  simp only [Act.put, List.setIfInBounds_toArray, List.set_cons_zero, List.set_cons_succ]
  refine wpList_pick _ _ rfl rfl (by rfl) (by rfl) (fun q17 h17 => ?_)
  simp only [Act.put, List.setIfInBounds_toArray, List.set_cons_zero, List.set_cons_succ]
  refine wpList_val (v := ?_) rfl ?_ ?_
  rotate_left
  · go_simp
    try with_reducible rfl
  simp only [Act.put, List.setIfInBounds_toArray, List.set_cons_zero, List.set_cons_succ]
  refine wpList_opt (v := ?_) _ rfl (by rfl) (fun hq => ?_) ?_
  rotate_left
  · go_simp
    try with_reducible rfl
  simp only [Act.put, List.setIfInBounds_toArray, List.set_cons_zero, List.set_cons_succ]
  refine wpList_opt (v := ?_) _ rfl (by rfl) (fun hq => ?_) ?_
  rotate_left
  · have cc := HC1.out 19 _ rfl
    go_simp
    try with_reducible rfl
  simp only [Act.put, List.setIfInBounds_toArray, List.set_cons_zero, List.set_cons_succ]
  refine wpList_opt (v := ?_) _ rfl (by rfl) (fun hq => ?_) ?_
  rotate_left
  · go_simp
    try with_reducible rfl
  simp only [Act.put, List.setIfInBounds_toArray, List.set_cons_zero, List.set_cons_succ]
  refine wpList_opt (v := ?_) _ rfl (by rfl) (fun hq => ?_) ?_
  rotate_left
  · have cc := HC2.out 19 _ rfl
    go_simp
    try with_reducible rfl
  simp only [Act.put, List.setIfInBounds_toArray, List.set_cons_zero, List.set_cons_succ]
  refine wpList_opt (v := ?_) _ rfl (by rfl) (fun hq => ?_) ?_
  rotate_left
  · go_simp
    try with_reducible rfl
  simp only [Act.put, List.setIfInBounds_toArray, List.set_cons_zero, List.set_cons_succ]
  refine wpList_pick _ _ rfl rfl (by rfl) (by rfl) (fun q18 h18 => ?_)
  simp only [Act.put, List.setIfInBounds_toArray, List.set_cons_zero, List.set_cons_succ]
  refine wpList_val (v := ?_) rfl ?_ ?_
  rotate_left
  · go_simp
    try with_reducible rfl
  simp only [Act.put, List.setIfInBounds_toArray, List.set_cons_zero, List.set_cons_succ]
  refine wpList_opt (v := ?_) _ rfl (by rfl) (fun hq => ?_) ?_
  rotate_left
  · go_simp
    try with_reducible rfl
  simp only [Act.put, List.setIfInBounds_toArray, List.set_cons_zero, List.set_cons_succ]
  refine wpList_opt (v := ?_) _ rfl (by rfl) (fun hq => ?_) ?_
  rotate_left
  · have cc := HC1.out 20 _ rfl
    go_simp
    try with_reducible rfl
  simp only [Act.put, List.setIfInBounds_toArray, List.set_cons_zero, List.set_cons_succ]
  refine wpList_opt (v := ?_) _ rfl (by rfl) (fun hq => ?_) ?_
  rotate_left
  · go_simp
    try with_reducible rfl
  simp only [Act.put, List.setIfInBounds_toArray, List.set_cons_zero, List.set_cons_succ]
  refine wpList_opt (v := ?_) _ rfl (by rfl) (fun hq => ?_) ?_
  rotate_left
  · have cc := HC2.out 20 _ rfl
    go_simp
    try with_reducible rfl
  simp only [Act.put, List.setIfInBounds_toArray, List.set_cons_zero, List.set_cons_succ]
  refine wpList_opt (v := ?_) _ rfl (by rfl) (fun hq => ?_) ?_
  rotate_left
  · go_simp
    try with_reducible rfl
  simp only [Act.put, List.setIfInBounds_toArray, List.set_cons_zero, List.set_cons_succ]
  refine wpList_pick _ _ rfl rfl (by rfl) (by rfl) (fun q19 h19 => ?_)
  simp only [Act.put, List.setIfInBounds_toArray, List.set_cons_zero, List.set_cons_succ]
  refine wpList_val (v := ?_) rfl ?_ ?_
  rotate_left
  · go_simp
    try with_reducible rfl
  simp only [Act.put, List.setIfInBounds_toArray, List.set_cons_zero, List.set_cons_succ]
  refine wpList_opt (v := ?_) _ rfl (by rfl) (fun hq => ?_) ?_
  rotate_left
  · go_simp
    try with_reducible rfl
  simp only [Act.put, List.setIfInBounds_toArray, List.set_cons_zero, List.set_cons_succ]
  refine wpList_opt (v := ?_) _ rfl (by rfl) (fun hq => ?_) ?_
  rotate_left
  · have cc := HC1.out 21 _ rfl
    go_simp
    try with_reducible rfl
  simp only [Act.put, List.setIfInBounds_toArray, List.set_cons_zero, List.set_cons_succ]
  refine wpList_opt (v := ?_) _ rfl (by rfl) (fun hq => ?_) ?_
  rotate_left
  · go_simp
    try with_reducible rfl
  simp only [Act.put, List.setIfInBounds_toArray, List.set_cons_zero, List.set_cons_succ]
  refine wpList_opt (v := ?_) _ rfl (by rfl) (fun hq => ?_) ?_
  rotate_left
  · have cc := HC2.out 21 _ rfl
    go_simp
    try with_reducible rfl
  simp only [Act.put, List.setIfInBounds_toArray, List.set_cons_zero, List.set_cons_succ]
  refine wpList_opt (v := ?_) _ rfl (by rfl) (fun hq => ?_) ?_
  rotate_left
  · go_simp
    try with_reducible rfl
  simp only [Act.put, List.setIfInBounds_toArray, List.set_cons_zero, List.set_cons_succ]
  refine wpList_pick _ _ rfl rfl (by rfl) (by rfl) (fun q20 h20 => ?_)
  simp only [Act.put, List.setIfInBounds_toArray, List.set_cons_zero, List.set_cons_succ]
  refine wpList_val (v := ?_) rfl ?_ ?_
  rotate_left
  · go_simp
    try with_reducible rfl
  simp only [Act.put, List.setIfInBounds_toArray, List.set_cons_zero, List.set_cons_succ]
  rename_i K hK
  show K _ _
  refine hK _ _ ?_
  generalize (if b12 = true then Value.pointer (some ⟨w.heap.size, 0, none⟩) else undef) = u
  generalize (if b12 = true then Value.string p.name else undef) = u
  generalize (if b12 = true then Value.pointer (some ⟨w.heap.size + 1, 0, none⟩) else undef) = u
  generalize (if b12 = true then Value.string q.name else undef) = u
  generalize (if b12 = true then Value.bool (p.name.toList == q.name.toList) else undef) = u
  generalize (if q0 = true then Value.pointer (some ⟨w.heap.size, 1, none⟩) else undef) = u
  generalize (if q0 = true then Value.int .i64 p.edit else undef) = u
  generalize (if q0 = true then Value.pointer (some ⟨w.heap.size + 1, 1, none⟩) else undef) = u
  generalize (if q0 = true then Value.int .i64 q.edit else undef) = u
  generalize (if q0 = true then Value.bool (p.edit == q.edit) else undef) = u
  generalize (if q1 = true then Value.pointer (some ⟨w.heap.size, 2, none⟩) else undef) = u
  generalize (if q1 = true then Value.int .i64 p.within_ else undef) = u
  generalize (if q1 = true then Value.pointer (some ⟨w.heap.size + 1, 2, none⟩) else undef) = u
  generalize (if q1 = true then Value.int .i64 q.within_ else undef) = u
  generalize (if q1 = true then Value.bool (p.within_ == q.within_) else undef) = u
  generalize (if q2 = true then Value.pointer (some ⟨w.heap.size, 3, none⟩) else undef) = u
  generalize (if q2 = true then Value.int .i64 p.delete else undef) = u
  generalize (if q2 = true then Value.pointer (some ⟨w.heap.size + 1, 3, none⟩) else undef) = u
  generalize (if q2 = true then Value.int .i64 q.delete else undef) = u
  generalize (if q2 = true then Value.bool (p.delete == q.delete) else undef) = u
  generalize (if q3 = true then Value.pointer (some ⟨w.heap.size, 4, none⟩) else undef) = u
  generalize (if q3 = true then Value.bool p.react else undef) = u
  generalize (if q3 = true then Value.pointer (some ⟨w.heap.size + 1, 4, none⟩) else undef) = u
  generalize (if q3 = true then Value.bool q.react else undef) = u
  generalize (if q3 = true then Value.bool (p.react == q.react) else undef) = u
  generalize (if q4 = true then Value.pointer (some ⟨w.heap.size, 5, none⟩) else undef) = u
  generalize (if q4 = true then Value.int .i64 p.thread else undef) = u
  generalize (if q4 = true then Value.pointer (some ⟨w.heap.size + 1, 5, none⟩) else undef) = u
  generalize (if q4 = true then Value.int .i64 q.thread else undef) = u
  generalize (if q4 = true then Value.bool (p.thread == q.thread) else undef) = u
  generalize (if q5 = true then Value.pointer (some ⟨w.heap.size, 6, none⟩) else undef) = u
  generalize (if q5 = true then Value.bool p.quote else undef) = u
  generalize (if q5 = true then Value.pointer (some ⟨w.heap.size + 1, 6, none⟩) else undef) = u
  generalize (if q5 = true then Value.bool q.quote else undef) = u
  generalize (if q5 = true then Value.bool (p.quote == q.quote) else undef) = u
  generalize (if q6 = true then Value.pointer (some ⟨w.heap.size, 7, none⟩) else undef) = u
  generalize (if q6 = true then Value.bool p.mention else undef) = u
  generalize (if q6 = true then Value.pointer (some ⟨w.heap.size + 1, 7, none⟩) else undef) = u
  generalize (if q6 = true then Value.bool q.mention else undef) = u
  generalize (if q6 = true then Value.bool (p.mention == q.mention) else undef) = u
  generalize (if q7 = true then Value.pointer (some ⟨w.heap.size, 8, none⟩) else undef) = u
  generalize (if q7 = true then Value.int .i64 p.size else undef) = u
  generalize (if q7 = true then Value.pointer (some ⟨w.heap.size + 1, 8, none⟩) else undef) = u
  generalize (if q7 = true then Value.int .i64 q.size else undef) = u
  generalize (if q7 = true then Value.bool (p.size == q.size) else undef) = u
  generalize (if q8 = true then Value.pointer (some ⟨w.heap.size, 9, none⟩) else undef) = u
  generalize (if q8 = true then Value.int .i64 p.parts else undef) = u
  generalize (if q8 = true then Value.pointer (some ⟨w.heap.size + 1, 9, none⟩) else undef) = u
  generalize (if q8 = true then Value.int .i64 q.parts else undef) = u
  generalize (if q8 = true then Value.bool (p.parts == q.parts) else undef) = u
  generalize (if q9 = true then Value.pointer (some ⟨w.heap.size, 10, none⟩) else undef) = u
  generalize (if q9 = true then Value.int .i64 p.files else undef) = u
  generalize (if q9 = true then Value.pointer (some ⟨w.heap.size + 1, 10, none⟩) else undef) = u
  generalize (if q9 = true then Value.int .i64 q.files else undef) = u
  generalize (if q9 = true then Value.bool (p.files == q.files) else undef) = u
  generalize (if q10 = true then Value.pointer (some ⟨w.heap.size, 11, none⟩) else undef) = u
  generalize (if q10 = true then Value.int .i64 p.bytes else undef) = u
  generalize (if q10 = true then Value.pointer (some ⟨w.heap.size + 1, 11, none⟩) else undef) = u
  generalize (if q10 = true then Value.int .i64 q.bytes else undef) = u
  generalize (if q10 = true then Value.bool (p.bytes == q.bytes) else undef) = u
  generalize (if q11 = true then Value.pointer (some ⟨w.heap.size, 13, none⟩) else undef) = u
  generalize (if q11 = true then Value.int .i64 p.join else undef) = u
  generalize (if q11 = true then Value.pointer (some ⟨w.heap.size + 1, 13, none⟩) else undef) = u
  generalize (if q11 = true then Value.int .i64 q.join else undef) = u
  generalize (if q11 = true then Value.bool (p.join == q.join) else undef) = u
  generalize (if q12 = true then Value.pointer (some ⟨w.heap.size, 14, none⟩) else undef) = u
  generalize (if q12 = true then Value.int .i64 p.history else undef) = u
  generalize (if q12 = true then Value.pointer (some ⟨w.heap.size + 1, 14, none⟩) else undef) = u
  generalize (if q12 = true then Value.int .i64 q.history else undef) = u
  generalize (if q12 = true then Value.bool (p.history == q.history) else undef) = u
  generalize (if q13 = true then Value.pointer (some ⟨w.heap.size, 15, none⟩) else undef) = u
  generalize (if q13 = true then Value.int .i64 p.remove else undef) = u
  generalize (if q13 = true then Value.pointer (some ⟨w.heap.size + 1, 15, none⟩) else undef) = u
  generalize (if q13 = true then Value.int .i64 q.remove else undef) = u
  generalize (if q13 = true then Value.bool (p.remove == q.remove) else undef) = u
  generalize (if q14 = true then Value.pointer (some ⟨w.heap.size, 16, none⟩) else undef) = u
  generalize (if q14 = true then Value.int .i64 p.level else undef) = u
  generalize (if q14 = true then Value.pointer (some ⟨w.heap.size + 1, 16, none⟩) else undef) = u
  generalize (if q14 = true then Value.int .i64 q.level else undef) = u
  generalize (if q14 = true then Value.bool (p.level == q.level) else undef) = u
  generalize (if q15 = true then Value.pointer (some ⟨w.heap.size, 17, none⟩) else undef) = u
  generalize (if q15 = true then Value.bool p.batch else undef) = u
  generalize (if q15 = true then Value.pointer (some ⟨w.heap.size + 1, 17, none⟩) else undef) = u
  generalize (if q15 = true then Value.bool q.batch else undef) = u
  generalize (if q15 = true then Value.bool (p.batch == q.batch) else undef) = u
  generalize (if q16 = true then Value.pointer (some ⟨w.heap.size, 18, none⟩) else undef) = u
  generalize (if q16 = true then Value.int .i64 p.rate else undef) = u
  generalize (if q16 = true then Value.pointer (some ⟨w.heap.size + 1, 18, none⟩) else undef) = u
  generalize (if q16 = true then Value.int .i64 q.rate else undef) = u
  generalize (if q16 = true then Value.bool (p.rate == q.rate) else undef) = u
  generalize (if q17 = true then Value.pointer (some ⟨w.heap.size, 19, none⟩) else undef) = u
  generalize (if q17 = true then Value.int .i64 p.down else undef) = u
  generalize (if q17 = true then Value.pointer (some ⟨w.heap.size + 1, 19, none⟩) else undef) = u
  generalize (if q17 = true then Value.int .i64 q.down else undef) = u
  generalize (if q17 = true then Value.bool (p.down == q.down) else undef) = u
  generalize (if q18 = true then Value.pointer (some ⟨w.heap.size, 20, none⟩) else undef) = u
  generalize (if q18 = true then Value.int .i64 p.window else undef) = u
  generalize (if q18 = true then Value.pointer (some ⟨w.heap.size + 1, 20, none⟩) else undef) = u
  generalize (if q18 = true then Value.int .i64 q.window else undef) = u
  generalize (if q18 = true then Value.bool (p.window == q.window) else undef) = u
  generalize (if q19 = true then Value.pointer (some ⟨w.heap.size, 21, none⟩) else undef) = u
  generalize (if q19 = true then Value.int .i64 p.keep else undef) = u
  generalize (if q19 = true then Value.pointer (some ⟨w.heap.size + 1, 21, none⟩) else undef) = u
  generalize (if q19 = true then Value.int .i64 q.keep else undef) = u
  generalize (if q19 = true then Value.bool (p.keep == q.keep) else undef) = u
  go_wp2_with fail
  go_ret
  refine ⟨?_, HB1.out⟩
  rw [← HSm.out]
  rw [h20.out, h19.out, h18.out, h17.out, h16.out, h15.out, h14.out, h13.out, h12.out, h11.out, h10.out, h9.out, h8.out, h7.out, h6.out, h5.out, h4.out, h3.out, h2.out, h1.out, h0.out]
  rfl
end Go.Proofs.YtnaejabgkfhlbaaDoor
