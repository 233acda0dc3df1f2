/- Contracts and plain laws, joined: SyN. -/
import Derived.Test.YtnaejabgkfhlbaaDoorQat
/- Contracts of linguaref12: the parser's methods. -/
set_option linter.unusedSimpArgs false
set_option linter.unusedVariables false
namespace Go.Proofs.YtnaejabgkfhlbaaDoor
open Go.RowKit

/-- A parser in block b, its tokens in block g. -/
structure PrsAt (b g : Nat) (r : St) (w : World) : Prop where
  box : ∃ off n c k, k + r.toks.length = n ∧ n ≤ c ∧ n ≤ 3000 ∧ g ≠ b ∧ g < w.heap.size ∧ w.heap[b]? = some (.cells #[.slice (some ⟨g, off, none⟩) n c, .int .i64 (k : Nat), .int .i64 r.pos, .int .i64 r.err] 61 (0, 0)) ∧ TokAt w g (off + k * 4) r.toks
  fine : Fine r.toks
theorem PrsAt.lt {b g : Nat} {r : St} {w : World} (h : PrsAt b g r w) : b < w.heap.size := by
  obtain ⟨off, n, c, k, h1, h2, h3, h4, h5, h6, h7⟩ := h.box
  exact box_lt h6
theorem PrsAt.turn {F : Nat → Prop} {b g : Nat} {r : St} {w w' : World} (h : PrsAt b g r w) (ht : Turn F w w') (hb : ¬ F b) (hg : ¬ F g) : PrsAt b g r w' := by
  obtain ⟨off, n, c, k, h1, h2, h3, h4, h5, h6, h7⟩ := h.box
  exact ⟨⟨off, n, c, k, h1, h2, h3, h4, Nat.lt_of_lt_of_le h5 ht.size, (ht.block b (box_lt h6) hb).trans h6, h7.keep (ht.block g h5 hg)⟩, h.fine⟩
theorem PrsAt.now {b g : Nat} {r : St} {w w' : World} (h : PrsAt b g r w) (hb : Below w.heap.size w w') : PrsAt b g r w' :=
  h.turn (F := fun _ => False) (Turn.below hb) id id
theorem PrsAt.set {b g p j : Nat} {v : Value} {r : St} {w : World} (h : PrsAt b g r w) (h1 : p ≠ b) (h2 : p ≠ g) : PrsAt b g r (w.setCell ⟨p, j, none⟩ v) :=
  h.turn (F := fun i => i = p) ((Turn.refl (fun i => i = p) w).set p j v (.inl rfl)) (fun e => h1 e.symm) (fun e => h2 e.symm)
/-- What a method of the parser does. -/
def PrsOut (b g : Nat) (v : Value) (r' : St) (w : World) (e : Ending) (w' : World) : Prop := e = .returned v ∧ PrsAt b g r' w' ∧ Turn (One b) w w'
/-- Is the token at hand this word, or the sign? -/
def isF (s : List UInt8) (r : St) : Bool := match r.toks with
  | t :: _ => decide (r.err = 0) && ((t.sh.kind != 3) && ((t.sh.kind != 1) && (t.sh.text == s)))
  | [] => false
-- prHead : the region that loads the token at hand into a variable of its own (jStart .. jEnd)
set_option maxRecDepth 100000 in
set_option maxHeartbeats 2000000 in
theorem is_any (b g : Nat) (r : St) (s : List UInt8) (w : World) (h : PrsAt b g r w) :
    Calls Tryd.prog 41 #[.pointer (some ⟨b, 0, none⟩), .string (bs s)] w fun e w' => e = .returned (.bool (isF s r)) ∧ Below w.heap.size w w' := by
  obtain ⟨⟨off, n, c, k, h1, h2, h3, h4, h5, h6, h7⟩, hf⟩ := h
  obtain ⟨toks, pos, err⟩ := r
  cases toks with
  | nil => exact absurd rfl hf.ne
  | cons t l =>
    have hkn : (k : Int) < n := by simp at h1; omega
    obtain ⟨t0, t1, t2, t3⟩ := h7.head
    have c0 := box_cell h6 0 _ rfl
    have c1 := box_cell h6 1 _ rfl
    have c3 := box_cell h6 3 _ rfl
    have hbl := box_lt h6
    clear h6 h7 hf h1
    have hkn2 : k < n := by omega
    have HI : Hid (isF s ⟨t :: l, pos, err⟩ = (decide (err = 0) && ((t.sh.kind != 3) && ((t.sh.kind != 1) && (t.sh.text == s))))) := Lib.hid rfl
    have htx := bs_beq t.sh.text s
    have HB : Hid (∀ o, Below w.heap.size w (w.alloc o).drew) := Lib.hid (fun o => ((Below.refl _ _).alloc (Nat.le_refl _) _).drew)
    by_cases he : err = 0
    · have he2 : (err == 0) = true := by simpa using he
      subst he
      cases h3k : (t.sh.kind != 3) with
      | false =>
        go_enter Tryd.func41, Tryd.ntmps41
        go_wp2_with fail
        refine wp_region_J (S := fun w' => w'.cell? ⟨b, 0, none⟩ = some (.slice (some ⟨g, off, none⟩) n c) ∧ w'.cell? ⟨b, 1, none⟩ = some (.int .i64 (k : Nat)) ∧ w'.cell? ⟨g, off + k * 4, none⟩ = some (.int .i64 t.sh.kind) ∧ w'.cell? ⟨g, off + k * 4 + 1, none⟩ = some (.string (bs t.sh.text)) ∧ w'.cell? ⟨g, off + k * 4 + 2, none⟩ = some (.int .i64 t.sh.n) ∧ w'.cell? ⟨g, off + k * 4 + 3, none⟩ = some (.int .i64 t.pos)) (fun _ => false) (by kernel_rfl) (⟨c0, c1, t0, t1, t2, t3⟩) (fun hHeld => ?_)
        refine wpAnyJ_take (i := 0) (v := ?_) rfl (by kernel_rfl) (by kernel_rfl) (by kernel_rfl) (by kernel_rfl) (fun _ _ _ h => h) (Or.inl ⟨by rfl, ?_⟩) hHeld ?_
        rotate_left
        · intro wq hSq
          skip
          go_simp
          try with_reducible rfl
        simp only [Act.put, List.setIfInBounds_toArray, List.set_cons_zero, List.set_cons_succ]
        refine wpAnyJ_take (i := 1) (v := ?_) rfl (by kernel_rfl) (by kernel_rfl) (by kernel_rfl) (by kernel_rfl) (fun _ _ _ h => h) (Or.inl ⟨by rfl, ?_⟩) hHeld ?_
        rotate_left
        · intro wq hSq
          skip
          go_simp
          try with_reducible rfl
        simp only [Act.put, List.setIfInBounds_toArray, List.set_cons_zero, List.set_cons_succ]
        refine wpAnyJ_take (i := 2) (v := ?_) rfl (by kernel_rfl) (by kernel_rfl) (by kernel_rfl) (by kernel_rfl) (fun _ _ _ h => h) (Or.inl ⟨by rfl, ?_⟩) hHeld ?_
        rotate_left
        · intro wq hSq
          skip
          go_simp
          try with_reducible rfl
        simp only [Act.put, List.setIfInBounds_toArray, List.set_cons_zero, List.set_cons_succ]
        refine wpAnyJ_take (i := 3) (v := ?_) rfl (by kernel_rfl) (by kernel_rfl) (by kernel_rfl) (by kernel_rfl) (fun _ _ _ h => h) (Or.inl ⟨by rfl, ?_⟩) hHeld ?_
        rotate_left
        · intro wq hSq
          obtain ⟨s0, s1, s2, s3, s4, s5⟩ := hSq
          go_simp
          try with_reducible rfl
        simp only [Act.put, List.setIfInBounds_toArray, List.set_cons_zero, List.set_cons_succ]
        refine wpAnyJ_take (i := 4) (v := ?_) rfl (by kernel_rfl) (by kernel_rfl) (by kernel_rfl) (by kernel_rfl) (fun _ _ _ h => h) (Or.inl ⟨by rfl, ?_⟩) hHeld ?_
        rotate_left
        · intro wq hSq
          skip
          go_simp
          try with_reducible rfl
        simp only [Act.put, List.setIfInBounds_toArray, List.set_cons_zero, List.set_cons_succ]
        refine wpAnyJ_take (i := 5) (v := ?_) rfl (by kernel_rfl) (by kernel_rfl) (by kernel_rfl) (by kernel_rfl) (fun _ _ _ h => h) (Or.inl ⟨by rfl, ?_⟩) hHeld ?_
        rotate_left
        · intro wq hSq
          skip
          go_simp
          try with_reducible rfl
        simp only [Act.put, List.setIfInBounds_toArray, List.set_cons_zero, List.set_cons_succ]
        refine wpAnyJ_take (i := 6) (v := ?_) rfl (by kernel_rfl) (by kernel_rfl) (by kernel_rfl) (by kernel_rfl) (fun _ _ _ h => h) (Or.inl ⟨by rfl, ?_⟩) hHeld ?_
        rotate_left
        · intro wq hSq
          skip
          go_simp
          try with_reducible rfl
        simp only [Act.put, List.setIfInBounds_toArray, List.set_cons_zero, List.set_cons_succ]
        refine wpAnyJ_take (i := 7) (v := ?_) rfl (by kernel_rfl) (by kernel_rfl) (by kernel_rfl) (by kernel_rfl) (fun _ _ _ h => h) (Or.inl ⟨by rfl, ?_⟩) hHeld ?_
        rotate_left
        · intro wq hSq
          obtain ⟨s0, s1, s2, s3, s4, s5⟩ := hSq
          go_simp
          try with_reducible rfl
        simp only [Act.put, List.setIfInBounds_toArray, List.set_cons_zero, List.set_cons_succ]
        refine wpAnyJ_take (i := 8) (v := ?_) rfl (by kernel_rfl) (by kernel_rfl) (by kernel_rfl) (by kernel_rfl) (fun _ _ _ h => h) (Or.inl ⟨by rfl, ?_⟩) hHeld ?_
        rotate_left
        · intro wq hSq
          skip
          go_simp
          try with_reducible rfl
        simp only [Act.put, List.setIfInBounds_toArray, List.set_cons_zero, List.set_cons_succ]
        refine wpAnyJ_take (i := 9) (v := ?_) rfl (by kernel_rfl) (by kernel_rfl) (by kernel_rfl) (by kernel_rfl) (fun _ _ _ h => h) (Or.inl ⟨by rfl, ?_⟩) hHeld ?_
        rotate_left
        · intro wq hSq
          obtain ⟨s0, s1, s2, s3, s4, s5⟩ := hSq
          go_simp
          try with_reducible rfl
        simp only [Act.put, List.setIfInBounds_toArray, List.set_cons_zero, List.set_cons_succ]
        refine wpAnyJ_one (i := 10) rfl (by kernel_rfl) (fun K hK => ?_)
        go_simp
        refine hK.out _ _ (fun _ _ => ⟨(cell_old w _ b 0 hbl).trans c0, (cell_old w _ b 1 hbl).trans c1, (cell_old w _ g _ h5).trans t0, (cell_old w _ g _ h5).trans t1, (cell_old w _ g _ h5).trans t2, (cell_old w _ g _ h5).trans t3⟩) ?_
        clear hK K
        refine wpAnyJ_one (i := 11) rfl (by kernel_rfl) (fun K hK => ?_)
        go_simp
        refine hK.out _ _ (fun _ _ => ⟨(cell_old w _ b 0 hbl).trans c0, (cell_old w _ b 1 hbl).trans c1, (cell_old w _ g _ h5).trans t0, (cell_old w _ g _ h5).trans t1, (cell_old w _ g _ h5).trans t2, (cell_old w _ g _ h5).trans t3⟩) ?_
        clear hK K
        refine wpAnyJ_done (by kernel_rfl) ?_ _
        go_wp2_with fail
        go_ret
        exact ⟨by rw [HI.out, h3k]; simp, HB.out _⟩
      | true =>
        cases h1k : (t.sh.kind != 1) with
        | false =>
          go_enter Tryd.func41, Tryd.ntmps41
          go_wp2_with fail
          refine wp_region_J (S := fun w' => w'.cell? ⟨b, 0, none⟩ = some (.slice (some ⟨g, off, none⟩) n c) ∧ w'.cell? ⟨b, 1, none⟩ = some (.int .i64 (k : Nat)) ∧ w'.cell? ⟨g, off + k * 4, none⟩ = some (.int .i64 t.sh.kind) ∧ w'.cell? ⟨g, off + k * 4 + 1, none⟩ = some (.string (bs t.sh.text)) ∧ w'.cell? ⟨g, off + k * 4 + 2, none⟩ = some (.int .i64 t.sh.n) ∧ w'.cell? ⟨g, off + k * 4 + 3, none⟩ = some (.int .i64 t.pos)) (fun _ => false) (by kernel_rfl) (⟨c0, c1, t0, t1, t2, t3⟩) (fun hHeld => ?_)
          refine wpAnyJ_take (i := 0) (v := ?_) rfl (by kernel_rfl) (by kernel_rfl) (by kernel_rfl) (by kernel_rfl) (fun _ _ _ h => h) (Or.inl ⟨by rfl, ?_⟩) hHeld ?_
          rotate_left
          · intro wq hSq
            skip
            go_simp
            try with_reducible rfl
          simp only [Act.put, List.setIfInBounds_toArray, List.set_cons_zero, List.set_cons_succ]
          refine wpAnyJ_take (i := 1) (v := ?_) rfl (by kernel_rfl) (by kernel_rfl) (by kernel_rfl) (by kernel_rfl) (fun _ _ _ h => h) (Or.inl ⟨by rfl, ?_⟩) hHeld ?_
          rotate_left
          · intro wq hSq
            skip
            go_simp
            try with_reducible rfl
          simp only [Act.put, List.setIfInBounds_toArray, List.set_cons_zero, List.set_cons_succ]
          refine wpAnyJ_take (i := 2) (v := ?_) rfl (by kernel_rfl) (by kernel_rfl) (by kernel_rfl) (by kernel_rfl) (fun _ _ _ h => h) (Or.inl ⟨by rfl, ?_⟩) hHeld ?_
          rotate_left
          · intro wq hSq
            skip
            go_simp
            try with_reducible rfl
          simp only [Act.put, List.setIfInBounds_toArray, List.set_cons_zero, List.set_cons_succ]
          refine wpAnyJ_take (i := 3) (v := ?_) rfl (by kernel_rfl) (by kernel_rfl) (by kernel_rfl) (by kernel_rfl) (fun _ _ _ h => h) (Or.inl ⟨by rfl, ?_⟩) hHeld ?_
          rotate_left
          · intro wq hSq
            obtain ⟨s0, s1, s2, s3, s4, s5⟩ := hSq
            go_simp
            try with_reducible rfl
          simp only [Act.put, List.setIfInBounds_toArray, List.set_cons_zero, List.set_cons_succ]
          refine wpAnyJ_take (i := 4) (v := ?_) rfl (by kernel_rfl) (by kernel_rfl) (by kernel_rfl) (by kernel_rfl) (fun _ _ _ h => h) (Or.inl ⟨by rfl, ?_⟩) hHeld ?_
          rotate_left
          · intro wq hSq
            skip
            go_simp
            try with_reducible rfl
          simp only [Act.put, List.setIfInBounds_toArray, List.set_cons_zero, List.set_cons_succ]
          refine wpAnyJ_take (i := 5) (v := ?_) rfl (by kernel_rfl) (by kernel_rfl) (by kernel_rfl) (by kernel_rfl) (fun _ _ _ h => h) (Or.inl ⟨by rfl, ?_⟩) hHeld ?_
          rotate_left
          · intro wq hSq
            skip
            go_simp
            try with_reducible rfl
          simp only [Act.put, List.setIfInBounds_toArray, List.set_cons_zero, List.set_cons_succ]
          refine wpAnyJ_take (i := 6) (v := ?_) rfl (by kernel_rfl) (by kernel_rfl) (by kernel_rfl) (by kernel_rfl) (fun _ _ _ h => h) (Or.inl ⟨by rfl, ?_⟩) hHeld ?_
          rotate_left
          · intro wq hSq
            skip
            go_simp
            try with_reducible rfl
          simp only [Act.put, List.setIfInBounds_toArray, List.set_cons_zero, List.set_cons_succ]
          refine wpAnyJ_take (i := 7) (v := ?_) rfl (by kernel_rfl) (by kernel_rfl) (by kernel_rfl) (by kernel_rfl) (fun _ _ _ h => h) (Or.inl ⟨by rfl, ?_⟩) hHeld ?_
          rotate_left
          · intro wq hSq
            obtain ⟨s0, s1, s2, s3, s4, s5⟩ := hSq
            go_simp
            try with_reducible rfl
          simp only [Act.put, List.setIfInBounds_toArray, List.set_cons_zero, List.set_cons_succ]
          refine wpAnyJ_take (i := 8) (v := ?_) rfl (by kernel_rfl) (by kernel_rfl) (by kernel_rfl) (by kernel_rfl) (fun _ _ _ h => h) (Or.inl ⟨by rfl, ?_⟩) hHeld ?_
          rotate_left
          · intro wq hSq
            skip
            go_simp
            try with_reducible rfl
          simp only [Act.put, List.setIfInBounds_toArray, List.set_cons_zero, List.set_cons_succ]
          refine wpAnyJ_take (i := 9) (v := ?_) rfl (by kernel_rfl) (by kernel_rfl) (by kernel_rfl) (by kernel_rfl) (fun _ _ _ h => h) (Or.inl ⟨by rfl, ?_⟩) hHeld ?_
          rotate_left
          · intro wq hSq
            obtain ⟨s0, s1, s2, s3, s4, s5⟩ := hSq
            go_simp
            try with_reducible rfl
          simp only [Act.put, List.setIfInBounds_toArray, List.set_cons_zero, List.set_cons_succ]
          refine wpAnyJ_one (i := 10) rfl (by kernel_rfl) (fun K hK => ?_)
          go_simp
          refine hK.out _ _ (fun _ _ => ⟨(cell_old w _ b 0 hbl).trans c0, (cell_old w _ b 1 hbl).trans c1, (cell_old w _ g _ h5).trans t0, (cell_old w _ g _ h5).trans t1, (cell_old w _ g _ h5).trans t2, (cell_old w _ g _ h5).trans t3⟩) ?_
          clear hK K
          refine wpAnyJ_one (i := 11) rfl (by kernel_rfl) (fun K hK => ?_)
          go_simp
          refine hK.out _ _ (fun _ _ => ⟨(cell_old w _ b 0 hbl).trans c0, (cell_old w _ b 1 hbl).trans c1, (cell_old w _ g _ h5).trans t0, (cell_old w _ g _ h5).trans t1, (cell_old w _ g _ h5).trans t2, (cell_old w _ g _ h5).trans t3⟩) ?_
          clear hK K
          refine wpAnyJ_done (by kernel_rfl) ?_ _
          go_wp2_with fail
          go_ret
          exact ⟨by rw [HI.out, h3k, h1k]; simp, HB.out _⟩
        | true =>
          generalize (t.sh.text == s) = q at *
          go_enter Tryd.func41, Tryd.ntmps41
          go_wp2_with fail
          refine wp_region_J (S := fun w' => w'.cell? ⟨b, 0, none⟩ = some (.slice (some ⟨g, off, none⟩) n c) ∧ w'.cell? ⟨b, 1, none⟩ = some (.int .i64 (k : Nat)) ∧ w'.cell? ⟨g, off + k * 4, none⟩ = some (.int .i64 t.sh.kind) ∧ w'.cell? ⟨g, off + k * 4 + 1, none⟩ = some (.string (bs t.sh.text)) ∧ w'.cell? ⟨g, off + k * 4 + 2, none⟩ = some (.int .i64 t.sh.n) ∧ w'.cell? ⟨g, off + k * 4 + 3, none⟩ = some (.int .i64 t.pos)) (fun _ => false) (by kernel_rfl) (⟨c0, c1, t0, t1, t2, t3⟩) (fun hHeld => ?_)
          refine wpAnyJ_take (i := 0) (v := ?_) rfl (by kernel_rfl) (by kernel_rfl) (by kernel_rfl) (by kernel_rfl) (fun _ _ _ h => h) (Or.inl ⟨by rfl, ?_⟩) hHeld ?_
          rotate_left
          · intro wq hSq
            skip
            go_simp
            try with_reducible rfl
          simp only [Act.put, List.setIfInBounds_toArray, List.set_cons_zero, List.set_cons_succ]
          refine wpAnyJ_take (i := 1) (v := ?_) rfl (by kernel_rfl) (by kernel_rfl) (by kernel_rfl) (by kernel_rfl) (fun _ _ _ h => h) (Or.inl ⟨by rfl, ?_⟩) hHeld ?_
          rotate_left
          · intro wq hSq
            skip
            go_simp
            try with_reducible rfl
          simp only [Act.put, List.setIfInBounds_toArray, List.set_cons_zero, List.set_cons_succ]
          refine wpAnyJ_take (i := 2) (v := ?_) rfl (by kernel_rfl) (by kernel_rfl) (by kernel_rfl) (by kernel_rfl) (fun _ _ _ h => h) (Or.inl ⟨by rfl, ?_⟩) hHeld ?_
          rotate_left
          · intro wq hSq
            skip
            go_simp
            try with_reducible rfl
          simp only [Act.put, List.setIfInBounds_toArray, List.set_cons_zero, List.set_cons_succ]
          refine wpAnyJ_take (i := 3) (v := ?_) rfl (by kernel_rfl) (by kernel_rfl) (by kernel_rfl) (by kernel_rfl) (fun _ _ _ h => h) (Or.inl ⟨by rfl, ?_⟩) hHeld ?_
          rotate_left
          · intro wq hSq
            obtain ⟨s0, s1, s2, s3, s4, s5⟩ := hSq
            go_simp
            try with_reducible rfl
          simp only [Act.put, List.setIfInBounds_toArray, List.set_cons_zero, List.set_cons_succ]
          refine wpAnyJ_take (i := 4) (v := ?_) rfl (by kernel_rfl) (by kernel_rfl) (by kernel_rfl) (by kernel_rfl) (fun _ _ _ h => h) (Or.inl ⟨by rfl, ?_⟩) hHeld ?_
          rotate_left
          · intro wq hSq
            skip
            go_simp
            try with_reducible rfl
          simp only [Act.put, List.setIfInBounds_toArray, List.set_cons_zero, List.set_cons_succ]
          refine wpAnyJ_take (i := 5) (v := ?_) rfl (by kernel_rfl) (by kernel_rfl) (by kernel_rfl) (by kernel_rfl) (fun _ _ _ h => h) (Or.inl ⟨by rfl, ?_⟩) hHeld ?_
          rotate_left
          · intro wq hSq
            skip
            go_simp
            try with_reducible rfl
          simp only [Act.put, List.setIfInBounds_toArray, List.set_cons_zero, List.set_cons_succ]
          refine wpAnyJ_take (i := 6) (v := ?_) rfl (by kernel_rfl) (by kernel_rfl) (by kernel_rfl) (by kernel_rfl) (fun _ _ _ h => h) (Or.inl ⟨by rfl, ?_⟩) hHeld ?_
          rotate_left
          · intro wq hSq
            skip
            go_simp
            try with_reducible rfl
          simp only [Act.put, List.setIfInBounds_toArray, List.set_cons_zero, List.set_cons_succ]
          refine wpAnyJ_take (i := 7) (v := ?_) rfl (by kernel_rfl) (by kernel_rfl) (by kernel_rfl) (by kernel_rfl) (fun _ _ _ h => h) (Or.inl ⟨by rfl, ?_⟩) hHeld ?_
          rotate_left
          · intro wq hSq
            obtain ⟨s0, s1, s2, s3, s4, s5⟩ := hSq
            go_simp
            try with_reducible rfl
          simp only [Act.put, List.setIfInBounds_toArray, List.set_cons_zero, List.set_cons_succ]
          refine wpAnyJ_take (i := 8) (v := ?_) rfl (by kernel_rfl) (by kernel_rfl) (by kernel_rfl) (by kernel_rfl) (fun _ _ _ h => h) (Or.inl ⟨by rfl, ?_⟩) hHeld ?_
          rotate_left
          · intro wq hSq
            skip
            go_simp
            try with_reducible rfl
          simp only [Act.put, List.setIfInBounds_toArray, List.set_cons_zero, List.set_cons_succ]
          refine wpAnyJ_take (i := 9) (v := ?_) rfl (by kernel_rfl) (by kernel_rfl) (by kernel_rfl) (by kernel_rfl) (fun _ _ _ h => h) (Or.inl ⟨by rfl, ?_⟩) hHeld ?_
          rotate_left
          · intro wq hSq
            obtain ⟨s0, s1, s2, s3, s4, s5⟩ := hSq
            go_simp
            try with_reducible rfl
          simp only [Act.put, List.setIfInBounds_toArray, List.set_cons_zero, List.set_cons_succ]
          refine wpAnyJ_one (i := 10) rfl (by kernel_rfl) (fun K hK => ?_)
          go_simp
          refine hK.out _ _ (fun _ _ => ⟨(cell_old w _ b 0 hbl).trans c0, (cell_old w _ b 1 hbl).trans c1, (cell_old w _ g _ h5).trans t0, (cell_old w _ g _ h5).trans t1, (cell_old w _ g _ h5).trans t2, (cell_old w _ g _ h5).trans t3⟩) ?_
          clear hK K
          refine wpAnyJ_one (i := 11) rfl (by kernel_rfl) (fun K hK => ?_)
          go_simp
          refine hK.out _ _ (fun _ _ => ⟨(cell_old w _ b 0 hbl).trans c0, (cell_old w _ b 1 hbl).trans c1, (cell_old w _ g _ h5).trans t0, (cell_old w _ g _ h5).trans t1, (cell_old w _ g _ h5).trans t2, (cell_old w _ g _ h5).trans t3⟩) ?_
          clear hK K
          refine wpAnyJ_done (by kernel_rfl) ?_ _
          go_wp2_with fail
          go_ret
          exact ⟨by rw [HI.out, h3k, h1k]; simp, HB.out _⟩
    · have he2 : (err == 0) = false := by simpa using he
      go_enter Tryd.func41, Tryd.ntmps41
      go_wp2_with fail
      refine wp_region_J (S := fun w' => w'.cell? ⟨b, 0, none⟩ = some (.slice (some ⟨g, off, none⟩) n c) ∧ w'.cell? ⟨b, 1, none⟩ = some (.int .i64 (k : Nat)) ∧ w'.cell? ⟨g, off + k * 4, none⟩ = some (.int .i64 t.sh.kind) ∧ w'.cell? ⟨g, off + k * 4 + 1, none⟩ = some (.string (bs t.sh.text)) ∧ w'.cell? ⟨g, off + k * 4 + 2, none⟩ = some (.int .i64 t.sh.n) ∧ w'.cell? ⟨g, off + k * 4 + 3, none⟩ = some (.int .i64 t.pos)) (fun _ => false) (by kernel_rfl) (⟨c0, c1, t0, t1, t2, t3⟩) (fun hHeld => ?_)
      refine wpAnyJ_take (i := 0) (v := ?_) rfl (by kernel_rfl) (by kernel_rfl) (by kernel_rfl) (by kernel_rfl) (fun _ _ _ h => h) (Or.inl ⟨by rfl, ?_⟩) hHeld ?_
      rotate_left
      · intro wq hSq
        skip
        go_simp
        try with_reducible rfl
      simp only [Act.put, List.setIfInBounds_toArray, List.set_cons_zero, List.set_cons_succ]
      refine wpAnyJ_take (i := 1) (v := ?_) rfl (by kernel_rfl) (by kernel_rfl) (by kernel_rfl) (by kernel_rfl) (fun _ _ _ h => h) (Or.inl ⟨by rfl, ?_⟩) hHeld ?_
      rotate_left
      · intro wq hSq
        skip
        go_simp
        try with_reducible rfl
      simp only [Act.put, List.setIfInBounds_toArray, List.set_cons_zero, List.set_cons_succ]
      refine wpAnyJ_take (i := 2) (v := ?_) rfl (by kernel_rfl) (by kernel_rfl) (by kernel_rfl) (by kernel_rfl) (fun _ _ _ h => h) (Or.inl ⟨by rfl, ?_⟩) hHeld ?_
      rotate_left
      · intro wq hSq
        skip
        go_simp
        try with_reducible rfl
      simp only [Act.put, List.setIfInBounds_toArray, List.set_cons_zero, List.set_cons_succ]
      refine wpAnyJ_take (i := 3) (v := ?_) rfl (by kernel_rfl) (by kernel_rfl) (by kernel_rfl) (by kernel_rfl) (fun _ _ _ h => h) (Or.inl ⟨by rfl, ?_⟩) hHeld ?_
      rotate_left
      · intro wq hSq
        obtain ⟨s0, s1, s2, s3, s4, s5⟩ := hSq
        go_simp
        try with_reducible rfl
      simp only [Act.put, List.setIfInBounds_toArray, List.set_cons_zero, List.set_cons_succ]
      refine wpAnyJ_take (i := 4) (v := ?_) rfl (by kernel_rfl) (by kernel_rfl) (by kernel_rfl) (by kernel_rfl) (fun _ _ _ h => h) (Or.inl ⟨by rfl, ?_⟩) hHeld ?_
      rotate_left
      · intro wq hSq
        skip
        go_simp
        try with_reducible rfl
      simp only [Act.put, List.setIfInBounds_toArray, List.set_cons_zero, List.set_cons_succ]
      refine wpAnyJ_take (i := 5) (v := ?_) rfl (by kernel_rfl) (by kernel_rfl) (by kernel_rfl) (by kernel_rfl) (fun _ _ _ h => h) (Or.inl ⟨by rfl, ?_⟩) hHeld ?_
      rotate_left
      · intro wq hSq
        skip
        go_simp
        try with_reducible rfl
      simp only [Act.put, List.setIfInBounds_toArray, List.set_cons_zero, List.set_cons_succ]
      refine wpAnyJ_take (i := 6) (v := ?_) rfl (by kernel_rfl) (by kernel_rfl) (by kernel_rfl) (by kernel_rfl) (fun _ _ _ h => h) (Or.inl ⟨by rfl, ?_⟩) hHeld ?_
      rotate_left
      · intro wq hSq
        skip
        go_simp
        try with_reducible rfl
      simp only [Act.put, List.setIfInBounds_toArray, List.set_cons_zero, List.set_cons_succ]
      refine wpAnyJ_take (i := 7) (v := ?_) rfl (by kernel_rfl) (by kernel_rfl) (by kernel_rfl) (by kernel_rfl) (fun _ _ _ h => h) (Or.inl ⟨by rfl, ?_⟩) hHeld ?_
      rotate_left
      · intro wq hSq
        obtain ⟨s0, s1, s2, s3, s4, s5⟩ := hSq
        go_simp
        try with_reducible rfl
      simp only [Act.put, List.setIfInBounds_toArray, List.set_cons_zero, List.set_cons_succ]
      refine wpAnyJ_take (i := 8) (v := ?_) rfl (by kernel_rfl) (by kernel_rfl) (by kernel_rfl) (by kernel_rfl) (fun _ _ _ h => h) (Or.inl ⟨by rfl, ?_⟩) hHeld ?_
      rotate_left
      · intro wq hSq
        skip
        go_simp
        try with_reducible rfl
      simp only [Act.put, List.setIfInBounds_toArray, List.set_cons_zero, List.set_cons_succ]
      refine wpAnyJ_take (i := 9) (v := ?_) rfl (by kernel_rfl) (by kernel_rfl) (by kernel_rfl) (by kernel_rfl) (fun _ _ _ h => h) (Or.inl ⟨by rfl, ?_⟩) hHeld ?_
      rotate_left
      · intro wq hSq
        obtain ⟨s0, s1, s2, s3, s4, s5⟩ := hSq
        go_simp
        try with_reducible rfl
      simp only [Act.put, List.setIfInBounds_toArray, List.set_cons_zero, List.set_cons_succ]
      refine wpAnyJ_one (i := 10) rfl (by kernel_rfl) (fun K hK => ?_)
      go_simp
      refine hK.out _ _ (fun _ _ => ⟨(cell_old w _ b 0 hbl).trans c0, (cell_old w _ b 1 hbl).trans c1, (cell_old w _ g _ h5).trans t0, (cell_old w _ g _ h5).trans t1, (cell_old w _ g _ h5).trans t2, (cell_old w _ g _ h5).trans t3⟩) ?_
      clear hK K
      refine wpAnyJ_one (i := 11) rfl (by kernel_rfl) (fun K hK => ?_)
      go_simp
      refine hK.out _ _ (fun _ _ => ⟨(cell_old w _ b 0 hbl).trans c0, (cell_old w _ b 1 hbl).trans c1, (cell_old w _ g _ h5).trans t0, (cell_old w _ g _ h5).trans t1, (cell_old w _ g _ h5).trans t2, (cell_old w _ g _ h5).trans t3⟩) ?_
      clear hK K
      refine wpAnyJ_done (by kernel_rfl) ?_ _
      go_wp2_with fail
      go_ret
      exact ⟨by rw [HI.out]; simp [he], HB.out _⟩
theorem PrsAt.put {b g off n c k : Nat} {r : St} {w w' : World} (h1 : k + r.toks.length = n) (h2 : n ≤ c) (h3 : n ≤ 3000) (h4 : g ≠ b) (h5 : g < w.heap.size) (h7 : TokAt w g (off + k * 4) r.toks) (hf : Fine r.toks)
    (hb : w'.heap[b]? = some (.cells #[.slice (some ⟨g, off, none⟩) n c, .int .i64 (k : Nat), .int .i64 r.pos, .int .i64 r.err] 61 (0, 0))) (hg : w'.heap[g]? = w.heap[g]?) (hs : w.heap.size ≤ w'.heap.size) : PrsAt b g r w' :=
  ⟨⟨off, n, c, k, h1, h2, h3, h4, by omega, hb, h7.keep hg⟩, hf⟩
set_option maxRecDepth 100000 in
set_option maxHeartbeats 2000000 in
theorem gFail_any (b g : Nat) (r : St) (e : Int) (w : World) (h : PrsAt b g r w) : Calls Tryd.prog 46 #[.pointer (some ⟨b, 0, none⟩), .int .i64 e] w (PrsOut b g (.tuple #[]) (failJ e r) w) := by
  have HP := Lib.hid h
  obtain ⟨⟨off, n, c, k, h1, h2, h3, h4, h5, h6, h7⟩, hf⟩ := h
  obtain ⟨toks, pos, err⟩ := r
  cases toks with
  | nil => exact absurd rfl hf.ne
  | cons t l =>
    have hkn : (k : Int) < n := by simp at h1; omega
    obtain ⟨t0, t1, t2, t3⟩ := h7.head
    have c0 := box_cell h6 0 _ rfl
    have c1 := box_cell h6 1 _ rfl
    have c2 := box_cell h6 2 _ rfl
    have c3 := box_cell h6 3 _ rfl
    have f2 := box_free h6 2
    have f3 := box_free h6 3
    have hbl := box_lt h6
    have H6 := Lib.hid h6
    have H7 := Lib.hid h7
    have HFi := Lib.hid hf
    have H1 := Lib.hid h1
    clear h6 h7 hf h1
    have hkn2 : k < n := by omega
    by_cases he : err = 0
    · have HE : Hid (failJ e ⟨t :: l, pos, err⟩ = ⟨t :: l, t.pos, e⟩) := Lib.hid (by unfold failJ; rw [if_pos he])
      subst he
      go_enter Tryd.func46, Tryd.ntmps46
      go_wp2_with fail
      have hbx : (w.setCell ⟨b, 3, none⟩ (.int .i64 e)).heap[b]? = some (.cells #[.slice (some ⟨g, off, none⟩) n c, .int .i64 (k : Nat), .int .i64 pos, .int .i64 e] 61 (0, 0)) := by simp [World.setCell, Array.getElem?_modify, H6.out]
      have hgx : (w.setCell ⟨b, 3, none⟩ (.int .i64 e)).heap[g]? = w.heap[g]? := heap_setCell_other _ _ _ _ h4
      have htx : Turn (One b) w (w.setCell ⟨b, 3, none⟩ (.int .i64 e)) := (Turn.refl (One b) w).set b 3 _ (.inl rfl)
      generalize w.setCell ⟨b, 3, none⟩ (.int .i64 e) = ws at *
      have e0 := box_cell hbx 0 _ rfl
      have e1 := box_cell hbx 1 _ rfl
      have e2 := box_cell hbx 2 _ rfl
      have ef := box_free hbx 2
      have e3 : ws.cell? ⟨g, off + k * 4 + 3, none⟩ = some (.int .i64 t.pos) := (World.cell?_of_block hgx).trans t3
      have HBx := Lib.hid hbx
      have HGx := Lib.hid hgx
      have HTx := Lib.hid htx
      clear hbx hgx htx c0 c1 c2 c3 f2 f3 t0 t1 t2 t3
      refine wp_region_J (S := fun w' => w'.cell? ⟨b, 0, none⟩ = some (.slice (some ⟨g, off, none⟩) n c) ∧ w'.cell? ⟨b, 1, none⟩ = some (.int .i64 (k : Nat)) ∧ w'.cell? ⟨g, off + k * 4 + 3, none⟩ = some (.int .i64 t.pos)) (fun _ => false) (by kernel_rfl) (⟨e0, e1, e3⟩) (fun hHeld => ?_)
      refine wpAnyJ_take (i := 0) (v := ?_) rfl (by kernel_rfl) (by kernel_rfl) (by kernel_rfl) (by kernel_rfl) (fun _ _ _ h => h) (Or.inl ⟨by rfl, ?_⟩) hHeld ?_
      rotate_left
      · intro wq hSq
        skip
        go_simp
        try with_reducible rfl
      simp only [Act.put, List.setIfInBounds_toArray, List.set_cons_zero, List.set_cons_succ]
      refine wpAnyJ_take (i := 1) (v := ?_) rfl (by kernel_rfl) (by kernel_rfl) (by kernel_rfl) (by kernel_rfl) (fun _ _ _ h => h) (Or.inl ⟨by rfl, ?_⟩) hHeld ?_
      rotate_left
      · intro wq hSq
        skip
        go_simp
        try with_reducible rfl
      simp only [Act.put, List.setIfInBounds_toArray, List.set_cons_zero, List.set_cons_succ]
      refine wpAnyJ_take (i := 2) (v := ?_) rfl (by kernel_rfl) (by kernel_rfl) (by kernel_rfl) (by kernel_rfl) (fun _ _ _ h => h) (Or.inl ⟨by rfl, ?_⟩) hHeld ?_
      rotate_left
      · intro wq hSq
        skip
        go_simp
        try with_reducible rfl
      simp only [Act.put, List.setIfInBounds_toArray, List.set_cons_zero, List.set_cons_succ]
      refine wpAnyJ_take (i := 3) (v := ?_) rfl (by kernel_rfl) (by kernel_rfl) (by kernel_rfl) (by kernel_rfl) (fun _ _ _ h => h) (Or.inl ⟨by rfl, ?_⟩) hHeld ?_
      rotate_left
      · intro wq hSq
        skip
        go_simp
        try with_reducible rfl
      simp only [Act.put, List.setIfInBounds_toArray, List.set_cons_zero, List.set_cons_succ]
      refine wpAnyJ_take (i := 4) (v := ?_) rfl (by kernel_rfl) (by kernel_rfl) (by kernel_rfl) (by kernel_rfl) (fun _ _ _ h => h) (Or.inl ⟨by rfl, ?_⟩) hHeld ?_
      rotate_left
      · intro wq hSq
        obtain ⟨s0, s1, s2⟩ := hSq
        go_simp
        try with_reducible rfl
      simp only [Act.put, List.setIfInBounds_toArray, List.set_cons_zero, List.set_cons_succ]
      refine wpAnyJ_take (i := 5) (v := ?_) rfl (by kernel_rfl) (by kernel_rfl) (by kernel_rfl) (by kernel_rfl) (fun _ _ _ h => h) (Or.inl ⟨by rfl, ?_⟩) hHeld ?_
      rotate_left
      · intro wq hSq
        skip
        go_simp
        try with_reducible rfl
      simp only [Act.put, List.setIfInBounds_toArray, List.set_cons_zero, List.set_cons_succ]
      refine wpAnyJ_take (i := 6) (v := ?_) rfl (by kernel_rfl) (by kernel_rfl) (by kernel_rfl) (by kernel_rfl) (fun _ _ _ h => h) (Or.inl ⟨by rfl, ?_⟩) hHeld ?_
      rotate_left
      · intro wq hSq
        skip
        go_simp
        try with_reducible rfl
      simp only [Act.put, List.setIfInBounds_toArray, List.set_cons_zero, List.set_cons_succ]
      refine wpAnyJ_take (i := 7) (v := ?_) rfl (by kernel_rfl) (by kernel_rfl) (by kernel_rfl) (by kernel_rfl) (fun _ _ _ h => h) (Or.inl ⟨by rfl, ?_⟩) hHeld ?_
      rotate_left
      · intro wq hSq
        skip
        go_simp
        try with_reducible rfl
      simp only [Act.put, List.setIfInBounds_toArray, List.set_cons_zero, List.set_cons_succ]
      refine wpAnyJ_take (i := 8) (v := ?_) rfl (by kernel_rfl) (by kernel_rfl) (by kernel_rfl) (by kernel_rfl) (fun _ _ _ h => h) (Or.inl ⟨by rfl, ?_⟩) hHeld ?_
      rotate_left
      · intro wq hSq
        obtain ⟨s0, s1, s2⟩ := hSq
        go_simp
        try with_reducible rfl
      simp only [Act.put, List.setIfInBounds_toArray, List.set_cons_zero, List.set_cons_succ]
      refine wpAnyJ_take (i := 9) (v := ?_) rfl (by kernel_rfl) (by kernel_rfl) (by kernel_rfl) (by kernel_rfl) (fun _ _ _ h => h) (Or.inl ⟨by rfl, ?_⟩) hHeld ?_
      rotate_left
      · intro wq hSq
        skip
        go_simp
        try with_reducible rfl
      simp only [Act.put, List.setIfInBounds_toArray, List.set_cons_zero, List.set_cons_succ]
      refine wpAnyJ_take (i := 10) (v := ?_) rfl (by kernel_rfl) (by kernel_rfl) (by kernel_rfl) (by kernel_rfl) (fun _ _ _ h => h) (Or.inl ⟨by rfl, ?_⟩) hHeld ?_
      rotate_left
      · intro wq hSq
        skip
        go_simp
        try with_reducible rfl
      simp only [Act.put, List.setIfInBounds_toArray, List.set_cons_zero, List.set_cons_succ]
      refine wpAnyJ_take (i := 11) (v := ?_) rfl (by kernel_rfl) (by kernel_rfl) (by kernel_rfl) (by kernel_rfl) (fun _ _ _ h => h) (Or.inl ⟨by rfl, ?_⟩) hHeld ?_
      rotate_left
      · intro wq hSq
        obtain ⟨s0, s1, s2⟩ := hSq
        go_simp
        try with_reducible rfl
      simp only [Act.put, List.setIfInBounds_toArray, List.set_cons_zero, List.set_cons_succ]
      refine wpAnyJ_pure (i := 12) (v := ?_) rfl (by kernel_rfl) (by kernel_rfl) (by kernel_rfl) (fun _ _ _ h => h) (Or.inl ⟨by rfl, ?_⟩) ?_
      rotate_left
      · intro wq _
        go_simp
        try with_reducible rfl
      simp only [Act.put, List.setIfInBounds_toArray, List.set_cons_zero, List.set_cons_succ]
      refine wpAnyJ_pure (i := 13) (v := ?_) rfl (by kernel_rfl) (by kernel_rfl) (by kernel_rfl) (fun _ _ _ h => h) (Or.inl ⟨by rfl, ?_⟩) ?_
      rotate_left
      · intro wq _
        go_simp
        try with_reducible rfl
      simp only [Act.put, List.setIfInBounds_toArray, List.set_cons_zero, List.set_cons_succ]
      refine wpAnyJ_one (i := 14) rfl (by kernel_rfl) (fun K hK => ?_)
      go_simp
      refine hK.out _ _ (fun _ hs => ⟨by rw [← hs.1]; exact World.cell?_setCell_other _ _ _ _ (by simp), by rw [← hs.2.1]; exact World.cell?_setCell_other _ _ _ _ (by simp), by rw [← hs.2.2]; exact World.cell?_setCell_other _ _ _ _ (fun q => h4 (by injection q with q1 q2; omega))⟩) ?_
      clear hK K
      refine wpAnyJ_done (by kernel_rfl) ?_ _
      go_wp2_with fail
      go_end0
      refine ⟨rfl, ?_, HTx.out.drew.set b 2 _ (.inl rfl)⟩
      rw [HE.out]
      exact PrsAt.put (w := w) (r := ⟨t :: l, t.pos, e⟩) H1.out h2 h3 h4 h5 H7.out HFi.out (by simp [World.setCell, World.drew, Array.getElem?_modify, HBx.out]) (by
        rw [← HGx.out]
        show (ws.drew.setCell ⟨b, 2, none⟩ _).heap[g]? = _
        exact heap_setCell_other _ _ _ _ h4) (by have := HTx.out.size; simp [World.setCell, World.drew]; omega)
    · have HE : Hid (failJ e ⟨t :: l, pos, err⟩ = ⟨t :: l, pos, err⟩) := Lib.hid (by unfold failJ; rw [if_neg he])
      have he2 : (err == 0) = false := by simpa using he
      go_enter Tryd.func46, Tryd.ntmps46
      go_wp2_with fail
      go_end0
      exact ⟨rfl, by rw [HE.out]; exact HP.out, Turn.refl _ _⟩
/-- The token at hand is read. -/
def stepJ (r : St) : St := ⟨r.toks.tail, r.pos, r.err⟩
theorem is_ok {s : List UInt8} {r : St} (h : isF s r = true) : r.err = 0 ∧ ∃ t l, r.toks = t :: l ∧ t.sh ≠ .fin ∧ t.sh ≠ .fin ∧ spot [s] t.sh = some 0 := by
  obtain ⟨toks, pos, err⟩ := r
  cases toks with
  | nil => simp [isF] at h
  | cons t l =>
    obtain ⟨sh, p⟩ := t
    cases sh with
    | word x =>
      simp [isF, Sh.kind, Sh.text] at h
      exact ⟨h.1, _, _, rfl, by simp, by simp, by simp [spot, h.2]⟩
    | sign =>
      simp [isF, Sh.kind, Sh.text] at h
      exact ⟨h.1, _, _, rfl, by simp, by simp, by simp [spot, h.2]⟩
    | num x n => simp [isF, Sh.kind] at h
    | fin => simp [isF, Sh.kind] at h
theorem is_no {s : List UInt8} {t : Tok} {l : List Tok} {pos : Int} (h : isF s ⟨t :: l, pos, 0⟩ = false) : spot [s] t.sh = none := by
  obtain ⟨sh, p⟩ := t
  cases sh with
  | word x =>
    simp [isF, Sh.kind, Sh.text] at h
    simp [spot, h]
  | sign =>
    simp [isF, Sh.kind, Sh.text] at h
    simp [spot, h]
  | num x n => rfl
  | fin => rfl
theorem want_is (s : List UInt8) (r : St) (hne : r.toks ≠ []) : (wantJ [s] r).2 = if isF s r = true then stepJ r else failJ 12 r := by
  obtain ⟨toks, pos, err⟩ := r
  cases toks with
  | nil => exact absurd rfl hne
  | cons t l =>
    cases h : isF s ⟨t :: l, pos, err⟩ with
    | true =>
      obtain ⟨h0, t', l', e, _, _, hs⟩ := is_ok h
      simp only at h0 e
      cases e
      subst h0
      simp [wantJ, skipJ, hs, stepJ]
    | false =>
      by_cases he : err = 0
      · subst he
        simp [wantJ, skipJ, is_no h]
      · simp [wantJ, skipJ, he]
theorem skip_is (s : List UInt8) (r : St) (hne : r.toks ≠ []) : skipJ [s] r = if isF s r = true then (0, stepJ r) else (-1, r) := by
  obtain ⟨toks, pos, err⟩ := r
  cases toks with
  | nil => exact absurd rfl hne
  | cons t l =>
    cases h : isF s ⟨t :: l, pos, err⟩ with
    | true =>
      obtain ⟨h0, t', l', e, _, _, hs⟩ := is_ok h
      simp only at h0 e
      cases e
      subst h0
      simp [skipJ, hs, stepJ]
    | false =>
      by_cases he : err = 0
      · subst he
        simp [skipJ, is_no h]
      · simp [skipJ, he]
/-- What a step over the token at hand needs, and leaves. -/
theorem PrsAt.step {b g : Nat} {r : St} {w : World} (h : PrsAt b g r w) (hn : ∀ t, r.toks.head? = some t → t.sh ≠ .fin) : ∃ k : Nat, k ≤ 3000 ∧ w.cell? ⟨b, 1, none⟩ = some (.int .i64 (k : Nat)) ∧ w.frozen? ⟨b, 1, none⟩ = false ∧ PrsAt b g (stepJ r) (w.setCell ⟨b, 1, none⟩ (.int .i64 ((k : Int) + 1))) := by
  obtain ⟨⟨off, n, c, k, h1, h2, h3, h4, h5, h6, h7⟩, hf⟩ := h
  obtain ⟨toks, pos, err⟩ := r
  cases toks with
  | nil => exact absurd rfl hf.ne
  | cons t l =>
    refine ⟨k, by omega, box_cell h6 1 _ rfl, box_free h6 1, ?_⟩
    have hb : (w.setCell ⟨b, 1, none⟩ (.int .i64 ((k : Int) + 1))).heap[b]? = some (.cells #[.slice (some ⟨g, off, none⟩) n c, .int .i64 ((k + 1 : Nat) : Int), .int .i64 pos, .int .i64 err] 61 (0, 0)) := by
      simp [World.setCell, Array.getElem?_modify, h6]
    refine PrsAt.put (w := w) (k := k + 1) (r := stepJ ⟨t :: l, pos, err⟩) (by simp [stepJ] at h1 ⊢; omega) h2 h3 h4 h5 ?_ (hf.tail (hn t rfl)) hb (heap_setCell_other _ _ _ _ h4) (by simp [World.setCell])
    have := h7.tail
    rw [show off + k * 4 + 4 = off + (k + 1) * 4 by omega] at this
    exact this
set_option maxRecDepth 100000 in
set_option maxHeartbeats 1000000 in
theorem gWant_any (b g : Nat) (r : St) (s : List UInt8) (w : World) (h : PrsAt b g r w) : Calls Tryd.prog 37 #[.pointer (some ⟨b, 0, none⟩), .string (bs s)] w (PrsOut b g (.tuple #[]) (wantJ [s] r).2 w) := by
  have HW := Lib.hid (want_is s r h.fine.ne)
  have HI := Lib.hid (is_any b g r s w h)
  have HP := Lib.hid h
  cases his : isF s r with
  | true =>
    have hE := HW.out
    rw [his, if_pos rfl] at hE
    have HE := Lib.hid hE
    have HHd : Hid (∀ t, r.toks.head? = some t → t.sh ≠ .fin) := Lib.hid (fun t ht => by
      obtain ⟨_, t', l', e, h1, _⟩ := is_ok his
      rw [e] at ht
      simp at ht
      subst ht
      exact h1)
    clear hE HW h
    rw [his] at HI
    go_enter Tryd.func37, Tryd.ntmps37
    go_wp2_with fail
    refine HI.out.mono ?_
    rintro e w1 ⟨rfl, hb1⟩
    obtain ⟨k, hk, c1, f1, hp⟩ := (HP.out.now hb1).step HHd.out
    have HP1 := Lib.hid hp
    have HT1 : Hid (Turn (One b) w w1) := Lib.hid (Turn.below hb1)
    clear hp hb1 HHd
    go_wp2_with fail
    go_end0
    exact ⟨rfl, by rw [HE.out]; exact HP1.out, HT1.out.set b 1 _ (.inl rfl)⟩
  | false =>
    have hE := HW.out
    rw [his, if_neg (by decide)] at hE
    have HE := Lib.hid hE
    clear hE HW h
    rw [his] at HI
    go_enter Tryd.func37, Tryd.ntmps37
    go_wp2_with fail
    refine HI.out.mono ?_
    rintro e w1 ⟨rfl, hb1⟩
    have HT1 : Hid (Turn (One b) w w1) := Lib.hid (Turn.below hb1)
    have HP1 := Lib.hid (HP.out.now hb1)
    clear hb1
    go_wp2_with fail
    refine (gFail_any b g r 12 w1 HP1.out).mono ?_
    rintro e w2 ⟨rfl, hr2, ht2⟩
    have HP2 := Lib.hid hr2
    have HT2 := Lib.hid (turn_one HT1.out ht2)
    clear hr2 ht2
    go_wp2_with fail
    go_end0
    exact ⟨rfl, by rw [HE.out]; exact HP2.out, HT2.out⟩
end Go.Proofs.YtnaejabgkfhlbaaDoor
