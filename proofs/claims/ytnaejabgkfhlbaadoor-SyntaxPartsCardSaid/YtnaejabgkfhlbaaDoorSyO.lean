/- Contracts of linguaref12: the parser's one, name, number, part. -/
import Derived.Test.YtnaejabgkfhlbaaDoorSyN
set_option linter.unusedSimpArgs false
set_option linter.unusedVariables false
namespace Go.Proofs.YtnaejabgkfhlbaaDoor
open Go.RowKit

def pF (sh : Sh) (s : List UInt8) : Bool := match sh with
  | .word x => decide (x = s)
  | .sign => decide ([59] = s)
  | _ => false
theorem isF_pF (s : List UInt8) (t : Tok) (l : List Tok) (pos err : Int) : isF s ⟨t :: l, pos, err⟩ = (decide (err = 0) && pF t.sh s) := by
  obtain ⟨sh, p⟩ := t
  cases sh with
  | word x => rw [Bool.eq_iff_iff]; simp [isF, pF, Sh.kind, Sh.text]
  | sign => rw [Bool.eq_iff_iff]; simp [isF, pF, Sh.kind, Sh.text]
  | num x n => simp [isF, pF, Sh.kind]
  | fin => simp [isF, pF, Sh.kind]
theorem spot_pF (ws : List (List UInt8)) (sh : Sh) : spot ws sh = ws.findIdx? (pF sh) := by
  have hno : ∀ l : List (List UInt8), l.findIdx? (fun _ => false) = none := fun l => by
    rw [List.findIdx?_eq_none_iff]; simp
  cases sh with
  | word x => rfl
  | sign => rfl
  | num x n => exact (hno ws).symm
  | fin => exact (hno ws).symm
theorem one_hit (ws : List (List UInt8)) (r : St) (hne : r.toks ≠ []) (k : Nat) (hk : k < ws.length) (hb : ∀ j (hj : j < k), isF (ws[j]'(by omega)) r = false) (h : isF ws[k] r = true) : wantJ ws r = ((k : Int), stepJ r) := by
  obtain ⟨toks, pos, err⟩ := r
  cases toks with
  | nil => exact absurd rfl hne
  | cons t l =>
    rw [isF_pF] at h
    simp only [Bool.and_eq_true, decide_eq_true_eq] at h
    obtain ⟨h0, hp⟩ := h
    subst h0
    have hs : spot ws t.sh = some k := by
      rw [spot_pF, List.findIdx?_eq_some_iff_getElem]
      refine ⟨hk, hp, fun j hj => ?_⟩
      have := hb j hj
      rw [isF_pF] at this
      simpa using this
    have h1 : ¬ ((k : Int) < 0) := by omega
    simp [wantJ, skipJ, hs, h1, stepJ]
theorem one_miss (ws : List (List UInt8)) (r : St) (hne : r.toks ≠ []) (hb : ∀ j (hj : j < ws.length), isF ws[j] r = false) : wantJ ws r = (0, failJ 12 r) := by
  obtain ⟨toks, pos, err⟩ := r
  cases toks with
  | nil => exact absurd rfl hne
  | cons t l =>
    by_cases he : err = 0
    · subst he
      have hs : spot ws t.sh = none := by
        rw [spot_pF, List.findIdx?_eq_none_iff]
        intro x hx
        obtain ⟨j, hj, rfl⟩ := List.mem_iff_getElem.1 hx
        have := hb j hj
        rw [isF_pF] at this
        simpa using this
      simp [wantJ, skipJ, hs]
    · simp [wantJ, skipJ, he]
theorem rdS_cell {w : World} {B : Nat} {A : Option Addr} {xs : List (List UInt8)} (h : RdL 1 strE w B A xs) {k : Nat} (hk : k < xs.length) : ∃ b off, A = some ⟨b, off, none⟩ ∧ b < B ∧ w.cell? ⟨b, off + k, none⟩ = some (.string (bs xs[k])) := by
  obtain ⟨b, off, e, hb, hc⟩ := h.at_ hk
  exact ⟨b, off, e, hb, by simpa using hc 0 _ rfl⟩
set_option maxRecDepth 100000 in
set_option maxHeartbeats 2000000 in
theorem gOne_any (b g : Nat) (r : St) (ws : List (List UInt8)) (A : Option Addr) (cw : Nat) (w : World) (h : PrsAt b g r w) (hr : RdL 1 strE w w.heap.size A ws) (hm : ws.length ≤ 1000) :
    Calls Tryd.prog 39 #[.pointer (some ⟨b, 0, none⟩), .slice A ws.length cw] w (PrsOut b g (.int .i64 (wantJ ws r).1) (wantJ ws r).2 w) := by
  have HP := Lib.hid h
  have HR := Lib.hid hr
  have HNe := Lib.hid h.fine.ne
  have HHit := Lib.hid (one_hit ws r h.fine.ne)
  have HMiss := Lib.hid (one_miss ws r h.fine.ne)
  clear h hr
  go_enter Tryd.func39, Tryd.ntmps39
  go_wp2_with fail
  go_loopw [5] (fun i wr => ∃ k : Nat, k ≤ ws.length ∧ i = .int .i64 k ∧ Below w.heap.size w wr ∧ ∀ j (hj : j < k) (hl : j < ws.length), isF ws[j] r = false) (fun i _ => ws.length - (intOf i).toNat)
  case atStart => exact ⟨0, Nat.zero_le _, rfl, Below.refl _ _, fun j hj => by omega⟩
  case round =>
    obtain ⟨k, hk, rfl, hb, hno⟩ := hrel
    have HB := Lib.hid hb
    have HNo := Lib.hid hno
    clear hno
    by_cases hlt : k < ws.length
    · obtain ⟨q, off, hA, hq, hc⟩ := rdS_cell (HR.out.now hb) hlt
      subst hA
      have HI := Lib.hid (fun w' hP => is_any b g r (ws[k]'hlt) w' hP)
      clear hb
      cases his : isF (ws[k]'hlt) r with
      | true =>
        have HE := Lib.hid (HHit.out k hlt (fun j hj => HNo.out j hj (by omega)) his)
        have HHd : Hid (∀ t, r.toks.head? = some t → t.sh ≠ .fin) := Lib.hid (fun t ht => by
          obtain ⟨_, t', l', e, h1, _⟩ := is_ok his
          rw [e] at ht
          simp at ht
          subst ht
          exact h1)
        rw [his] at HI
        generalize ws[k]'hlt = s at *
        clear his
        go_wp2_with fail
        refine (HI.out _ (HP.out.now HB.out)).mono ?_
        rintro e w1 ⟨rfl, hb1⟩
        obtain ⟨kk, hkk, c1, f1, hp⟩ := ((HP.out.now HB.out).now hb1).step HHd.out
        have HP1 := Lib.hid hp
        have HT1 : Hid (Turn (One b) w w1) := Lib.hid (Turn.below (HB.out.trans (hb1.mono HB.out.size)))
        clear hp hb1 HHd hc
        go_wp2_with fail
        go_ret
        exact ⟨by rw [HE.out]; rfl, by rw [HE.out]; exact HP1.out, HT1.out.set b 1 _ (.inl rfl)⟩
      | false =>
        have HNx : Hid (∀ j (hj : j < k + 1) (hl : j < ws.length), isF ws[j] r = false) := Lib.hid (fun j hj hl => by
          by_cases e : j = k
          · subst e; exact his
          · exact HNo.out j (by omega) hl)
        rw [his] at HI
        generalize ws[k]'hlt = s at *
        clear his
        go_wp2_with fail
        refine (HI.out _ (HP.out.now HB.out)).mono ?_
        rintro e w1 ⟨rfl, hb1⟩
        have HB1 := Lib.hid (HB.out.trans (hb1.mono HB.out.size))
        clear hb1 hc
        go_wp2_with fail
        go_roundw
        case rel => exact ⟨k + 1, by omega, by go_num, HB1.out, HNx.out⟩
        case measure => simp [intOf]; omega
    · have HE := Lib.hid (HMiss.out (fun j hj => HNo.out j (by omega) hj))
      clear hb
      go_wp2_with fail
      refine (gFail_any b g r 12 _ (HP.out.now HB.out)).mono ?_
      rintro e w2 ⟨rfl, hr2, ht2⟩
      have HP2 := Lib.hid hr2
      have HT2 : Hid (Turn (One b) w w2) := Lib.hid (turn_one (Turn.below HB.out) ht2)
      clear hr2 ht2
      go_wp2_with fail
      go_ret
      exact ⟨by rw [HE.out]; rfl, by rw [HE.out]; exact HP2.out, HT2.out⟩
-- prAfter : behind prHead: the world is wd; HPd (the parser), HTd, d0 .. d3 (the token's cells), e1, e3, g1
set_option maxRecDepth 100000 in
set_option maxHeartbeats 2000000 in
theorem gName_any (b g : Nat) (r : St) (w : World) (h : PrsAt b g r w) : Calls Tryd.prog 38 #[.pointer (some ⟨b, 0, none⟩)] w (PrsOut b g (.string (bs (nameJ r).1)) (nameJ r).2 w) := by
  have HP := Lib.hid h
  obtain ⟨⟨off, n, c, k, h1, h2, h3, h4, h5, h6, h7⟩, hf⟩ := h
  obtain ⟨toks, pos, err⟩ := r
  cases toks with
  | nil => exact absurd rfl hf.ne
  | cons t l =>
    have hkn : (k : Int) < n := by simp at h1; omega
    obtain ⟨t0, t1, t2, t3⟩ := h7.head
    have c0 := box_cell h6 0 _ rfl
    have c1 := box_cell h6 1 _ rfl
    have c3 := box_cell h6 3 _ rfl
    have f1 := box_free h6 1
    have hbl := box_lt h6
    have HF := Lib.hid hf
    clear h6 h7 hf h1
    have hkn2 : k < n := by omega
    have HB : Hid (∀ o, Below w.heap.size w (w.alloc o).drew) := Lib.hid (fun o => ((Below.refl _ _).alloc (Nat.le_refl _) _).drew)
    by_cases hw : err = 0 ∧ (t.sh.kind == 0) = true
    · obtain ⟨rfl, hk0⟩ := hw
      have hk1 : (t.sh.kind != 0) = false := by rw [bne, hk0]; rfl
      have HE : Hid (nameJ ⟨t :: l, pos, 0⟩ = (t.sh.text, stepJ ⟨t :: l, pos, 0⟩)) := Lib.hid (by
        obtain ⟨sh, p⟩ := t
        cases sh with
        | word s => rfl
        | num s n => simp [Sh.kind] at hk0
        | sign => simp [Sh.kind] at hk0
        | fin => simp [Sh.kind] at hk0)
      have HHd : Hid (∀ u, (⟨t :: l, pos, 0⟩ : St).toks.head? = some u → u.sh ≠ .fin) := Lib.hid (fun u hu e => by
        simp at hu
        subst hu
        rw [e] at hk0
        simp [Sh.kind] at hk0)
      go_enter Tryd.func38, Tryd.ntmps38
      go_wp2_with fail
      refine wp_region_J (S := fun w' => w'.cell? ⟨b, 0, none⟩ = some (.slice (some ⟨g, off, none⟩) n c) ∧ w'.cell? ⟨b, 1, none⟩ = some (.int .i64 (k : Nat)) ∧ w'.cell? ⟨g, off + k * 4, none⟩ = some (.int .i64 t.sh.kind) ∧ w'.cell? ⟨g, off + k * 4 + 1, none⟩ = some (.string (bs t.sh.text)) ∧ w'.cell? ⟨g, off + k * 4 + 2, none⟩ = some (.int .i64 t.sh.n) ∧ w'.cell? ⟨g, off + k * 4 + 3, none⟩ = some (.int .i64 t.pos)) (fun _ => false) (by kernel_rfl) (⟨c0, c1, t0, t1, t2, t3⟩) (fun hHeld => ?_)
      refine wpAnyJ_take (i := 0) (v := ?_) rfl (by kernel_rfl) (by kernel_rfl) (by kernel_rfl) (by kernel_rfl) (fun _ _ _ h => h) (Or.inl ⟨by rfl, ?_⟩) hHeld ?_
      rotate_left
      · intro wq hSq
        skip
        go_simp
        try with_reducible rfl
      simp only [Act.put, List.setIfInBounds_toArray, List.set_cons_zero, List.set_cons_succ]
      refine wpAnyJ_take (i := 1) (v := ?_) rfl (by kernel_rfl) (by kernel_rfl) (by kernel_rfl) (by kernel_rfl) (fun _ _ _ h => h) (Or.inl ⟨by rfl, ?_⟩) hHeld ?_
      rotate_left
      · intro wq hSq
        skip
        go_simp
        try with_reducible rfl
      simp only [Act.put, List.setIfInBounds_toArray, List.set_cons_zero, List.set_cons_succ]
      refine wpAnyJ_take (i := 2) (v := ?_) rfl (by kernel_rfl) (by kernel_rfl) (by kernel_rfl) (by kernel_rfl) (fun _ _ _ h => h) (Or.inl ⟨by rfl, ?_⟩) hHeld ?_
      rotate_left
      · intro wq hSq
        skip
        go_simp
        try with_reducible rfl
      simp only [Act.put, List.setIfInBounds_toArray, List.set_cons_zero, List.set_cons_succ]
      refine wpAnyJ_take (i := 3) (v := ?_) rfl (by kernel_rfl) (by kernel_rfl) (by kernel_rfl) (by kernel_rfl) (fun _ _ _ h => h) (Or.inl ⟨by rfl, ?_⟩) hHeld ?_
      rotate_left
      · intro wq hSq
        obtain ⟨s0, s1, s2, s3, s4, s5⟩ := hSq
        go_simp
        try with_reducible rfl
      simp only [Act.put, List.setIfInBounds_toArray, List.set_cons_zero, List.set_cons_succ]
      refine wpAnyJ_take (i := 4) (v := ?_) rfl (by kernel_rfl) (by kernel_rfl) (by kernel_rfl) (by kernel_rfl) (fun _ _ _ h => h) (Or.inl ⟨by rfl, ?_⟩) hHeld ?_
      rotate_left
      · intro wq hSq
        skip
        go_simp
        try with_reducible rfl
      simp only [Act.put, List.setIfInBounds_toArray, List.set_cons_zero, List.set_cons_succ]
      refine wpAnyJ_take (i := 5) (v := ?_) rfl (by kernel_rfl) (by kernel_rfl) (by kernel_rfl) (by kernel_rfl) (fun _ _ _ h => h) (Or.inl ⟨by rfl, ?_⟩) hHeld ?_
      rotate_left
      · intro wq hSq
        skip
        go_simp
        try with_reducible rfl
      simp only [Act.put, List.setIfInBounds_toArray, List.set_cons_zero, List.set_cons_succ]
      refine wpAnyJ_take (i := 6) (v := ?_) rfl (by kernel_rfl) (by kernel_rfl) (by kernel_rfl) (by kernel_rfl) (fun _ _ _ h => h) (Or.inl ⟨by rfl, ?_⟩) hHeld ?_
      rotate_left
      · intro wq hSq
        skip
        go_simp
        try with_reducible rfl
      simp only [Act.put, List.setIfInBounds_toArray, List.set_cons_zero, List.set_cons_succ]
      refine wpAnyJ_take (i := 7) (v := ?_) rfl (by kernel_rfl) (by kernel_rfl) (by kernel_rfl) (by kernel_rfl) (fun _ _ _ h => h) (Or.inl ⟨by rfl, ?_⟩) hHeld ?_
      rotate_left
      · intro wq hSq
        obtain ⟨s0, s1, s2, s3, s4, s5⟩ := hSq
        go_simp
        try with_reducible rfl
      simp only [Act.put, List.setIfInBounds_toArray, List.set_cons_zero, List.set_cons_succ]
      refine wpAnyJ_take (i := 8) (v := ?_) rfl (by kernel_rfl) (by kernel_rfl) (by kernel_rfl) (by kernel_rfl) (fun _ _ _ h => h) (Or.inl ⟨by rfl, ?_⟩) hHeld ?_
      rotate_left
      · intro wq hSq
        skip
        go_simp
        try with_reducible rfl
      simp only [Act.put, List.setIfInBounds_toArray, List.set_cons_zero, List.set_cons_succ]
      refine wpAnyJ_take (i := 9) (v := ?_) rfl (by kernel_rfl) (by kernel_rfl) (by kernel_rfl) (by kernel_rfl) (fun _ _ _ h => h) (Or.inl ⟨by rfl, ?_⟩) hHeld ?_
      rotate_left
      · intro wq hSq
        obtain ⟨s0, s1, s2, s3, s4, s5⟩ := hSq
        go_simp
        try with_reducible rfl
      simp only [Act.put, List.setIfInBounds_toArray, List.set_cons_zero, List.set_cons_succ]
      refine wpAnyJ_one (i := 10) rfl (by kernel_rfl) (fun K hK => ?_)
      go_simp
      refine hK.out _ _ (fun _ _ => ⟨(cell_old w _ b 0 hbl).trans c0, (cell_old w _ b 1 hbl).trans c1, (cell_old w _ g _ h5).trans t0, (cell_old w _ g _ h5).trans t1, (cell_old w _ g _ h5).trans t2, (cell_old w _ g _ h5).trans t3⟩) ?_
      clear hK K
      refine wpAnyJ_one (i := 11) rfl (by kernel_rfl) (fun K hK => ?_)
      go_simp
      refine hK.out _ _ (fun _ _ => ⟨(cell_old w _ b 0 hbl).trans c0, (cell_old w _ b 1 hbl).trans c1, (cell_old w _ g _ h5).trans t0, (cell_old w _ g _ h5).trans t1, (cell_old w _ g _ h5).trans t2, (cell_old w _ g _ h5).trans t3⟩) ?_
      clear hK K
      refine wpAnyJ_done (by kernel_rfl) ?_ _
      have hpd := HP.out.now (HB.out (.cells #[.int .i64 t.sh.kind, .string (bs t.sh.text), .int .i64 t.sh.n, .int .i64 t.pos] 41))
      have htd : Turn (One b) w (w.alloc (.cells #[.int .i64 t.sh.kind, .string (bs t.sh.text), .int .i64 t.sh.n, .int .i64 t.pos] 41)).drew := Turn.below (HB.out _)
      have hbx : (w.alloc (.cells #[.int .i64 t.sh.kind, .string (bs t.sh.text), .int .i64 t.sh.n, .int .i64 t.pos] 41)).drew.heap[w.heap.size]? = some (.cells #[.int .i64 t.sh.kind, .string (bs t.sh.text), .int .i64 t.sh.n, .int .i64 t.pos] 41 (0, 0)) := (MapKept.heap_alloc w _).1
      have e3 : (w.alloc (.cells #[.int .i64 t.sh.kind, .string (bs t.sh.text), .int .i64 t.sh.n, .int .i64 t.pos] 41)).drew.cell? ⟨b, 3, none⟩ = some (.int .i64 (0)) := (cell_old w _ b 3 hbl).trans c3
      obtain ⟨wd, hwd⟩ : ∃ x, x = (w.alloc (.cells #[.int .i64 t.sh.kind, .string (bs t.sh.text), .int .i64 t.sh.n, .int .i64 t.pos] 41)).drew := ⟨_, rfl⟩
      rw [← hwd] at hpd htd hbx e3 ⊢
      have d0 := box_cell hbx 0 _ rfl
      have d1 := box_cell hbx 1 _ rfl
      have d2 := box_cell hbx 2 _ rfl
      have hqb : w.heap.size ≠ b := Nat.ne_of_gt hbl
      have HPd := Lib.hid hpd
      have HTd := Lib.hid htd
      clear hpd htd hbx hwd c0 c1 c3 t0 t1 t2 t3 HP HB
      obtain ⟨kk, hkk, e1, g1, hp⟩ := HPd.out.step HHd.out
      have HP1 := Lib.hid hp
      clear hp HHd
      go_wp2_with fail
      go_ret
      exact ⟨by rw [HE.out]; rfl, by rw [HE.out]; exact HP1.out, HTd.out.set b 1 _ (.inl rfl)⟩
    · have HE : Hid (nameJ ⟨t :: l, pos, err⟩ = ([], failJ 12 ⟨t :: l, pos, err⟩)) := Lib.hid (by
        by_cases he : err = 0
        · subst he
          obtain ⟨sh, p⟩ := t
          cases sh with
          | word s => exact absurd ⟨rfl, rfl⟩ hw
          | num s n => rfl
          | sign => rfl
          | fin => rfl
        · simp [nameJ, failJ, he])
      by_cases he : err = 0
      · have hk1 : (t.sh.kind != 0) = true := by
          cases hq : (t.sh.kind == 0) with
          | true => exact absurd ⟨he, hq⟩ hw
          | false => rw [bne, hq]; rfl
        subst he
        clear hw
        go_enter Tryd.func38, Tryd.ntmps38
        go_wp2_with fail
        refine wp_region_J (S := fun w' => w'.cell? ⟨b, 0, none⟩ = some (.slice (some ⟨g, off, none⟩) n c) ∧ w'.cell? ⟨b, 1, none⟩ = some (.int .i64 (k : Nat)) ∧ w'.cell? ⟨g, off + k * 4, none⟩ = some (.int .i64 t.sh.kind) ∧ w'.cell? ⟨g, off + k * 4 + 1, none⟩ = some (.string (bs t.sh.text)) ∧ w'.cell? ⟨g, off + k * 4 + 2, none⟩ = some (.int .i64 t.sh.n) ∧ w'.cell? ⟨g, off + k * 4 + 3, none⟩ = some (.int .i64 t.pos)) (fun _ => false) (by kernel_rfl) (⟨c0, c1, t0, t1, t2, t3⟩) (fun hHeld => ?_)
        refine wpAnyJ_take (i := 0) (v := ?_) rfl (by kernel_rfl) (by kernel_rfl) (by kernel_rfl) (by kernel_rfl) (fun _ _ _ h => h) (Or.inl ⟨by rfl, ?_⟩) hHeld ?_
        rotate_left
        · intro wq hSq
          skip
          go_simp
          try with_reducible rfl
        simp only [Act.put, List.setIfInBounds_toArray, List.set_cons_zero, List.set_cons_succ]
        refine wpAnyJ_take (i := 1) (v := ?_) rfl (by kernel_rfl) (by kernel_rfl) (by kernel_rfl) (by kernel_rfl) (fun _ _ _ h => h) (Or.inl ⟨by rfl, ?_⟩) hHeld ?_
        rotate_left
        · intro wq hSq
          skip
          go_simp
          try with_reducible rfl
        simp only [Act.put, List.setIfInBounds_toArray, List.set_cons_zero, List.set_cons_succ]
        refine wpAnyJ_take (i := 2) (v := ?_) rfl (by kernel_rfl) (by kernel_rfl) (by kernel_rfl) (by kernel_rfl) (fun _ _ _ h => h) (Or.inl ⟨by rfl, ?_⟩) hHeld ?_
        rotate_left
        · intro wq hSq
          skip
          go_simp
          try with_reducible rfl
        simp only [Act.put, List.setIfInBounds_toArray, List.set_cons_zero, List.set_cons_succ]
        refine wpAnyJ_take (i := 3) (v := ?_) rfl (by kernel_rfl) (by kernel_rfl) (by kernel_rfl) (by kernel_rfl) (fun _ _ _ h => h) (Or.inl ⟨by rfl, ?_⟩) hHeld ?_
        rotate_left
        · intro wq hSq
          obtain ⟨s0, s1, s2, s3, s4, s5⟩ := hSq
          go_simp
          try with_reducible rfl
        simp only [Act.put, List.setIfInBounds_toArray, List.set_cons_zero, List.set_cons_succ]
        refine wpAnyJ_take (i := 4) (v := ?_) rfl (by kernel_rfl) (by kernel_rfl) (by kernel_rfl) (by kernel_rfl) (fun _ _ _ h => h) (Or.inl ⟨by rfl, ?_⟩) hHeld ?_
        rotate_left
        · intro wq hSq
          skip
          go_simp
          try with_reducible rfl
        simp only [Act.put, List.setIfInBounds_toArray, List.set_cons_zero, List.set_cons_succ]
        refine wpAnyJ_take (i := 5) (v := ?_) rfl (by kernel_rfl) (by kernel_rfl) (by kernel_rfl) (by kernel_rfl) (fun _ _ _ h => h) (Or.inl ⟨by rfl, ?_⟩) hHeld ?_
        rotate_left
        · intro wq hSq
          skip
          go_simp
          try with_reducible rfl
        simp only [Act.put, List.setIfInBounds_toArray, List.set_cons_zero, List.set_cons_succ]
        refine wpAnyJ_take (i := 6) (v := ?_) rfl (by kernel_rfl) (by kernel_rfl) (by kernel_rfl) (by kernel_rfl) (fun _ _ _ h => h) (Or.inl ⟨by rfl, ?_⟩) hHeld ?_
        rotate_left
        · intro wq hSq
          skip
          go_simp
          try with_reducible rfl
        simp only [Act.put, List.setIfInBounds_toArray, List.set_cons_zero, List.set_cons_succ]
        refine wpAnyJ_take (i := 7) (v := ?_) rfl (by kernel_rfl) (by kernel_rfl) (by kernel_rfl) (by kernel_rfl) (fun _ _ _ h => h) (Or.inl ⟨by rfl, ?_⟩) hHeld ?_
        rotate_left
        · intro wq hSq
          obtain ⟨s0, s1, s2, s3, s4, s5⟩ := hSq
          go_simp
          try with_reducible rfl
        simp only [Act.put, List.setIfInBounds_toArray, List.set_cons_zero, List.set_cons_succ]
        refine wpAnyJ_take (i := 8) (v := ?_) rfl (by kernel_rfl) (by kernel_rfl) (by kernel_rfl) (by kernel_rfl) (fun _ _ _ h => h) (Or.inl ⟨by rfl, ?_⟩) hHeld ?_
        rotate_left
        · intro wq hSq
          skip
          go_simp
          try with_reducible rfl
        simp only [Act.put, List.setIfInBounds_toArray, List.set_cons_zero, List.set_cons_succ]
        refine wpAnyJ_take (i := 9) (v := ?_) rfl (by kernel_rfl) (by kernel_rfl) (by kernel_rfl) (by kernel_rfl) (fun _ _ _ h => h) (Or.inl ⟨by rfl, ?_⟩) hHeld ?_
        rotate_left
        · intro wq hSq
          obtain ⟨s0, s1, s2, s3, s4, s5⟩ := hSq
          go_simp
          try with_reducible rfl
        simp only [Act.put, List.setIfInBounds_toArray, List.set_cons_zero, List.set_cons_succ]
        refine wpAnyJ_one (i := 10) rfl (by kernel_rfl) (fun K hK => ?_)
        go_simp
        refine hK.out _ _ (fun _ _ => ⟨(cell_old w _ b 0 hbl).trans c0, (cell_old w _ b 1 hbl).trans c1, (cell_old w _ g _ h5).trans t0, (cell_old w _ g _ h5).trans t1, (cell_old w _ g _ h5).trans t2, (cell_old w _ g _ h5).trans t3⟩) ?_
        clear hK K
        refine wpAnyJ_one (i := 11) rfl (by kernel_rfl) (fun K hK => ?_)
        go_simp
        refine hK.out _ _ (fun _ _ => ⟨(cell_old w _ b 0 hbl).trans c0, (cell_old w _ b 1 hbl).trans c1, (cell_old w _ g _ h5).trans t0, (cell_old w _ g _ h5).trans t1, (cell_old w _ g _ h5).trans t2, (cell_old w _ g _ h5).trans t3⟩) ?_
        clear hK K
        refine wpAnyJ_done (by kernel_rfl) ?_ _
        have hpd := HP.out.now (HB.out (.cells #[.int .i64 t.sh.kind, .string (bs t.sh.text), .int .i64 t.sh.n, .int .i64 t.pos] 41))
        have htd : Turn (One b) w (w.alloc (.cells #[.int .i64 t.sh.kind, .string (bs t.sh.text), .int .i64 t.sh.n, .int .i64 t.pos] 41)).drew := Turn.below (HB.out _)
        have hbx : (w.alloc (.cells #[.int .i64 t.sh.kind, .string (bs t.sh.text), .int .i64 t.sh.n, .int .i64 t.pos] 41)).drew.heap[w.heap.size]? = some (.cells #[.int .i64 t.sh.kind, .string (bs t.sh.text), .int .i64 t.sh.n, .int .i64 t.pos] 41 (0, 0)) := (MapKept.heap_alloc w _).1
        have e3 : (w.alloc (.cells #[.int .i64 t.sh.kind, .string (bs t.sh.text), .int .i64 t.sh.n, .int .i64 t.pos] 41)).drew.cell? ⟨b, 3, none⟩ = some (.int .i64 (0)) := (cell_old w _ b 3 hbl).trans c3
        obtain ⟨wd, hwd⟩ : ∃ x, x = (w.alloc (.cells #[.int .i64 t.sh.kind, .string (bs t.sh.text), .int .i64 t.sh.n, .int .i64 t.pos] 41)).drew := ⟨_, rfl⟩
        rw [← hwd] at hpd htd hbx e3 ⊢
        have d0 := box_cell hbx 0 _ rfl
        have d1 := box_cell hbx 1 _ rfl
        have d2 := box_cell hbx 2 _ rfl
        have hqb : w.heap.size ≠ b := Nat.ne_of_gt hbl
        have HPd := Lib.hid hpd
        have HTd := Lib.hid htd
        clear hpd htd hbx hwd c0 c1 c3 t0 t1 t2 t3 HP HB
        go_wp2_with fail
        refine (gFail_any b g _ 12 _ HPd.out).mono ?_
        rintro e w2 ⟨rfl, hr2, ht2⟩
        have HP2 := Lib.hid hr2
        have HT2 := Lib.hid (turn_one HTd.out ht2)
        clear hr2 ht2
        go_wp2_with fail
        go_ret
        exact ⟨by rw [HE.out]; rfl, by rw [HE.out]; exact HP2.out, HT2.out⟩
      · have he2 : (err != 0) = true := by simpa using he
        clear hw
        go_enter Tryd.func38, Tryd.ntmps38
        go_wp2_with fail
        refine wp_region_J (S := fun w' => w'.cell? ⟨b, 0, none⟩ = some (.slice (some ⟨g, off, none⟩) n c) ∧ w'.cell? ⟨b, 1, none⟩ = some (.int .i64 (k : Nat)) ∧ w'.cell? ⟨g, off + k * 4, none⟩ = some (.int .i64 t.sh.kind) ∧ w'.cell? ⟨g, off + k * 4 + 1, none⟩ = some (.string (bs t.sh.text)) ∧ w'.cell? ⟨g, off + k * 4 + 2, none⟩ = some (.int .i64 t.sh.n) ∧ w'.cell? ⟨g, off + k * 4 + 3, none⟩ = some (.int .i64 t.pos)) (fun _ => false) (by kernel_rfl) (⟨c0, c1, t0, t1, t2, t3⟩) (fun hHeld => ?_)
        refine wpAnyJ_take (i := 0) (v := ?_) rfl (by kernel_rfl) (by kernel_rfl) (by kernel_rfl) (by kernel_rfl) (fun _ _ _ h => h) (Or.inl ⟨by rfl, ?_⟩) hHeld ?_
        rotate_left
        · intro wq hSq
          skip
          go_simp
          try with_reducible rfl
        simp only [Act.put, List.setIfInBounds_toArray, List.set_cons_zero, List.set_cons_succ]
        refine wpAnyJ_take (i := 1) (v := ?_) rfl (by kernel_rfl) (by kernel_rfl) (by kernel_rfl) (by kernel_rfl) (fun _ _ _ h => h) (Or.inl ⟨by rfl, ?_⟩) hHeld ?_
        rotate_left
        · intro wq hSq
          skip
          go_simp
          try with_reducible rfl
        simp only [Act.put, List.setIfInBounds_toArray, List.set_cons_zero, List.set_cons_succ]
        refine wpAnyJ_take (i := 2) (v := ?_) rfl (by kernel_rfl) (by kernel_rfl) (by kernel_rfl) (by kernel_rfl) (fun _ _ _ h => h) (Or.inl ⟨by rfl, ?_⟩) hHeld ?_
        rotate_left
        · intro wq hSq
          skip
          go_simp
          try with_reducible rfl
        simp only [Act.put, List.setIfInBounds_toArray, List.set_cons_zero, List.set_cons_succ]
        refine wpAnyJ_take (i := 3) (v := ?_) rfl (by kernel_rfl) (by kernel_rfl) (by kernel_rfl) (by kernel_rfl) (fun _ _ _ h => h) (Or.inl ⟨by rfl, ?_⟩) hHeld ?_
        rotate_left
        · intro wq hSq
          obtain ⟨s0, s1, s2, s3, s4, s5⟩ := hSq
          go_simp
          try with_reducible rfl
        simp only [Act.put, List.setIfInBounds_toArray, List.set_cons_zero, List.set_cons_succ]
        refine wpAnyJ_take (i := 4) (v := ?_) rfl (by kernel_rfl) (by kernel_rfl) (by kernel_rfl) (by kernel_rfl) (fun _ _ _ h => h) (Or.inl ⟨by rfl, ?_⟩) hHeld ?_
        rotate_left
        · intro wq hSq
          skip
          go_simp
          try with_reducible rfl
        simp only [Act.put, List.setIfInBounds_toArray, List.set_cons_zero, List.set_cons_succ]
        refine wpAnyJ_take (i := 5) (v := ?_) rfl (by kernel_rfl) (by kernel_rfl) (by kernel_rfl) (by kernel_rfl) (fun _ _ _ h => h) (Or.inl ⟨by rfl, ?_⟩) hHeld ?_
        rotate_left
        · intro wq hSq
          skip
          go_simp
          try with_reducible rfl
        simp only [Act.put, List.setIfInBounds_toArray, List.set_cons_zero, List.set_cons_succ]
        refine wpAnyJ_take (i := 6) (v := ?_) rfl (by kernel_rfl) (by kernel_rfl) (by kernel_rfl) (by kernel_rfl) (fun _ _ _ h => h) (Or.inl ⟨by rfl, ?_⟩) hHeld ?_
        rotate_left
        · intro wq hSq
          skip
          go_simp
          try with_reducible rfl
        simp only [Act.put, List.setIfInBounds_toArray, List.set_cons_zero, List.set_cons_succ]
        refine wpAnyJ_take (i := 7) (v := ?_) rfl (by kernel_rfl) (by kernel_rfl) (by kernel_rfl) (by kernel_rfl) (fun _ _ _ h => h) (Or.inl ⟨by rfl, ?_⟩) hHeld ?_
        rotate_left
        · intro wq hSq
          obtain ⟨s0, s1, s2, s3, s4, s5⟩ := hSq
          go_simp
          try with_reducible rfl
        simp only [Act.put, List.setIfInBounds_toArray, List.set_cons_zero, List.set_cons_succ]
        refine wpAnyJ_take (i := 8) (v := ?_) rfl (by kernel_rfl) (by kernel_rfl) (by kernel_rfl) (by kernel_rfl) (fun _ _ _ h => h) (Or.inl ⟨by rfl, ?_⟩) hHeld ?_
        rotate_left
        · intro wq hSq
          skip
          go_simp
          try with_reducible rfl
        simp only [Act.put, List.setIfInBounds_toArray, List.set_cons_zero, List.set_cons_succ]
        refine wpAnyJ_take (i := 9) (v := ?_) rfl (by kernel_rfl) (by kernel_rfl) (by kernel_rfl) (by kernel_rfl) (fun _ _ _ h => h) (Or.inl ⟨by rfl, ?_⟩) hHeld ?_
        rotate_left
        · intro wq hSq
          obtain ⟨s0, s1, s2, s3, s4, s5⟩ := hSq
          go_simp
          try with_reducible rfl
        simp only [Act.put, List.setIfInBounds_toArray, List.set_cons_zero, List.set_cons_succ]
        refine wpAnyJ_one (i := 10) rfl (by kernel_rfl) (fun K hK => ?_)
        go_simp
        refine hK.out _ _ (fun _ _ => ⟨(cell_old w _ b 0 hbl).trans c0, (cell_old w _ b 1 hbl).trans c1, (cell_old w _ g _ h5).trans t0, (cell_old w _ g _ h5).trans t1, (cell_old w _ g _ h5).trans t2, (cell_old w _ g _ h5).trans t3⟩) ?_
        clear hK K
        refine wpAnyJ_one (i := 11) rfl (by kernel_rfl) (fun K hK => ?_)
        go_simp
        refine hK.out _ _ (fun _ _ => ⟨(cell_old w _ b 0 hbl).trans c0, (cell_old w _ b 1 hbl).trans c1, (cell_old w _ g _ h5).trans t0, (cell_old w _ g _ h5).trans t1, (cell_old w _ g _ h5).trans t2, (cell_old w _ g _ h5).trans t3⟩) ?_
        clear hK K
        refine wpAnyJ_done (by kernel_rfl) ?_ _
        have hpd := HP.out.now (HB.out (.cells #[.int .i64 t.sh.kind, .string (bs t.sh.text), .int .i64 t.sh.n, .int .i64 t.pos] 41))
        have htd : Turn (One b) w (w.alloc (.cells #[.int .i64 t.sh.kind, .string (bs t.sh.text), .int .i64 t.sh.n, .int .i64 t.pos] 41)).drew := Turn.below (HB.out _)
        have hbx : (w.alloc (.cells #[.int .i64 t.sh.kind, .string (bs t.sh.text), .int .i64 t.sh.n, .int .i64 t.pos] 41)).drew.heap[w.heap.size]? = some (.cells #[.int .i64 t.sh.kind, .string (bs t.sh.text), .int .i64 t.sh.n, .int .i64 t.pos] 41 (0, 0)) := (MapKept.heap_alloc w _).1
        have e3 : (w.alloc (.cells #[.int .i64 t.sh.kind, .string (bs t.sh.text), .int .i64 t.sh.n, .int .i64 t.pos] 41)).drew.cell? ⟨b, 3, none⟩ = some (.int .i64 (err)) := (cell_old w _ b 3 hbl).trans c3
        obtain ⟨wd, hwd⟩ : ∃ x, x = (w.alloc (.cells #[.int .i64 t.sh.kind, .string (bs t.sh.text), .int .i64 t.sh.n, .int .i64 t.pos] 41)).drew := ⟨_, rfl⟩
        rw [← hwd] at hpd htd hbx e3 ⊢
        have d0 := box_cell hbx 0 _ rfl
        have d1 := box_cell hbx 1 _ rfl
        have d2 := box_cell hbx 2 _ rfl
        have hqb : w.heap.size ≠ b := Nat.ne_of_gt hbl
        have HPd := Lib.hid hpd
        have HTd := Lib.hid htd
        clear hpd htd hbx hwd c0 c1 c3 t0 t1 t2 t3 HP HB
        go_wp2_with fail
        refine (gFail_any b g _ 12 _ HPd.out).mono ?_
        rintro e w2 ⟨rfl, hr2, ht2⟩
        have HP2 := Lib.hid hr2
        have HT2 := Lib.hid (turn_one HTd.out ht2)
        clear hr2 ht2
        go_wp2_with fail
        go_ret
        exact ⟨by rw [HE.out]; rfl, by rw [HE.out]; exact HP2.out, HT2.out⟩
set_option maxRecDepth 100000 in
set_option maxHeartbeats 1000000 in
theorem gPart_any (b g : Nat) (r : St) (s : List UInt8) (ws : List (List UInt8)) (A : Option Addr) (cw : Nat) (w : World) (h : PrsAt b g r w) (hr : RdL 1 strE w w.heap.size A ws) (hA : ∀ i, slBlk A = some i → i ≠ b) (hm : ws.length ≤ 1000) :
    Calls Tryd.prog 43 #[.pointer (some ⟨b, 0, none⟩), .string (bs s), .slice A ws.length cw] w (PrsOut b g (.int .i64 (partG opsJ s ws r).1) (partG opsJ s ws r).2 w) := by
  have HP0 := Lib.hid h
  have HRW := Lib.hid hr
  have HE : Hid (partG opsJ s ws r = ((wantJ ws (wantJ [s] r).2).1, (wantJ [kSemi] (wantJ ws (wantJ [s] r).2).2).2)) := Lib.hid rfl
  clear h hr
  go_enter Tryd.func43, Tryd.ntmps43
  go_wp2_with fail
  refine (gWant_any b g r s w HP0.out).mono ?_
  rintro e w1 ⟨rfl, hr1, ht1⟩
  have HP1 := Lib.hid hr1
  have HT1 := Lib.hid ht1
  clear hr1 ht1
  go_wp2_with fail
  refine (gOne_any b g _ ws A cw _ HP1.out (HRW.out.turn (fun i hi hlt => HT1.out.block i hlt (hA i hi)) HT1.out.size) hm).mono ?_
  rintro e w2 ⟨rfl, hr2, ht2⟩
  have HP2 := Lib.hid hr2
  have HT2 := Lib.hid (turn_one HT1.out ht2)
  clear hr2 ht2
  go_wp2_with fail
  refine (gWant_any b g _ kSemi w2 HP2.out).mono ?_
  rintro e w3 ⟨rfl, hr3, ht3⟩
  have HP3 := Lib.hid hr3
  have HT3 := Lib.hid (turn_one HT2.out ht3)
  clear hr3 ht3
  go_wp2_with fail
  go_ret
  exact ⟨by rw [HE.out]; rfl, by rw [HE.out]; exact HP3.out, HT3.out⟩
set_option maxRecDepth 100000 in
set_option maxHeartbeats 2000000 in
theorem gNumber_any (b g : Nat) (r : St) (least : Int) (w : World) (h : PrsAt b g r w) : Calls Tryd.prog 42 #[.pointer (some ⟨b, 0, none⟩), .int .i64 least] w (PrsOut b g (.int .i64 (numJ least r).1) (numJ least r).2 w) := by
  have HP := Lib.hid h
  obtain ⟨⟨off, n, c, k, h1, h2, h3, h4, h5, h6, h7⟩, hf⟩ := h
  obtain ⟨toks, pos, err⟩ := r
  cases toks with
  | nil => exact absurd rfl hf.ne
  | cons t l =>
    have hkn : (k : Int) < n := by simp at h1; omega
    obtain ⟨t0, t1, t2, t3⟩ := h7.head
    have c0 := box_cell h6 0 _ rfl
    have c1 := box_cell h6 1 _ rfl
    have c3 := box_cell h6 3 _ rfl
    have hbl := box_lt h6
    clear h6 h7 hf h1
    have hkn2 : k < n := by omega
    have HB : Hid (∀ o, Below w.heap.size w (w.alloc o).drew) := Lib.hid (fun o => ((Below.refl _ _).alloc (Nat.le_refl _) _).drew)
    by_cases hw : err = 0 ∧ (t.sh.kind == 1) = true
    · obtain ⟨rfl, hk0⟩ := hw
      have hk1 : (t.sh.kind != 1) = false := by rw [bne, hk0]; rfl
      have HE0 : Hid (numJ least ⟨t :: l, pos, 0⟩ = if t.sh.n < least ∨ 1073741824 < t.sh.n then (0, failJ 3 ⟨t :: l, pos, 0⟩) else (t.sh.n, stepJ ⟨t :: l, pos, 0⟩)) := Lib.hid (by
        obtain ⟨sh, p⟩ := t
        cases sh with
        | num s n => rfl
        | word s => simp [Sh.kind] at hk0
        | sign => simp [Sh.kind] at hk0
        | fin => simp [Sh.kind] at hk0)
      have HHd : Hid (∀ u, (⟨t :: l, pos, 0⟩ : St).toks.head? = some u → u.sh ≠ .fin) := Lib.hid (fun u hu e => by
        simp at hu
        subst hu
        rw [e] at hk0
        simp [Sh.kind] at hk0)
      by_cases hn1 : t.sh.n < least
      · have HE : Hid (numJ least ⟨t :: l, pos, 0⟩ = (0, failJ 3 ⟨t :: l, pos, 0⟩)) := Lib.hid (by rw [HE0.out, if_pos (.inl hn1)])
        clear HE0 HHd
        go_enter Tryd.func42, Tryd.ntmps42
        go_wp2_with fail
        refine wp_region_J (S := fun w' => w'.cell? ⟨b, 0, none⟩ = some (.slice (some ⟨g, off, none⟩) n c) ∧ w'.cell? ⟨b, 1, none⟩ = some (.int .i64 (k : Nat)) ∧ w'.cell? ⟨g, off + k * 4, none⟩ = some (.int .i64 t.sh.kind) ∧ w'.cell? ⟨g, off + k * 4 + 1, none⟩ = some (.string (bs t.sh.text)) ∧ w'.cell? ⟨g, off + k * 4 + 2, none⟩ = some (.int .i64 t.sh.n) ∧ w'.cell? ⟨g, off + k * 4 + 3, none⟩ = some (.int .i64 t.pos)) (fun _ => false) (by kernel_rfl) (⟨c0, c1, t0, t1, t2, t3⟩) (fun hHeld => ?_)
        refine wpAnyJ_take (i := 0) (v := ?_) rfl (by kernel_rfl) (by kernel_rfl) (by kernel_rfl) (by kernel_rfl) (fun _ _ _ h => h) (Or.inl ⟨by rfl, ?_⟩) hHeld ?_
        rotate_left
        · intro wq hSq
          skip
          go_simp
          try with_reducible rfl
        simp only [Act.put, List.setIfInBounds_toArray, List.set_cons_zero, List.set_cons_succ]
        refine wpAnyJ_take (i := 1) (v := ?_) rfl (by kernel_rfl) (by kernel_rfl) (by kernel_rfl) (by kernel_rfl) (fun _ _ _ h => h) (Or.inl ⟨by rfl, ?_⟩) hHeld ?_
        rotate_left
        · intro wq hSq
          skip
          go_simp
          try with_reducible rfl
        simp only [Act.put, List.setIfInBounds_toArray, List.set_cons_zero, List.set_cons_succ]
        refine wpAnyJ_take (i := 2) (v := ?_) rfl (by kernel_rfl) (by kernel_rfl) (by kernel_rfl) (by kernel_rfl) (fun _ _ _ h => h) (Or.inl ⟨by rfl, ?_⟩) hHeld ?_
        rotate_left
        · intro wq hSq
          skip
          go_simp
          try with_reducible rfl
        simp only [Act.put, List.setIfInBounds_toArray, List.set_cons_zero, List.set_cons_succ]
        refine wpAnyJ_take (i := 3) (v := ?_) rfl (by kernel_rfl) (by kernel_rfl) (by kernel_rfl) (by kernel_rfl) (fun _ _ _ h => h) (Or.inl ⟨by rfl, ?_⟩) hHeld ?_
        rotate_left
        · intro wq hSq
          obtain ⟨s0, s1, s2, s3, s4, s5⟩ := hSq
          go_simp
          try with_reducible rfl
        simp only [Act.put, List.setIfInBounds_toArray, List.set_cons_zero, List.set_cons_succ]
        refine wpAnyJ_take (i := 4) (v := ?_) rfl (by kernel_rfl) (by kernel_rfl) (by kernel_rfl) (by kernel_rfl) (fun _ _ _ h => h) (Or.inl ⟨by rfl, ?_⟩) hHeld ?_
        rotate_left
        · intro wq hSq
          skip
          go_simp
          try with_reducible rfl
        simp only [Act.put, List.setIfInBounds_toArray, List.set_cons_zero, List.set_cons_succ]
        refine wpAnyJ_take (i := 5) (v := ?_) rfl (by kernel_rfl) (by kernel_rfl) (by kernel_rfl) (by kernel_rfl) (fun _ _ _ h => h) (Or.inl ⟨by rfl, ?_⟩) hHeld ?_
        rotate_left
        · intro wq hSq
          skip
          go_simp
          try with_reducible rfl
        simp only [Act.put, List.setIfInBounds_toArray, List.set_cons_zero, List.set_cons_succ]
        refine wpAnyJ_take (i := 6) (v := ?_) rfl (by kernel_rfl) (by kernel_rfl) (by kernel_rfl) (by kernel_rfl) (fun _ _ _ h => h) (Or.inl ⟨by rfl, ?_⟩) hHeld ?_
        rotate_left
        · intro wq hSq
          skip
          go_simp
          try with_reducible rfl
        simp only [Act.put, List.setIfInBounds_toArray, List.set_cons_zero, List.set_cons_succ]
        refine wpAnyJ_take (i := 7) (v := ?_) rfl (by kernel_rfl) (by kernel_rfl) (by kernel_rfl) (by kernel_rfl) (fun _ _ _ h => h) (Or.inl ⟨by rfl, ?_⟩) hHeld ?_
        rotate_left
        · intro wq hSq
          obtain ⟨s0, s1, s2, s3, s4, s5⟩ := hSq
          go_simp
          try with_reducible rfl
        simp only [Act.put, List.setIfInBounds_toArray, List.set_cons_zero, List.set_cons_succ]
        refine wpAnyJ_take (i := 8) (v := ?_) rfl (by kernel_rfl) (by kernel_rfl) (by kernel_rfl) (by kernel_rfl) (fun _ _ _ h => h) (Or.inl ⟨by rfl, ?_⟩) hHeld ?_
        rotate_left
        · intro wq hSq
          skip
          go_simp
          try with_reducible rfl
        simp only [Act.put, List.setIfInBounds_toArray, List.set_cons_zero, List.set_cons_succ]
        refine wpAnyJ_take (i := 9) (v := ?_) rfl (by kernel_rfl) (by kernel_rfl) (by kernel_rfl) (by kernel_rfl) (fun _ _ _ h => h) (Or.inl ⟨by rfl, ?_⟩) hHeld ?_
        rotate_left
        · intro wq hSq
          obtain ⟨s0, s1, s2, s3, s4, s5⟩ := hSq
          go_simp
          try with_reducible rfl
        simp only [Act.put, List.setIfInBounds_toArray, List.set_cons_zero, List.set_cons_succ]
        refine wpAnyJ_one (i := 10) rfl (by kernel_rfl) (fun K hK => ?_)
        go_simp
        refine hK.out _ _ (fun _ _ => ⟨(cell_old w _ b 0 hbl).trans c0, (cell_old w _ b 1 hbl).trans c1, (cell_old w _ g _ h5).trans t0, (cell_old w _ g _ h5).trans t1, (cell_old w _ g _ h5).trans t2, (cell_old w _ g _ h5).trans t3⟩) ?_
        clear hK K
        refine wpAnyJ_one (i := 11) rfl (by kernel_rfl) (fun K hK => ?_)
        go_simp
        refine hK.out _ _ (fun _ _ => ⟨(cell_old w _ b 0 hbl).trans c0, (cell_old w _ b 1 hbl).trans c1, (cell_old w _ g _ h5).trans t0, (cell_old w _ g _ h5).trans t1, (cell_old w _ g _ h5).trans t2, (cell_old w _ g _ h5).trans t3⟩) ?_
        clear hK K
        refine wpAnyJ_done (by kernel_rfl) ?_ _
        have hpd := HP.out.now (HB.out (.cells #[.int .i64 t.sh.kind, .string (bs t.sh.text), .int .i64 t.sh.n, .int .i64 t.pos] 41))
        have htd : Turn (One b) w (w.alloc (.cells #[.int .i64 t.sh.kind, .string (bs t.sh.text), .int .i64 t.sh.n, .int .i64 t.pos] 41)).drew := Turn.below (HB.out _)
        have hbx : (w.alloc (.cells #[.int .i64 t.sh.kind, .string (bs t.sh.text), .int .i64 t.sh.n, .int .i64 t.pos] 41)).drew.heap[w.heap.size]? = some (.cells #[.int .i64 t.sh.kind, .string (bs t.sh.text), .int .i64 t.sh.n, .int .i64 t.pos] 41 (0, 0)) := (MapKept.heap_alloc w _).1
        have e3 : (w.alloc (.cells #[.int .i64 t.sh.kind, .string (bs t.sh.text), .int .i64 t.sh.n, .int .i64 t.pos] 41)).drew.cell? ⟨b, 3, none⟩ = some (.int .i64 (0)) := (cell_old w _ b 3 hbl).trans c3
        obtain ⟨wd, hwd⟩ : ∃ x, x = (w.alloc (.cells #[.int .i64 t.sh.kind, .string (bs t.sh.text), .int .i64 t.sh.n, .int .i64 t.pos] 41)).drew := ⟨_, rfl⟩
        rw [← hwd] at hpd htd hbx e3 ⊢
        have d0 := box_cell hbx 0 _ rfl
        have d1 := box_cell hbx 1 _ rfl
        have d2 := box_cell hbx 2 _ rfl
        have hqb : w.heap.size ≠ b := Nat.ne_of_gt hbl
        have HPd := Lib.hid hpd
        have HTd := Lib.hid htd
        clear hpd htd hbx hwd c0 c1 c3 t0 t1 t2 t3 HP HB
        go_wp2_with fail
        refine (gFail_any b g _ 3 _ HPd.out).mono ?_
        rintro e w2 ⟨rfl, hr2, ht2⟩
        have HP2 := Lib.hid hr2
        have HT2 := Lib.hid (turn_one HTd.out ht2)
        clear hr2 ht2
        go_wp2_with fail
        go_ret
        exact ⟨by rw [HE.out]; rfl, by rw [HE.out]; exact HP2.out, HT2.out⟩
      · by_cases hn2 : 1073741824 < t.sh.n
        · have HE : Hid (numJ least ⟨t :: l, pos, 0⟩ = (0, failJ 3 ⟨t :: l, pos, 0⟩)) := Lib.hid (by rw [HE0.out, if_pos (.inr hn2)])
          clear HE0 HHd
          go_enter Tryd.func42, Tryd.ntmps42
          go_wp2_with fail
          refine wp_region_J (S := fun w' => w'.cell? ⟨b, 0, none⟩ = some (.slice (some ⟨g, off, none⟩) n c) ∧ w'.cell? ⟨b, 1, none⟩ = some (.int .i64 (k : Nat)) ∧ w'.cell? ⟨g, off + k * 4, none⟩ = some (.int .i64 t.sh.kind) ∧ w'.cell? ⟨g, off + k * 4 + 1, none⟩ = some (.string (bs t.sh.text)) ∧ w'.cell? ⟨g, off + k * 4 + 2, none⟩ = some (.int .i64 t.sh.n) ∧ w'.cell? ⟨g, off + k * 4 + 3, none⟩ = some (.int .i64 t.pos)) (fun _ => false) (by kernel_rfl) (⟨c0, c1, t0, t1, t2, t3⟩) (fun hHeld => ?_)
          refine wpAnyJ_take (i := 0) (v := ?_) rfl (by kernel_rfl) (by kernel_rfl) (by kernel_rfl) (by kernel_rfl) (fun _ _ _ h => h) (Or.inl ⟨by rfl, ?_⟩) hHeld ?_
          rotate_left
          · intro wq hSq
            skip
            go_simp
            try with_reducible rfl
          simp only [Act.put, List.setIfInBounds_toArray, List.set_cons_zero, List.set_cons_succ]
          refine wpAnyJ_take (i := 1) (v := ?_) rfl (by kernel_rfl) (by kernel_rfl) (by kernel_rfl) (by kernel_rfl) (fun _ _ _ h => h) (Or.inl ⟨by rfl, ?_⟩) hHeld ?_
          rotate_left
          · intro wq hSq
            skip
            go_simp
            try with_reducible rfl
          simp only [Act.put, List.setIfInBounds_toArray, List.set_cons_zero, List.set_cons_succ]
          refine wpAnyJ_take (i := 2) (v := ?_) rfl (by kernel_rfl) (by kernel_rfl) (by kernel_rfl) (by kernel_rfl) (fun _ _ _ h => h) (Or.inl ⟨by rfl, ?_⟩) hHeld ?_
          rotate_left
          · intro wq hSq
            skip
            go_simp
            try with_reducible rfl
          simp only [Act.put, List.setIfInBounds_toArray, List.set_cons_zero, List.set_cons_succ]
          refine wpAnyJ_take (i := 3) (v := ?_) rfl (by kernel_rfl) (by kernel_rfl) (by kernel_rfl) (by kernel_rfl) (fun _ _ _ h => h) (Or.inl ⟨by rfl, ?_⟩) hHeld ?_
          rotate_left
          · intro wq hSq
            obtain ⟨s0, s1, s2, s3, s4, s5⟩ := hSq
            go_simp
            try with_reducible rfl
          simp only [Act.put, List.setIfInBounds_toArray, List.set_cons_zero, List.set_cons_succ]
          refine wpAnyJ_take (i := 4) (v := ?_) rfl (by kernel_rfl) (by kernel_rfl) (by kernel_rfl) (by kernel_rfl) (fun _ _ _ h => h) (Or.inl ⟨by rfl, ?_⟩) hHeld ?_
          rotate_left
          · intro wq hSq
            skip
            go_simp
            try with_reducible rfl
          simp only [Act.put, List.setIfInBounds_toArray, List.set_cons_zero, List.set_cons_succ]
          refine wpAnyJ_take (i := 5) (v := ?_) rfl (by kernel_rfl) (by kernel_rfl) (by kernel_rfl) (by kernel_rfl) (fun _ _ _ h => h) (Or.inl ⟨by rfl, ?_⟩) hHeld ?_
          rotate_left
          · intro wq hSq
            skip
            go_simp
            try with_reducible rfl
          simp only [Act.put, List.setIfInBounds_toArray, List.set_cons_zero, List.set_cons_succ]
          refine wpAnyJ_take (i := 6) (v := ?_) rfl (by kernel_rfl) (by kernel_rfl) (by kernel_rfl) (by kernel_rfl) (fun _ _ _ h => h) (Or.inl ⟨by rfl, ?_⟩) hHeld ?_
          rotate_left
          · intro wq hSq
            skip
            go_simp
            try with_reducible rfl
          simp only [Act.put, List.setIfInBounds_toArray, List.set_cons_zero, List.set_cons_succ]
          refine wpAnyJ_take (i := 7) (v := ?_) rfl (by kernel_rfl) (by kernel_rfl) (by kernel_rfl) (by kernel_rfl) (fun _ _ _ h => h) (Or.inl ⟨by rfl, ?_⟩) hHeld ?_
          rotate_left
          · intro wq hSq
            obtain ⟨s0, s1, s2, s3, s4, s5⟩ := hSq
            go_simp
            try with_reducible rfl
          simp only [Act.put, List.setIfInBounds_toArray, List.set_cons_zero, List.set_cons_succ]
          refine wpAnyJ_take (i := 8) (v := ?_) rfl (by kernel_rfl) (by kernel_rfl) (by kernel_rfl) (by kernel_rfl) (fun _ _ _ h => h) (Or.inl ⟨by rfl, ?_⟩) hHeld ?_
          rotate_left
          · intro wq hSq
            skip
            go_simp
            try with_reducible rfl
          simp only [Act.put, List.setIfInBounds_toArray, List.set_cons_zero, List.set_cons_succ]
          refine wpAnyJ_take (i := 9) (v := ?_) rfl (by kernel_rfl) (by kernel_rfl) (by kernel_rfl) (by kernel_rfl) (fun _ _ _ h => h) (Or.inl ⟨by rfl, ?_⟩) hHeld ?_
          rotate_left
          · intro wq hSq
            obtain ⟨s0, s1, s2, s3, s4, s5⟩ := hSq
            go_simp
            try with_reducible rfl
          simp only [Act.put, List.setIfInBounds_toArray, List.set_cons_zero, List.set_cons_succ]
          refine wpAnyJ_one (i := 10) rfl (by kernel_rfl) (fun K hK => ?_)
          go_simp
          refine hK.out _ _ (fun _ _ => ⟨(cell_old w _ b 0 hbl).trans c0, (cell_old w _ b 1 hbl).trans c1, (cell_old w _ g _ h5).trans t0, (cell_old w _ g _ h5).trans t1, (cell_old w _ g _ h5).trans t2, (cell_old w _ g _ h5).trans t3⟩) ?_
          clear hK K
          refine wpAnyJ_one (i := 11) rfl (by kernel_rfl) (fun K hK => ?_)
          go_simp
          refine hK.out _ _ (fun _ _ => ⟨(cell_old w _ b 0 hbl).trans c0, (cell_old w _ b 1 hbl).trans c1, (cell_old w _ g _ h5).trans t0, (cell_old w _ g _ h5).trans t1, (cell_old w _ g _ h5).trans t2, (cell_old w _ g _ h5).trans t3⟩) ?_
          clear hK K
          refine wpAnyJ_done (by kernel_rfl) ?_ _
          have hpd := HP.out.now (HB.out (.cells #[.int .i64 t.sh.kind, .string (bs t.sh.text), .int .i64 t.sh.n, .int .i64 t.pos] 41))
          have htd : Turn (One b) w (w.alloc (.cells #[.int .i64 t.sh.kind, .string (bs t.sh.text), .int .i64 t.sh.n, .int .i64 t.pos] 41)).drew := Turn.below (HB.out _)
          have hbx : (w.alloc (.cells #[.int .i64 t.sh.kind, .string (bs t.sh.text), .int .i64 t.sh.n, .int .i64 t.pos] 41)).drew.heap[w.heap.size]? = some (.cells #[.int .i64 t.sh.kind, .string (bs t.sh.text), .int .i64 t.sh.n, .int .i64 t.pos] 41 (0, 0)) := (MapKept.heap_alloc w _).1
          have e3 : (w.alloc (.cells #[.int .i64 t.sh.kind, .string (bs t.sh.text), .int .i64 t.sh.n, .int .i64 t.pos] 41)).drew.cell? ⟨b, 3, none⟩ = some (.int .i64 (0)) := (cell_old w _ b 3 hbl).trans c3
          obtain ⟨wd, hwd⟩ : ∃ x, x = (w.alloc (.cells #[.int .i64 t.sh.kind, .string (bs t.sh.text), .int .i64 t.sh.n, .int .i64 t.pos] 41)).drew := ⟨_, rfl⟩
          rw [← hwd] at hpd htd hbx e3 ⊢
          have d0 := box_cell hbx 0 _ rfl
          have d1 := box_cell hbx 1 _ rfl
          have d2 := box_cell hbx 2 _ rfl
          have hqb : w.heap.size ≠ b := Nat.ne_of_gt hbl
          have HPd := Lib.hid hpd
          have HTd := Lib.hid htd
          clear hpd htd hbx hwd c0 c1 c3 t0 t1 t2 t3 HP HB
          go_wp2_with fail
          refine (gFail_any b g _ 3 _ HPd.out).mono ?_
          rintro e w2 ⟨rfl, hr2, ht2⟩
          have HP2 := Lib.hid hr2
          have HT2 := Lib.hid (turn_one HTd.out ht2)
          clear hr2 ht2
          go_wp2_with fail
          go_ret
          exact ⟨by rw [HE.out]; rfl, by rw [HE.out]; exact HP2.out, HT2.out⟩
        · have HE : Hid (numJ least ⟨t :: l, pos, 0⟩ = (t.sh.n, stepJ ⟨t :: l, pos, 0⟩)) := Lib.hid (by rw [HE0.out, if_neg (by omega)])
          clear HE0
          go_enter Tryd.func42, Tryd.ntmps42
          go_wp2_with fail
          refine wp_region_J (S := fun w' => w'.cell? ⟨b, 0, none⟩ = some (.slice (some ⟨g, off, none⟩) n c) ∧ w'.cell? ⟨b, 1, none⟩ = some (.int .i64 (k : Nat)) ∧ w'.cell? ⟨g, off + k * 4, none⟩ = some (.int .i64 t.sh.kind) ∧ w'.cell? ⟨g, off + k * 4 + 1, none⟩ = some (.string (bs t.sh.text)) ∧ w'.cell? ⟨g, off + k * 4 + 2, none⟩ = some (.int .i64 t.sh.n) ∧ w'.cell? ⟨g, off + k * 4 + 3, none⟩ = some (.int .i64 t.pos)) (fun _ => false) (by kernel_rfl) (⟨c0, c1, t0, t1, t2, t3⟩) (fun hHeld => ?_)
          refine wpAnyJ_take (i := 0) (v := ?_) rfl (by kernel_rfl) (by kernel_rfl) (by kernel_rfl) (by kernel_rfl) (fun _ _ _ h => h) (Or.inl ⟨by rfl, ?_⟩) hHeld ?_
          rotate_left
          · intro wq hSq
            skip
            go_simp
            try with_reducible rfl
          simp only [Act.put, List.setIfInBounds_toArray, List.set_cons_zero, List.set_cons_succ]
          refine wpAnyJ_take (i := 1) (v := ?_) rfl (by kernel_rfl) (by kernel_rfl) (by kernel_rfl) (by kernel_rfl) (fun _ _ _ h => h) (Or.inl ⟨by rfl, ?_⟩) hHeld ?_
          rotate_left
          · intro wq hSq
            skip
            go_simp
            try with_reducible rfl
          simp only [Act.put, List.setIfInBounds_toArray, List.set_cons_zero, List.set_cons_succ]
          refine wpAnyJ_take (i := 2) (v := ?_) rfl (by kernel_rfl) (by kernel_rfl) (by kernel_rfl) (by kernel_rfl) (fun _ _ _ h => h) (Or.inl ⟨by rfl, ?_⟩) hHeld ?_
          rotate_left
          · intro wq hSq
            skip
            go_simp
            try with_reducible rfl
          simp only [Act.put, List.setIfInBounds_toArray, List.set_cons_zero, List.set_cons_succ]
          refine wpAnyJ_take (i := 3) (v := ?_) rfl (by kernel_rfl) (by kernel_rfl) (by kernel_rfl) (by kernel_rfl) (fun _ _ _ h => h) (Or.inl ⟨by rfl, ?_⟩) hHeld ?_
          rotate_left
          · intro wq hSq
            obtain ⟨s0, s1, s2, s3, s4, s5⟩ := hSq
            go_simp
            try with_reducible rfl
          simp only [Act.put, List.setIfInBounds_toArray, List.set_cons_zero, List.set_cons_succ]
          refine wpAnyJ_take (i := 4) (v := ?_) rfl (by kernel_rfl) (by kernel_rfl) (by kernel_rfl) (by kernel_rfl) (fun _ _ _ h => h) (Or.inl ⟨by rfl, ?_⟩) hHeld ?_
          rotate_left
          · intro wq hSq
            skip
            go_simp
            try with_reducible rfl
          simp only [Act.put, List.setIfInBounds_toArray, List.set_cons_zero, List.set_cons_succ]
          refine wpAnyJ_take (i := 5) (v := ?_) rfl (by kernel_rfl) (by kernel_rfl) (by kernel_rfl) (by kernel_rfl) (fun _ _ _ h => h) (Or.inl ⟨by rfl, ?_⟩) hHeld ?_
          rotate_left
          · intro wq hSq
            skip
            go_simp
            try with_reducible rfl
          simp only [Act.put, List.setIfInBounds_toArray, List.set_cons_zero, List.set_cons_succ]
          refine wpAnyJ_take (i := 6) (v := ?_) rfl (by kernel_rfl) (by kernel_rfl) (by kernel_rfl) (by kernel_rfl) (fun _ _ _ h => h) (Or.inl ⟨by rfl, ?_⟩) hHeld ?_
          rotate_left
          · intro wq hSq
            skip
            go_simp
            try with_reducible rfl
          simp only [Act.put, List.setIfInBounds_toArray, List.set_cons_zero, List.set_cons_succ]
          refine wpAnyJ_take (i := 7) (v := ?_) rfl (by kernel_rfl) (by kernel_rfl) (by kernel_rfl) (by kernel_rfl) (fun _ _ _ h => h) (Or.inl ⟨by rfl, ?_⟩) hHeld ?_
          rotate_left
          · intro wq hSq
            obtain ⟨s0, s1, s2, s3, s4, s5⟩ := hSq
            go_simp
            try with_reducible rfl
          simp only [Act.put, List.setIfInBounds_toArray, List.set_cons_zero, List.set_cons_succ]
          refine wpAnyJ_take (i := 8) (v := ?_) rfl (by kernel_rfl) (by kernel_rfl) (by kernel_rfl) (by kernel_rfl) (fun _ _ _ h => h) (Or.inl ⟨by rfl, ?_⟩) hHeld ?_
          rotate_left
          · intro wq hSq
            skip
            go_simp
            try with_reducible rfl
          simp only [Act.put, List.setIfInBounds_toArray, List.set_cons_zero, List.set_cons_succ]
          refine wpAnyJ_take (i := 9) (v := ?_) rfl (by kernel_rfl) (by kernel_rfl) (by kernel_rfl) (by kernel_rfl) (fun _ _ _ h => h) (Or.inl ⟨by rfl, ?_⟩) hHeld ?_
          rotate_left
          · intro wq hSq
            obtain ⟨s0, s1, s2, s3, s4, s5⟩ := hSq
            go_simp
            try with_reducible rfl
          simp only [Act.put, List.setIfInBounds_toArray, List.set_cons_zero, List.set_cons_succ]
          refine wpAnyJ_one (i := 10) rfl (by kernel_rfl) (fun K hK => ?_)
          go_simp
          refine hK.out _ _ (fun _ _ => ⟨(cell_old w _ b 0 hbl).trans c0, (cell_old w _ b 1 hbl).trans c1, (cell_old w _ g _ h5).trans t0, (cell_old w _ g _ h5).trans t1, (cell_old w _ g _ h5).trans t2, (cell_old w _ g _ h5).trans t3⟩) ?_
          clear hK K
          refine wpAnyJ_one (i := 11) rfl (by kernel_rfl) (fun K hK => ?_)
          go_simp
          refine hK.out _ _ (fun _ _ => ⟨(cell_old w _ b 0 hbl).trans c0, (cell_old w _ b 1 hbl).trans c1, (cell_old w _ g _ h5).trans t0, (cell_old w _ g _ h5).trans t1, (cell_old w _ g _ h5).trans t2, (cell_old w _ g _ h5).trans t3⟩) ?_
          clear hK K
          refine wpAnyJ_done (by kernel_rfl) ?_ _
          have hpd := HP.out.now (HB.out (.cells #[.int .i64 t.sh.kind, .string (bs t.sh.text), .int .i64 t.sh.n, .int .i64 t.pos] 41))
          have htd : Turn (One b) w (w.alloc (.cells #[.int .i64 t.sh.kind, .string (bs t.sh.text), .int .i64 t.sh.n, .int .i64 t.pos] 41)).drew := Turn.below (HB.out _)
          have hbx : (w.alloc (.cells #[.int .i64 t.sh.kind, .string (bs t.sh.text), .int .i64 t.sh.n, .int .i64 t.pos] 41)).drew.heap[w.heap.size]? = some (.cells #[.int .i64 t.sh.kind, .string (bs t.sh.text), .int .i64 t.sh.n, .int .i64 t.pos] 41 (0, 0)) := (MapKept.heap_alloc w _).1
          have e3 : (w.alloc (.cells #[.int .i64 t.sh.kind, .string (bs t.sh.text), .int .i64 t.sh.n, .int .i64 t.pos] 41)).drew.cell? ⟨b, 3, none⟩ = some (.int .i64 (0)) := (cell_old w _ b 3 hbl).trans c3
          obtain ⟨wd, hwd⟩ : ∃ x, x = (w.alloc (.cells #[.int .i64 t.sh.kind, .string (bs t.sh.text), .int .i64 t.sh.n, .int .i64 t.pos] 41)).drew := ⟨_, rfl⟩
          rw [← hwd] at hpd htd hbx e3 ⊢
          have d0 := box_cell hbx 0 _ rfl
          have d1 := box_cell hbx 1 _ rfl
          have d2 := box_cell hbx 2 _ rfl
          have hqb : w.heap.size ≠ b := Nat.ne_of_gt hbl
          have HPd := Lib.hid hpd
          have HTd := Lib.hid htd
          clear hpd htd hbx hwd c0 c1 c3 t0 t1 t2 t3 HP HB
          obtain ⟨kk, hkk, e1, g1, hp⟩ := HPd.out.step HHd.out
          have HP1 := Lib.hid hp
          clear hp HHd
          go_wp2_with fail
          go_ret
          exact ⟨by rw [HE.out]; rfl, by rw [HE.out]; exact HP1.out, HTd.out.set b 1 _ (.inl rfl)⟩
    · have HE : Hid (numJ least ⟨t :: l, pos, err⟩ = (0, failJ 12 ⟨t :: l, pos, err⟩)) := Lib.hid (by
        by_cases he : err = 0
        · subst he
          obtain ⟨sh, p⟩ := t
          cases sh with
          | num s n => exact absurd ⟨rfl, rfl⟩ hw
          | word s => rfl
          | sign => rfl
          | fin => rfl
        · simp [numJ, failJ, he])
      by_cases he : err = 0
      · have hk1 : (t.sh.kind != 1) = true := by
          cases hq : (t.sh.kind == 1) with
          | true => exact absurd ⟨he, hq⟩ hw
          | false => rw [bne, hq]; rfl
        subst he
        clear hw
        go_enter Tryd.func42, Tryd.ntmps42
        go_wp2_with fail
        refine wp_region_J (S := fun w' => w'.cell? ⟨b, 0, none⟩ = some (.slice (some ⟨g, off, none⟩) n c) ∧ w'.cell? ⟨b, 1, none⟩ = some (.int .i64 (k : Nat)) ∧ w'.cell? ⟨g, off + k * 4, none⟩ = some (.int .i64 t.sh.kind) ∧ w'.cell? ⟨g, off + k * 4 + 1, none⟩ = some (.string (bs t.sh.text)) ∧ w'.cell? ⟨g, off + k * 4 + 2, none⟩ = some (.int .i64 t.sh.n) ∧ w'.cell? ⟨g, off + k * 4 + 3, none⟩ = some (.int .i64 t.pos)) (fun _ => false) (by kernel_rfl) (⟨c0, c1, t0, t1, t2, t3⟩) (fun hHeld => ?_)
        refine wpAnyJ_take (i := 0) (v := ?_) rfl (by kernel_rfl) (by kernel_rfl) (by kernel_rfl) (by kernel_rfl) (fun _ _ _ h => h) (Or.inl ⟨by rfl, ?_⟩) hHeld ?_
        rotate_left
        · intro wq hSq
          skip
          go_simp
          try with_reducible rfl
        simp only [Act.put, List.setIfInBounds_toArray, List.set_cons_zero, List.set_cons_succ]
        refine wpAnyJ_take (i := 1) (v := ?_) rfl (by kernel_rfl) (by kernel_rfl) (by kernel_rfl) (by kernel_rfl) (fun _ _ _ h => h) (Or.inl ⟨by rfl, ?_⟩) hHeld ?_
        rotate_left
        · intro wq hSq
          skip
          go_simp
          try with_reducible rfl
        simp only [Act.put, List.setIfInBounds_toArray, List.set_cons_zero, List.set_cons_succ]
        refine wpAnyJ_take (i := 2) (v := ?_) rfl (by kernel_rfl) (by kernel_rfl) (by kernel_rfl) (by kernel_rfl) (fun _ _ _ h => h) (Or.inl ⟨by rfl, ?_⟩) hHeld ?_
        rotate_left
        · intro wq hSq
          skip
          go_simp
          try with_reducible rfl
        simp only [Act.put, List.setIfInBounds_toArray, List.set_cons_zero, List.set_cons_succ]
        refine wpAnyJ_take (i := 3) (v := ?_) rfl (by kernel_rfl) (by kernel_rfl) (by kernel_rfl) (by kernel_rfl) (fun _ _ _ h => h) (Or.inl ⟨by rfl, ?_⟩) hHeld ?_
        rotate_left
        · intro wq hSq
          obtain ⟨s0, s1, s2, s3, s4, s5⟩ := hSq
          go_simp
          try with_reducible rfl
        simp only [Act.put, List.setIfInBounds_toArray, List.set_cons_zero, List.set_cons_succ]
        refine wpAnyJ_take (i := 4) (v := ?_) rfl (by kernel_rfl) (by kernel_rfl) (by kernel_rfl) (by kernel_rfl) (fun _ _ _ h => h) (Or.inl ⟨by rfl, ?_⟩) hHeld ?_
        rotate_left
        · intro wq hSq
          skip
          go_simp
          try with_reducible rfl
        simp only [Act.put, List.setIfInBounds_toArray, List.set_cons_zero, List.set_cons_succ]
        refine wpAnyJ_take (i := 5) (v := ?_) rfl (by kernel_rfl) (by kernel_rfl) (by kernel_rfl) (by kernel_rfl) (fun _ _ _ h => h) (Or.inl ⟨by rfl, ?_⟩) hHeld ?_
        rotate_left
        · intro wq hSq
          skip
          go_simp
          try with_reducible rfl
        simp only [Act.put, List.setIfInBounds_toArray, List.set_cons_zero, List.set_cons_succ]
        refine wpAnyJ_take (i := 6) (v := ?_) rfl (by kernel_rfl) (by kernel_rfl) (by kernel_rfl) (by kernel_rfl) (fun _ _ _ h => h) (Or.inl ⟨by rfl, ?_⟩) hHeld ?_
        rotate_left
        · intro wq hSq
          skip
          go_simp
          try with_reducible rfl
        simp only [Act.put, List.setIfInBounds_toArray, List.set_cons_zero, List.set_cons_succ]
        refine wpAnyJ_take (i := 7) (v := ?_) rfl (by kernel_rfl) (by kernel_rfl) (by kernel_rfl) (by kernel_rfl) (fun _ _ _ h => h) (Or.inl ⟨by rfl, ?_⟩) hHeld ?_
        rotate_left
        · intro wq hSq
          obtain ⟨s0, s1, s2, s3, s4, s5⟩ := hSq
          go_simp
          try with_reducible rfl
        simp only [Act.put, List.setIfInBounds_toArray, List.set_cons_zero, List.set_cons_succ]
        refine wpAnyJ_take (i := 8) (v := ?_) rfl (by kernel_rfl) (by kernel_rfl) (by kernel_rfl) (by kernel_rfl) (fun _ _ _ h => h) (Or.inl ⟨by rfl, ?_⟩) hHeld ?_
        rotate_left
        · intro wq hSq
          skip
          go_simp
          try with_reducible rfl
        simp only [Act.put, List.setIfInBounds_toArray, List.set_cons_zero, List.set_cons_succ]
        refine wpAnyJ_take (i := 9) (v := ?_) rfl (by kernel_rfl) (by kernel_rfl) (by kernel_rfl) (by kernel_rfl) (fun _ _ _ h => h) (Or.inl ⟨by rfl, ?_⟩) hHeld ?_
        rotate_left
        · intro wq hSq
          obtain ⟨s0, s1, s2, s3, s4, s5⟩ := hSq
          go_simp
          try with_reducible rfl
        simp only [Act.put, List.setIfInBounds_toArray, List.set_cons_zero, List.set_cons_succ]
        refine wpAnyJ_one (i := 10) rfl (by kernel_rfl) (fun K hK => ?_)
        go_simp
        refine hK.out _ _ (fun _ _ => ⟨(cell_old w _ b 0 hbl).trans c0, (cell_old w _ b 1 hbl).trans c1, (cell_old w _ g _ h5).trans t0, (cell_old w _ g _ h5).trans t1, (cell_old w _ g _ h5).trans t2, (cell_old w _ g _ h5).trans t3⟩) ?_
        clear hK K
        refine wpAnyJ_one (i := 11) rfl (by kernel_rfl) (fun K hK => ?_)
        go_simp
        refine hK.out _ _ (fun _ _ => ⟨(cell_old w _ b 0 hbl).trans c0, (cell_old w _ b 1 hbl).trans c1, (cell_old w _ g _ h5).trans t0, (cell_old w _ g _ h5).trans t1, (cell_old w _ g _ h5).trans t2, (cell_old w _ g _ h5).trans t3⟩) ?_
        clear hK K
        refine wpAnyJ_done (by kernel_rfl) ?_ _
        have hpd := HP.out.now (HB.out (.cells #[.int .i64 t.sh.kind, .string (bs t.sh.text), .int .i64 t.sh.n, .int .i64 t.pos] 41))
        have htd : Turn (One b) w (w.alloc (.cells #[.int .i64 t.sh.kind, .string (bs t.sh.text), .int .i64 t.sh.n, .int .i64 t.pos] 41)).drew := Turn.below (HB.out _)
        have hbx : (w.alloc (.cells #[.int .i64 t.sh.kind, .string (bs t.sh.text), .int .i64 t.sh.n, .int .i64 t.pos] 41)).drew.heap[w.heap.size]? = some (.cells #[.int .i64 t.sh.kind, .string (bs t.sh.text), .int .i64 t.sh.n, .int .i64 t.pos] 41 (0, 0)) := (MapKept.heap_alloc w _).1
        have e3 : (w.alloc (.cells #[.int .i64 t.sh.kind, .string (bs t.sh.text), .int .i64 t.sh.n, .int .i64 t.pos] 41)).drew.cell? ⟨b, 3, none⟩ = some (.int .i64 (0)) := (cell_old w _ b 3 hbl).trans c3
        obtain ⟨wd, hwd⟩ : ∃ x, x = (w.alloc (.cells #[.int .i64 t.sh.kind, .string (bs t.sh.text), .int .i64 t.sh.n, .int .i64 t.pos] 41)).drew := ⟨_, rfl⟩
        rw [← hwd] at hpd htd hbx e3 ⊢
        have d0 := box_cell hbx 0 _ rfl
        have d1 := box_cell hbx 1 _ rfl
        have d2 := box_cell hbx 2 _ rfl
        have hqb : w.heap.size ≠ b := Nat.ne_of_gt hbl
        have HPd := Lib.hid hpd
        have HTd := Lib.hid htd
        clear hpd htd hbx hwd c0 c1 c3 t0 t1 t2 t3 HP HB
        go_wp2_with fail
        refine (gFail_any b g _ 12 _ HPd.out).mono ?_
        rintro e w2 ⟨rfl, hr2, ht2⟩
        have HP2 := Lib.hid hr2
        have HT2 := Lib.hid (turn_one HTd.out ht2)
        clear hr2 ht2
        go_wp2_with fail
        go_ret
        exact ⟨by rw [HE.out]; rfl, by rw [HE.out]; exact HP2.out, HT2.out⟩
      · have he2 : (err != 0) = true := by simpa using he
        clear hw
        go_enter Tryd.func42, Tryd.ntmps42
        go_wp2_with fail
        refine wp_region_J (S := fun w' => w'.cell? ⟨b, 0, none⟩ = some (.slice (some ⟨g, off, none⟩) n c) ∧ w'.cell? ⟨b, 1, none⟩ = some (.int .i64 (k : Nat)) ∧ w'.cell? ⟨g, off + k * 4, none⟩ = some (.int .i64 t.sh.kind) ∧ w'.cell? ⟨g, off + k * 4 + 1, none⟩ = some (.string (bs t.sh.text)) ∧ w'.cell? ⟨g, off + k * 4 + 2, none⟩ = some (.int .i64 t.sh.n) ∧ w'.cell? ⟨g, off + k * 4 + 3, none⟩ = some (.int .i64 t.pos)) (fun _ => false) (by kernel_rfl) (⟨c0, c1, t0, t1, t2, t3⟩) (fun hHeld => ?_)
        refine wpAnyJ_take (i := 0) (v := ?_) rfl (by kernel_rfl) (by kernel_rfl) (by kernel_rfl) (by kernel_rfl) (fun _ _ _ h => h) (Or.inl ⟨by rfl, ?_⟩) hHeld ?_
        rotate_left
        · intro wq hSq
          skip
          go_simp
          try with_reducible rfl
        simp only [Act.put, List.setIfInBounds_toArray, List.set_cons_zero, List.set_cons_succ]
        refine wpAnyJ_take (i := 1) (v := ?_) rfl (by kernel_rfl) (by kernel_rfl) (by kernel_rfl) (by kernel_rfl) (fun _ _ _ h => h) (Or.inl ⟨by rfl, ?_⟩) hHeld ?_
        rotate_left
        · intro wq hSq
          skip
          go_simp
          try with_reducible rfl
        simp only [Act.put, List.setIfInBounds_toArray, List.set_cons_zero, List.set_cons_succ]
        refine wpAnyJ_take (i := 2) (v := ?_) rfl (by kernel_rfl) (by kernel_rfl) (by kernel_rfl) (by kernel_rfl) (fun _ _ _ h => h) (Or.inl ⟨by rfl, ?_⟩) hHeld ?_
        rotate_left
        · intro wq hSq
          skip
          go_simp
          try with_reducible rfl
        simp only [Act.put, List.setIfInBounds_toArray, List.set_cons_zero, List.set_cons_succ]
        refine wpAnyJ_take (i := 3) (v := ?_) rfl (by kernel_rfl) (by kernel_rfl) (by kernel_rfl) (by kernel_rfl) (fun _ _ _ h => h) (Or.inl ⟨by rfl, ?_⟩) hHeld ?_
        rotate_left
        · intro wq hSq
          obtain ⟨s0, s1, s2, s3, s4, s5⟩ := hSq
          go_simp
          try with_reducible rfl
        simp only [Act.put, List.setIfInBounds_toArray, List.set_cons_zero, List.set_cons_succ]
        refine wpAnyJ_take (i := 4) (v := ?_) rfl (by kernel_rfl) (by kernel_rfl) (by kernel_rfl) (by kernel_rfl) (fun _ _ _ h => h) (Or.inl ⟨by rfl, ?_⟩) hHeld ?_
        rotate_left
        · intro wq hSq
          skip
          go_simp
          try with_reducible rfl
        simp only [Act.put, List.setIfInBounds_toArray, List.set_cons_zero, List.set_cons_succ]
        refine wpAnyJ_take (i := 5) (v := ?_) rfl (by kernel_rfl) (by kernel_rfl) (by kernel_rfl) (by kernel_rfl) (fun _ _ _ h => h) (Or.inl ⟨by rfl, ?_⟩) hHeld ?_
        rotate_left
        · intro wq hSq
          skip
          go_simp
          try with_reducible rfl
        simp only [Act.put, List.setIfInBounds_toArray, List.set_cons_zero, List.set_cons_succ]
        refine wpAnyJ_take (i := 6) (v := ?_) rfl (by kernel_rfl) (by kernel_rfl) (by kernel_rfl) (by kernel_rfl) (fun _ _ _ h => h) (Or.inl ⟨by rfl, ?_⟩) hHeld ?_
        rotate_left
        · intro wq hSq
          skip
          go_simp
          try with_reducible rfl
        simp only [Act.put, List.setIfInBounds_toArray, List.set_cons_zero, List.set_cons_succ]
        refine wpAnyJ_take (i := 7) (v := ?_) rfl (by kernel_rfl) (by kernel_rfl) (by kernel_rfl) (by kernel_rfl) (fun _ _ _ h => h) (Or.inl ⟨by rfl, ?_⟩) hHeld ?_
        rotate_left
        · intro wq hSq
          obtain ⟨s0, s1, s2, s3, s4, s5⟩ := hSq
          go_simp
          try with_reducible rfl
        simp only [Act.put, List.setIfInBounds_toArray, List.set_cons_zero, List.set_cons_succ]
        refine wpAnyJ_take (i := 8) (v := ?_) rfl (by kernel_rfl) (by kernel_rfl) (by kernel_rfl) (by kernel_rfl) (fun _ _ _ h => h) (Or.inl ⟨by rfl, ?_⟩) hHeld ?_
        rotate_left
        · intro wq hSq
          skip
          go_simp
          try with_reducible rfl
        simp only [Act.put, List.setIfInBounds_toArray, List.set_cons_zero, List.set_cons_succ]
        refine wpAnyJ_take (i := 9) (v := ?_) rfl (by kernel_rfl) (by kernel_rfl) (by kernel_rfl) (by kernel_rfl) (fun _ _ _ h => h) (Or.inl ⟨by rfl, ?_⟩) hHeld ?_
        rotate_left
        · intro wq hSq
          obtain ⟨s0, s1, s2, s3, s4, s5⟩ := hSq
          go_simp
          try with_reducible rfl
        simp only [Act.put, List.setIfInBounds_toArray, List.set_cons_zero, List.set_cons_succ]
        refine wpAnyJ_one (i := 10) rfl (by kernel_rfl) (fun K hK => ?_)
        go_simp
        refine hK.out _ _ (fun _ _ => ⟨(cell_old w _ b 0 hbl).trans c0, (cell_old w _ b 1 hbl).trans c1, (cell_old w _ g _ h5).trans t0, (cell_old w _ g _ h5).trans t1, (cell_old w _ g _ h5).trans t2, (cell_old w _ g _ h5).trans t3⟩) ?_
        clear hK K
        refine wpAnyJ_one (i := 11) rfl (by kernel_rfl) (fun K hK => ?_)
        go_simp
        refine hK.out _ _ (fun _ _ => ⟨(cell_old w _ b 0 hbl).trans c0, (cell_old w _ b 1 hbl).trans c1, (cell_old w _ g _ h5).trans t0, (cell_old w _ g _ h5).trans t1, (cell_old w _ g _ h5).trans t2, (cell_old w _ g _ h5).trans t3⟩) ?_
        clear hK K
        refine wpAnyJ_done (by kernel_rfl) ?_ _
        have hpd := HP.out.now (HB.out (.cells #[.int .i64 t.sh.kind, .string (bs t.sh.text), .int .i64 t.sh.n, .int .i64 t.pos] 41))
        have htd : Turn (One b) w (w.alloc (.cells #[.int .i64 t.sh.kind, .string (bs t.sh.text), .int .i64 t.sh.n, .int .i64 t.pos] 41)).drew := Turn.below (HB.out _)
        have hbx : (w.alloc (.cells #[.int .i64 t.sh.kind, .string (bs t.sh.text), .int .i64 t.sh.n, .int .i64 t.pos] 41)).drew.heap[w.heap.size]? = some (.cells #[.int .i64 t.sh.kind, .string (bs t.sh.text), .int .i64 t.sh.n, .int .i64 t.pos] 41 (0, 0)) := (MapKept.heap_alloc w _).1
        have e3 : (w.alloc (.cells #[.int .i64 t.sh.kind, .string (bs t.sh.text), .int .i64 t.sh.n, .int .i64 t.pos] 41)).drew.cell? ⟨b, 3, none⟩ = some (.int .i64 (err)) := (cell_old w _ b 3 hbl).trans c3
        obtain ⟨wd, hwd⟩ : ∃ x, x = (w.alloc (.cells #[.int .i64 t.sh.kind, .string (bs t.sh.text), .int .i64 t.sh.n, .int .i64 t.pos] 41)).drew := ⟨_, rfl⟩
        rw [← hwd] at hpd htd hbx e3 ⊢
        have d0 := box_cell hbx 0 _ rfl
        have d1 := box_cell hbx 1 _ rfl
        have d2 := box_cell hbx 2 _ rfl
        have hqb : w.heap.size ≠ b := Nat.ne_of_gt hbl
        have HPd := Lib.hid hpd
        have HTd := Lib.hid htd
        clear hpd htd hbx hwd c0 c1 c3 t0 t1 t2 t3 HP HB
        go_wp2_with fail
        refine (gFail_any b g _ 12 _ HPd.out).mono ?_
        rintro e w2 ⟨rfl, hr2, ht2⟩
        have HP2 := Lib.hid hr2
        have HT2 := Lib.hid (turn_one HTd.out ht2)
        clear hr2 ht2
        go_wp2_with fail
        go_ret
        exact ⟨by rw [HE.out]; rfl, by rw [HE.out]; exact HP2.out, HT2.out⟩
end Go.Proofs.YtnaejabgkfhlbaaDoor
