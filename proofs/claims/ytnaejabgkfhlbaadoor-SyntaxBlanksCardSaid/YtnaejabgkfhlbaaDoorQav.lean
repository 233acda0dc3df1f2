/- Contracts and plain laws, joined: SyO, SyP. -/
import Derived.Test.YtnaejabgkfhlbaaDoorQau
/- Contracts of linguaref12: the parser's one, name, number, part. -/
set_option linter.unusedSimpArgs false
set_option linter.unusedVariables false
namespace Go.Proofs.YtnaejabgkfhlbaaDoor
open Go.RowKit

def pF (sh : Sh) (s : List UInt8) : Bool := match sh with
  | .word x => decide (x = s)
  | .sign => decide ([59] = s)
  | _ => false
theorem isF_pF (s : List UInt8) (t : Tok) (l : List Tok) (pos err : Int) : isF s ⟨t :: l, pos, err⟩ = (decide (err = 0) && pF t.sh s) := by
  obtain ⟨sh, p⟩ := t
  cases sh with
  | word x => rw [Bool.eq_iff_iff]; simp [isF, pF, Sh.kind, Sh.text]
  | sign => rw [Bool.eq_iff_iff]; simp [isF, pF, Sh.kind, Sh.text]
  | num x n => simp [isF, pF, Sh.kind]
  | fin => simp [isF, pF, Sh.kind]
theorem spot_pF (ws : List (List UInt8)) (sh : Sh) : spot ws sh = ws.findIdx? (pF sh) := by
  have hno : ∀ l : List (List UInt8), l.findIdx? (fun _ => false) = none := fun l => by
    rw [List.findIdx?_eq_none_iff]; simp
  cases sh with
  | word x => rfl
  | sign => rfl
  | num x n => exact (hno ws).symm
  | fin => exact (hno ws).symm
theorem one_hit (ws : List (List UInt8)) (r : St) (hne : r.toks ≠ []) (k : Nat) (hk : k < ws.length) (hb : ∀ j (hj : j < k), isF (ws[j]'(by omega)) r = false) (h : isF ws[k] r = true) : wantJ ws r = ((k : Int), stepJ r) := by
  obtain ⟨toks, pos, err⟩ := r
  cases toks with
  | nil => exact absurd rfl hne
  | cons t l =>
    rw [isF_pF] at h
    simp only [Bool.and_eq_true, decide_eq_true_eq] at h
    obtain ⟨h0, hp⟩ := h
    subst h0
    have hs : spot ws t.sh = some k := by
      rw [spot_pF, List.findIdx?_eq_some_iff_getElem]
      refine ⟨hk, hp, fun j hj => ?_⟩
      have := hb j hj
      rw [isF_pF] at this
      simpa using this
    have h1 : ¬ ((k : Int) < 0) := by omega
    simp [wantJ, skipJ, hs, h1, stepJ]
theorem one_miss (ws : List (List UInt8)) (r : St) (hne : r.toks ≠ []) (hb : ∀ j (hj : j < ws.length), isF ws[j] r = false) : wantJ ws r = (0, failJ 12 r) := by
  obtain ⟨toks, pos, err⟩ := r
  cases toks with
  | nil => exact absurd rfl hne
  | cons t l =>
    by_cases he : err = 0
    · subst he
      have hs : spot ws t.sh = none := by
        rw [spot_pF, List.findIdx?_eq_none_iff]
        intro x hx
        obtain ⟨j, hj, rfl⟩ := List.mem_iff_getElem.1 hx
        have := hb j hj
        rw [isF_pF] at this
        simpa using this
      simp [wantJ, skipJ, hs]
    · simp [wantJ, skipJ, he]
theorem rdS_cell {w : World} {B : Nat} {A : Option Addr} {xs : List (List UInt8)} (h : RdL 1 strE w B A xs) {k : Nat} (hk : k < xs.length) : ∃ b off, A = some ⟨b, off, none⟩ ∧ b < B ∧ w.cell? ⟨b, off + k, none⟩ = some (.string (bs xs[k])) := by
  obtain ⟨b, off, e, hb, hc⟩ := h.at_ hk
  exact ⟨b, off, e, hb, by simpa using hc 0 _ rfl⟩
set_option maxRecDepth 100000 in
set_option maxHeartbeats 2000000 in
theorem gOne_any (b g : Nat) (r : St) (ws : List (List UInt8)) (A : Option Addr) (cw : Nat) (w : World) (h : PrsAt b g r w) (hr : RdL 1 strE w w.heap.size A ws) (hm : ws.length ≤ 1000) :
    Calls Tryd.prog 39 #[.pointer (some ⟨b, 0, none⟩), .slice A ws.length cw] w (PrsOut b g (.int .i64 (wantJ ws r).1) (wantJ ws r).2 w) := by
  have HP := Lib.hid h
  have HR := Lib.hid hr
  have HNe := Lib.hid h.fine.ne
  have HHit := Lib.hid (one_hit ws r h.fine.ne)
  have HMiss := Lib.hid (one_miss ws r h.fine.ne)
  clear h hr
  go_enter Tryd.func39, Tryd.ntmps39
  go_wp2_with fail
  go_loopw [5] (fun i wr => ∃ k : Nat, k ≤ ws.length ∧ i = .int .i64 k ∧ Below w.heap.size w wr ∧ ∀ j (hj : j < k) (hl : j < ws.length), isF ws[j] r = false) (fun i _ => ws.length - (intOf i).toNat)
  case atStart => exact ⟨0, Nat.zero_le _, rfl, Below.refl _ _, fun j hj => by omega⟩
  case round =>
    obtain ⟨k, hk, rfl, hb, hno⟩ := hrel
    have HB := Lib.hid hb
    have HNo := Lib.hid hno
    clear hno
    by_cases hlt : k < ws.length
    · obtain ⟨q, off, hA, hq, hc⟩ := rdS_cell (HR.out.now hb) hlt
      subst hA
      have HI := Lib.hid (fun w' hP => is_any b g r (ws[k]'hlt) w' hP)
      clear hb
      cases his : isF (ws[k]'hlt) r with
      | true =>
        have HE := Lib.hid (HHit.out k hlt (fun j hj => HNo.out j hj (by omega)) his)
        have HHd : Hid (∀ t, r.toks.head? = some t → t.sh ≠ .fin) := Lib.hid (fun t ht => by
          obtain ⟨_, t', l', e, h1, _⟩ := is_ok his
          rw [e] at ht
          simp at ht
          subst ht
          exact h1)
        rw [his] at HI
        generalize ws[k]'hlt = s at *
        clear his
        go_wp2_with fail
        refine (HI.out _ (HP.out.now HB.out)).mono ?_
        rintro e w1 ⟨rfl, hb1⟩
        obtain ⟨kk, hkk, c1, f1, hp⟩ := ((HP.out.now HB.out).now hb1).step HHd.out
        have HP1 := Lib.hid hp
        have HT1 : Hid (Turn (One b) w w1) := Lib.hid (Turn.below (HB.out.trans (hb1.mono HB.out.size)))
        clear hp hb1 HHd hc
        go_wp2_with fail
        go_ret
        exact ⟨by rw [HE.out]; rfl, by rw [HE.out]; exact HP1.out, HT1.out.set b 1 _ (.inl rfl)⟩
      | false =>
        have HNx : Hid (∀ j (hj : j < k + 1) (hl : j < ws.length), isF ws[j] r = false) := Lib.hid (fun j hj hl => by
          by_cases e : j = k
          · subst e; exact his
          · exact HNo.out j (by omega) hl)
        rw [his] at HI
        generalize ws[k]'hlt = s at *
        clear his
        go_wp2_with fail
        refine (HI.out _ (HP.out.now HB.out)).mono ?_
        rintro e w1 ⟨rfl, hb1⟩
        have HB1 := Lib.hid (HB.out.trans (hb1.mono HB.out.size))
        clear hb1 hc
        go_wp2_with fail
        go_roundw
        case rel => exact ⟨k + 1, by omega, by go_num, HB1.out, HNx.out⟩
        case measure => simp [intOf]; omega
    · have HE := Lib.hid (HMiss.out (fun j hj => HNo.out j (by omega) hj))
      clear hb
      go_wp2_with fail
      refine (gFail_any b g r 12 _ (HP.out.now HB.out)).mono ?_
      rintro e w2 ⟨rfl, hr2, ht2⟩
      have HP2 := Lib.hid hr2
      have HT2 : Hid (Turn (One b) w w2) := Lib.hid (turn_one (Turn.below HB.out) ht2)
      clear hr2 ht2
      go_wp2_with fail
      go_ret
      exact ⟨by rw [HE.out]; rfl, by rw [HE.out]; exact HP2.out, HT2.out⟩
-- prAfter : behind prHead: the world is wd; HPd (the parser), HTd, d0 .. d3 (the token's cells), e1, e3, g1
set_option maxRecDepth 100000 in
set_option maxHeartbeats 2000000 in
theorem gName_any (b g : Nat) (r : St) (w : World) (h : PrsAt b g r w) : Calls Tryd.prog 38 #[.pointer (some ⟨b, 0, none⟩)] w (PrsOut b g (.string (bs (nameJ r).1)) (nameJ r).2 w) := by
  have HP := Lib.hid h
  obtain ⟨⟨off, n, c, k, h1, h2, h3, h4, h5, h6, h7⟩, hf⟩ := h
  obtain ⟨toks, pos, err⟩ := r
  cases toks with
  | nil => exact absurd rfl hf.ne
  | cons t l =>
    have hkn : (k : Int) < n := by simp at h1; omega
    obtain ⟨t0, t1, t2, t3⟩ := h7.head
    have c0 := box_cell h6 0 _ rfl
    have c1 := box_cell h6 1 _ rfl
    have c3 := box_cell h6 3 _ rfl
    have f1 := box_free h6 1
    have hbl := box_lt h6
    have HF := Lib.hid hf
    clear h6 h7 hf h1
    have hkn2 : k < n := by omega
    have HB : Hid (∀ o, Below w.heap.size w (w.alloc o).drew) := Lib.hid (fun o => ((Below.refl _ _).alloc (Nat.le_refl _) _).drew)
    by_cases hw : err = 0 ∧ (t.sh.kind == 0) = true
    · obtain ⟨rfl, hk0⟩ := hw
      have hk1 : (t.sh.kind != 0) = false := by rw [bne, hk0]; rfl
      have HE : Hid (nameJ ⟨t :: l, pos, 0⟩ = (t.sh.text, stepJ ⟨t :: l, pos, 0⟩)) := Lib.hid (by
        obtain ⟨sh, p⟩ := t
        cases sh with
        | word s => rfl
        | num s n => simp [Sh.kind] at hk0
        | sign => simp [Sh.kind] at hk0
        | fin => simp [Sh.kind] at hk0)
      have HHd : Hid (∀ u, (⟨t :: l, pos, 0⟩ : St).toks.head? = some u → u.sh ≠ .fin) := Lib.hid (fun u hu e => by
        simp at hu
        subst hu
        rw [e] at hk0
        simp [Sh.kind] at hk0)
      go_enter Tryd.func38, Tryd.ntmps38
      go_wp2_with fail
      refine wp_region_J (S := fun w' => w'.cell? ⟨b, 0, none⟩ = some (.slice (some ⟨g, off, none⟩) n c) ∧ w'.cell? ⟨b, 1, none⟩ = some (.int .i64 (k : Nat)) ∧ w'.cell? ⟨g, off + k * 4, none⟩ = some (.int .i64 t.sh.kind) ∧ w'.cell? ⟨g, off + k * 4 + 1, none⟩ = some (.string (bs t.sh.text)) ∧ w'.cell? ⟨g, off + k * 4 + 2, none⟩ = some (.int .i64 t.sh.n) ∧ w'.cell? ⟨g, off + k * 4 + 3, none⟩ = some (.int .i64 t.pos)) (fun _ => false) (by kernel_rfl) (⟨c0, c1, t0, t1, t2, t3⟩) (fun hHeld => ?_)
      refine wpAnyJ_take (i := 0) (v := ?_) rfl (by kernel_rfl) (by kernel_rfl) (by kernel_rfl) (by kernel_rfl) (fun _ _ _ h => h) (Or.inl ⟨by rfl, ?_⟩) hHeld ?_
      rotate_left
      · intro wq hSq
        skip
        go_simp
        try with_reducible rfl
      simp only [Act.put, List.setIfInBounds_toArray, List.set_cons_zero, List.set_cons_succ]
      refine wpAnyJ_take (i := 1) (v := ?_) rfl (by kernel_rfl) (by kernel_rfl) (by kernel_rfl) (by kernel_rfl) (fun _ _ _ h => h) (Or.inl ⟨by rfl, ?_⟩) hHeld ?_
      rotate_left
      · intro wq hSq
        skip
        go_simp
        try with_reducible rfl
      simp only [Act.put, List.setIfInBounds_toArray, List.set_cons_zero, List.set_cons_succ]
      refine wpAnyJ_take (i := 2) (v := ?_) rfl (by kernel_rfl) (by kernel_rfl) (by kernel_rfl) (by kernel_rfl) (fun _ _ _ h => h) (Or.inl ⟨by rfl, ?_⟩) hHeld ?_
      rotate_left
      · intro wq hSq
        skip
        go_simp
        try with_reducible rfl
      simp only [Act.put, List.setIfInBounds_toArray, List.set_cons_zero, List.set_cons_succ]
      refine wpAnyJ_take (i := 3) (v := ?_) rfl (by kernel_rfl) (by kernel_rfl) (by kernel_rfl) (by kernel_rfl) (fun _ _ _ h => h) (Or.inl ⟨by rfl, ?_⟩) hHeld ?_
      rotate_left
      · intro wq hSq
        obtain ⟨s0, s1, s2, s3, s4, s5⟩ := hSq
        go_simp
        try with_reducible rfl
      simp only [Act.put, List.setIfInBounds_toArray, List.set_cons_zero, List.set_cons_succ]
      refine wpAnyJ_take (i := 4) (v := ?_) rfl (by kernel_rfl) (by kernel_rfl) (by kernel_rfl) (by kernel_rfl) (fun _ _ _ h => h) (Or.inl ⟨by rfl, ?_⟩) hHeld ?_
      rotate_left
      · intro wq hSq
        skip
        go_simp
        try with_reducible rfl
      simp only [Act.put, List.setIfInBounds_toArray, List.set_cons_zero, List.set_cons_succ]
      refine wpAnyJ_take (i := 5) (v := ?_) rfl (by kernel_rfl) (by kernel_rfl) (by kernel_rfl) (by kernel_rfl) (fun _ _ _ h => h) (Or.inl ⟨by rfl, ?_⟩) hHeld ?_
      rotate_left
      · intro wq hSq
        skip
        go_simp
        try with_reducible rfl
      simp only [Act.put, List.setIfInBounds_toArray, List.set_cons_zero, List.set_cons_succ]
      refine wpAnyJ_take (i := 6) (v := ?_) rfl (by kernel_rfl) (by kernel_rfl) (by kernel_rfl) (by kernel_rfl) (fun _ _ _ h => h) (Or.inl ⟨by rfl, ?_⟩) hHeld ?_
      rotate_left
      · intro wq hSq
        skip
        go_simp
        try with_reducible rfl
      simp only [Act.put, List.setIfInBounds_toArray, List.set_cons_zero, List.set_cons_succ]
      refine wpAnyJ_take (i := 7) (v := ?_) rfl (by kernel_rfl) (by kernel_rfl) (by kernel_rfl) (by kernel_rfl) (fun _ _ _ h => h) (Or.inl ⟨by rfl, ?_⟩) hHeld ?_
      rotate_left
      · intro wq hSq
        obtain ⟨s0, s1, s2, s3, s4, s5⟩ := hSq
        go_simp
        try with_reducible rfl
      simp only [Act.put, List.setIfInBounds_toArray, List.set_cons_zero, List.set_cons_succ]
      refine wpAnyJ_take (i := 8) (v := ?_) rfl (by kernel_rfl) (by kernel_rfl) (by kernel_rfl) (by kernel_rfl) (fun _ _ _ h => h) (Or.inl ⟨by rfl, ?_⟩) hHeld ?_
      rotate_left
      · intro wq hSq
        skip
        go_simp
        try with_reducible rfl
      simp only [Act.put, List.setIfInBounds_toArray, List.set_cons_zero, List.set_cons_succ]
      refine wpAnyJ_take (i := 9) (v := ?_) rfl (by kernel_rfl) (by kernel_rfl) (by kernel_rfl) (by kernel_rfl) (fun _ _ _ h => h) (Or.inl ⟨by rfl, ?_⟩) hHeld ?_
      rotate_left
      · intro wq hSq
        obtain ⟨s0, s1, s2, s3, s4, s5⟩ := hSq
        go_simp
        try with_reducible rfl
      simp only [Act.put, List.setIfInBounds_toArray, List.set_cons_zero, List.set_cons_succ]
      refine wpAnyJ_one (i := 10) rfl (by kernel_rfl) (fun K hK => ?_)
      go_simp
      refine hK.out _ _ (fun _ _ => ⟨(cell_old w _ b 0 hbl).trans c0, (cell_old w _ b 1 hbl).trans c1, (cell_old w _ g _ h5).trans t0, (cell_old w _ g _ h5).trans t1, (cell_old w _ g _ h5).trans t2, (cell_old w _ g _ h5).trans t3⟩) ?_
      clear hK K
      refine wpAnyJ_one (i := 11) rfl (by kernel_rfl) (fun K hK => ?_)
      go_simp
      refine hK.out _ _ (fun _ _ => ⟨(cell_old w _ b 0 hbl).trans c0, (cell_old w _ b 1 hbl).trans c1, (cell_old w _ g _ h5).trans t0, (cell_old w _ g _ h5).trans t1, (cell_old w _ g _ h5).trans t2, (cell_old w _ g _ h5).trans t3⟩) ?_
      clear hK K
      refine wpAnyJ_done (by kernel_rfl) ?_ _
      have hpd := HP.out.now (HB.out (.cells #[.int .i64 t.sh.kind, .string (bs t.sh.text), .int .i64 t.sh.n, .int .i64 t.pos] 41))
      have htd : Turn (One b) w (w.alloc (.cells #[.int .i64 t.sh.kind, .string (bs t.sh.text), .int .i64 t.sh.n, .int .i64 t.pos] 41)).drew := Turn.below (HB.out _)
      have hbx : (w.alloc (.cells #[.int .i64 t.sh.kind, .string (bs t.sh.text), .int .i64 t.sh.n, .int .i64 t.pos] 41)).drew.heap[w.heap.size]? = some (.cells #[.int .i64 t.sh.kind, .string (bs t.sh.text), .int .i64 t.sh.n, .int .i64 t.pos] 41 (0, 0)) := (MapKept.heap_alloc w _).1
      have e3 : (w.alloc (.cells #[.int .i64 t.sh.kind, .string (bs t.sh.text), .int .i64 t.sh.n, .int .i64 t.pos] 41)).drew.cell? ⟨b, 3, none⟩ = some (.int .i64 (0)) := (cell_old w _ b 3 hbl).trans c3
      obtain ⟨wd, hwd⟩ : ∃ x, x = (w.alloc (.cells #[.int .i64 t.sh.kind, .string (bs t.sh.text), .int .i64 t.sh.n, .int .i64 t.pos] 41)).drew := ⟨_, rfl⟩
      rw [← hwd] at hpd htd hbx e3 ⊢
      have d0 := box_cell hbx 0 _ rfl
      have d1 := box_cell hbx 1 _ rfl
      have d2 := box_cell hbx 2 _ rfl
      have hqb : w.heap.size ≠ b := Nat.ne_of_gt hbl
      have HPd := Lib.hid hpd
      have HTd := Lib.hid htd
      clear hpd htd hbx hwd c0 c1 c3 t0 t1 t2 t3 HP HB
      obtain ⟨kk, hkk, e1, g1, hp⟩ := HPd.out.step HHd.out
      have HP1 := Lib.hid hp
      clear hp HHd
      go_wp2_with fail
      go_ret
      exact ⟨by rw [HE.out]; rfl, by rw [HE.out]; exact HP1.out, HTd.out.set b 1 _ (.inl rfl)⟩
    · have HE : Hid (nameJ ⟨t :: l, pos, err⟩ = ([], failJ 12 ⟨t :: l, pos, err⟩)) := Lib.hid (by
        by_cases he : err = 0
        · subst he
          obtain ⟨sh, p⟩ := t
          cases sh with
          | word s => exact absurd ⟨rfl, rfl⟩ hw
          | num s n => rfl
          | sign => rfl
          | fin => rfl
        · simp [nameJ, failJ, he])
      by_cases he : err = 0
      · have hk1 : (t.sh.kind != 0) = true := by
          cases hq : (t.sh.kind == 0) with
          | true => exact absurd ⟨he, hq⟩ hw
          | false => rw [bne, hq]; rfl
        subst he
        clear hw
        go_enter Tryd.func38, Tryd.ntmps38
        go_wp2_with fail
        refine wp_region_J (S := fun w' => w'.cell? ⟨b, 0, none⟩ = some (.slice (some ⟨g, off, none⟩) n c) ∧ w'.cell? ⟨b, 1, none⟩ = some (.int .i64 (k : Nat)) ∧ w'.cell? ⟨g, off + k * 4, none⟩ = some (.int .i64 t.sh.kind) ∧ w'.cell? ⟨g, off + k * 4 + 1, none⟩ = some (.string (bs t.sh.text)) ∧ w'.cell? ⟨g, off + k * 4 + 2, none⟩ = some (.int .i64 t.sh.n) ∧ w'.cell? ⟨g, off + k * 4 + 3, none⟩ = some (.int .i64 t.pos)) (fun _ => false) (by kernel_rfl) (⟨c0, c1, t0, t1, t2, t3⟩) (fun hHeld => ?_)
        refine wpAnyJ_take (i := 0) (v := ?_) rfl (by kernel_rfl) (by kernel_rfl) (by kernel_rfl) (by kernel_rfl) (fun _ _ _ h => h) (Or.inl ⟨by rfl, ?_⟩) hHeld ?_
        rotate_left
        · intro wq hSq
          skip
          go_simp
          try with_reducible rfl
        simp only [Act.put, List.setIfInBounds_toArray, List.set_cons_zero, List.set_cons_succ]
        refine wpAnyJ_take (i := 1) (v := ?_) rfl (by kernel_rfl) (by kernel_rfl) (by kernel_rfl) (by kernel_rfl) (fun _ _ _ h => h) (Or.inl ⟨by rfl, ?_⟩) hHeld ?_
        rotate_left
        · intro wq hSq
          skip
          go_simp
          try with_reducible rfl
        simp only [Act.put, List.setIfInBounds_toArray, List.set_cons_zero, List.set_cons_succ]
        refine wpAnyJ_take (i := 2) (v := ?_) rfl (by kernel_rfl) (by kernel_rfl) (by kernel_rfl) (by kernel_rfl) (fun _ _ _ h => h) (Or.inl ⟨by rfl, ?_⟩) hHeld ?_
        rotate_left
        · intro wq hSq
          skip
          go_simp
          try with_reducible rfl
        simp only [Act.put, List.setIfInBounds_toArray, List.set_cons_zero, List.set_cons_succ]
        refine wpAnyJ_take (i := 3) (v := ?_) rfl (by kernel_rfl) (by kernel_rfl) (by kernel_rfl) (by kernel_rfl) (fun _ _ _ h => h) (Or.inl ⟨by rfl, ?_⟩) hHeld ?_
        rotate_left
        · intro wq hSq
          obtain ⟨s0, s1, s2, s3, s4, s5⟩ := hSq
          go_simp
          try with_reducible rfl
        simp only [Act.put, List.setIfInBounds_toArray, List.set_cons_zero, List.set_cons_succ]
        refine wpAnyJ_take (i := 4) (v := ?_) rfl (by kernel_rfl) (by kernel_rfl) (by kernel_rfl) (by kernel_rfl) (fun _ _ _ h => h) (Or.inl ⟨by rfl, ?_⟩) hHeld ?_
        rotate_left
        · intro wq hSq
          skip
          go_simp
          try with_reducible rfl
        simp only [Act.put, List.setIfInBounds_toArray, List.set_cons_zero, List.set_cons_succ]
        refine wpAnyJ_take (i := 5) (v := ?_) rfl (by kernel_rfl) (by kernel_rfl) (by kernel_rfl) (by kernel_rfl) (fun _ _ _ h => h) (Or.inl ⟨by rfl, ?_⟩) hHeld ?_
        rotate_left
        · intro wq hSq
          skip
          go_simp
          try with_reducible rfl
        simp only [Act.put, List.setIfInBounds_toArray, List.set_cons_zero, List.set_cons_succ]
        refine wpAnyJ_take (i := 6) (v := ?_) rfl (by kernel_rfl) (by kernel_rfl) (by kernel_rfl) (by kernel_rfl) (fun _ _ _ h => h) (Or.inl ⟨by rfl, ?_⟩) hHeld ?_
        rotate_left
        · intro wq hSq
          skip
          go_simp
          try with_reducible rfl
        simp only [Act.put, List.setIfInBounds_toArray, List.set_cons_zero, List.set_cons_succ]
        refine wpAnyJ_take (i := 7) (v := ?_) rfl (by kernel_rfl) (by kernel_rfl) (by kernel_rfl) (by kernel_rfl) (fun _ _ _ h => h) (Or.inl ⟨by rfl, ?_⟩) hHeld ?_
        rotate_left
        · intro wq hSq
          obtain ⟨s0, s1, s2, s3, s4, s5⟩ := hSq
          go_simp
          try with_reducible rfl
        simp only [Act.put, List.setIfInBounds_toArray, List.set_cons_zero, List.set_cons_succ]
        refine wpAnyJ_take (i := 8) (v := ?_) rfl (by kernel_rfl) (by kernel_rfl) (by kernel_rfl) (by kernel_rfl) (fun _ _ _ h => h) (Or.inl ⟨by rfl, ?_⟩) hHeld ?_
        rotate_left
        · intro wq hSq
          skip
          go_simp
          try with_reducible rfl
        simp only [Act.put, List.setIfInBounds_toArray, List.set_cons_zero, List.set_cons_succ]
        refine wpAnyJ_take (i := 9) (v := ?_) rfl (by kernel_rfl) (by kernel_rfl) (by kernel_rfl) (by kernel_rfl) (fun _ _ _ h => h) (Or.inl ⟨by rfl, ?_⟩) hHeld ?_
        rotate_left
        · intro wq hSq
          obtain ⟨s0, s1, s2, s3, s4, s5⟩ := hSq
          go_simp
          try with_reducible rfl
        simp only [Act.put, List.setIfInBounds_toArray, List.set_cons_zero, List.set_cons_succ]
        refine wpAnyJ_one (i := 10) rfl (by kernel_rfl) (fun K hK => ?_)
        go_simp
        refine hK.out _ _ (fun _ _ => ⟨(cell_old w _ b 0 hbl).trans c0, (cell_old w _ b 1 hbl).trans c1, (cell_old w _ g _ h5).trans t0, (cell_old w _ g _ h5).trans t1, (cell_old w _ g _ h5).trans t2, (cell_old w _ g _ h5).trans t3⟩) ?_
        clear hK K
        refine wpAnyJ_one (i := 11) rfl (by kernel_rfl) (fun K hK => ?_)
        go_simp
        refine hK.out _ _ (fun _ _ => ⟨(cell_old w _ b 0 hbl).trans c0, (cell_old w _ b 1 hbl).trans c1, (cell_old w _ g _ h5).trans t0, (cell_old w _ g _ h5).trans t1, (cell_old w _ g _ h5).trans t2, (cell_old w _ g _ h5).trans t3⟩) ?_
        clear hK K
        refine wpAnyJ_done (by kernel_rfl) ?_ _
        have hpd := HP.out.now (HB.out (.cells #[.int .i64 t.sh.kind, .string (bs t.sh.text), .int .i64 t.sh.n, .int .i64 t.pos] 41))
        have htd : Turn (One b) w (w.alloc (.cells #[.int .i64 t.sh.kind, .string (bs t.sh.text), .int .i64 t.sh.n, .int .i64 t.pos] 41)).drew := Turn.below (HB.out _)
        have hbx : (w.alloc (.cells #[.int .i64 t.sh.kind, .string (bs t.sh.text), .int .i64 t.sh.n, .int .i64 t.pos] 41)).drew.heap[w.heap.size]? = some (.cells #[.int .i64 t.sh.kind, .string (bs t.sh.text), .int .i64 t.sh.n, .int .i64 t.pos] 41 (0, 0)) := (MapKept.heap_alloc w _).1
        have e3 : (w.alloc (.cells #[.int .i64 t.sh.kind, .string (bs t.sh.text), .int .i64 t.sh.n, .int .i64 t.pos] 41)).drew.cell? ⟨b, 3, none⟩ = some (.int .i64 (0)) := (cell_old w _ b 3 hbl).trans c3
        obtain ⟨wd, hwd⟩ : ∃ x, x = (w.alloc (.cells #[.int .i64 t.sh.kind, .string (bs t.sh.text), .int .i64 t.sh.n, .int .i64 t.pos] 41)).drew := ⟨_, rfl⟩
        rw [← hwd] at hpd htd hbx e3 ⊢
        have d0 := box_cell hbx 0 _ rfl
        have d1 := box_cell hbx 1 _ rfl
        have d2 := box_cell hbx 2 _ rfl
        have hqb : w.heap.size ≠ b := Nat.ne_of_gt hbl
        have HPd := Lib.hid hpd
        have HTd := Lib.hid htd
        clear hpd htd hbx hwd c0 c1 c3 t0 t1 t2 t3 HP HB
        go_wp2_with fail
        refine (gFail_any b g _ 12 _ HPd.out).mono ?_
        rintro e w2 ⟨rfl, hr2, ht2⟩
        have HP2 := Lib.hid hr2
        have HT2 := Lib.hid (turn_one HTd.out ht2)
        clear hr2 ht2
        go_wp2_with fail
        go_ret
        exact ⟨by rw [HE.out]; rfl, by rw [HE.out]; exact HP2.out, HT2.out⟩
      · have he2 : (err != 0) = true := by simpa using he
        clear hw
        go_enter Tryd.func38, Tryd.ntmps38
        go_wp2_with fail
        refine wp_region_J (S := fun w' => w'.cell? ⟨b, 0, none⟩ = some (.slice (some ⟨g, off, none⟩) n c) ∧ w'.cell? ⟨b, 1, none⟩ = some (.int .i64 (k : Nat)) ∧ w'.cell? ⟨g, off + k * 4, none⟩ = some (.int .i64 t.sh.kind) ∧ w'.cell? ⟨g, off + k * 4 + 1, none⟩ = some (.string (bs t.sh.text)) ∧ w'.cell? ⟨g, off + k * 4 + 2, none⟩ = some (.int .i64 t.sh.n) ∧ w'.cell? ⟨g, off + k * 4 + 3, none⟩ = some (.int .i64 t.pos)) (fun _ => false) (by kernel_rfl) (⟨c0, c1, t0, t1, t2, t3⟩) (fun hHeld => ?_)
        refine wpAnyJ_take (i := 0) (v := ?_) rfl (by kernel_rfl) (by kernel_rfl) (by kernel_rfl) (by kernel_rfl) (fun _ _ _ h => h) (Or.inl ⟨by rfl, ?_⟩) hHeld ?_
        rotate_left
        · intro wq hSq
          skip
          go_simp
          try with_reducible rfl
        simp only [Act.put, List.setIfInBounds_toArray, List.set_cons_zero, List.set_cons_succ]
        refine wpAnyJ_take (i := 1) (v := ?_) rfl (by kernel_rfl) (by kernel_rfl) (by kernel_rfl) (by kernel_rfl) (fun _ _ _ h => h) (Or.inl ⟨by rfl, ?_⟩) hHeld ?_
        rotate_left
        · intro wq hSq
          skip
          go_simp
          try with_reducible rfl
        simp only [Act.put, List.setIfInBounds_toArray, List.set_cons_zero, List.set_cons_succ]
        refine wpAnyJ_take (i := 2) (v := ?_) rfl (by kernel_rfl) (by kernel_rfl) (by kernel_rfl) (by kernel_rfl) (fun _ _ _ h => h) (Or.inl ⟨by rfl, ?_⟩) hHeld ?_
        rotate_left
        · intro wq hSq
          skip
          go_simp
          try with_reducible rfl
        simp only [Act.put, List.setIfInBounds_toArray, List.set_cons_zero, List.set_cons_succ]
        refine wpAnyJ_take (i := 3) (v := ?_) rfl (by kernel_rfl) (by kernel_rfl) (by kernel_rfl) (by kernel_rfl) (fun _ _ _ h => h) (Or.inl ⟨by rfl, ?_⟩) hHeld ?_
        rotate_left
        · intro wq hSq
          obtain ⟨s0, s1, s2, s3, s4, s5⟩ := hSq
          go_simp
          try with_reducible rfl
        simp only [Act.put, List.setIfInBounds_toArray, List.set_cons_zero, List.set_cons_succ]
        refine wpAnyJ_take (i := 4) (v := ?_) rfl (by kernel_rfl) (by kernel_rfl) (by kernel_rfl) (by kernel_rfl) (fun _ _ _ h => h) (Or.inl ⟨by rfl, ?_⟩) hHeld ?_
        rotate_left
        · intro wq hSq
          skip
          go_simp
          try with_reducible rfl
        simp only [Act.put, List.setIfInBounds_toArray, List.set_cons_zero, List.set_cons_succ]
        refine wpAnyJ_take (i := 5) (v := ?_) rfl (by kernel_rfl) (by kernel_rfl) (by kernel_rfl) (by kernel_rfl) (fun _ _ _ h => h) (Or.inl ⟨by rfl, ?_⟩) hHeld ?_
        rotate_left
        · intro wq hSq
          skip
          go_simp
          try with_reducible rfl
        simp only [Act.put, List.setIfInBounds_toArray, List.set_cons_zero, List.set_cons_succ]
        refine wpAnyJ_take (i := 6) (v := ?_) rfl (by kernel_rfl) (by kernel_rfl) (by kernel_rfl) (by kernel_rfl) (fun _ _ _ h => h) (Or.inl ⟨by rfl, ?_⟩) hHeld ?_
        rotate_left
        · intro wq hSq
          skip
          go_simp
          try with_reducible rfl
        simp only [Act.put, List.setIfInBounds_toArray, List.set_cons_zero, List.set_cons_succ]
        refine wpAnyJ_take (i := 7) (v := ?_) rfl (by kernel_rfl) (by kernel_rfl) (by kernel_rfl) (by kernel_rfl) (fun _ _ _ h => h) (Or.inl ⟨by rfl, ?_⟩) hHeld ?_
        rotate_left
        · intro wq hSq
          obtain ⟨s0, s1, s2, s3, s4, s5⟩ := hSq
          go_simp
          try with_reducible rfl
        simp only [Act.put, List.setIfInBounds_toArray, List.set_cons_zero, List.set_cons_succ]
        refine wpAnyJ_take (i := 8) (v := ?_) rfl (by kernel_rfl) (by kernel_rfl) (by kernel_rfl) (by kernel_rfl) (fun _ _ _ h => h) (Or.inl ⟨by rfl, ?_⟩) hHeld ?_
        rotate_left
        · intro wq hSq
          skip
          go_simp
          try with_reducible rfl
        simp only [Act.put, List.setIfInBounds_toArray, List.set_cons_zero, List.set_cons_succ]
        refine wpAnyJ_take (i := 9) (v := ?_) rfl (by kernel_rfl) (by kernel_rfl) (by kernel_rfl) (by kernel_rfl) (fun _ _ _ h => h) (Or.inl ⟨by rfl, ?_⟩) hHeld ?_
        rotate_left
        · intro wq hSq
          obtain ⟨s0, s1, s2, s3, s4, s5⟩ := hSq
          go_simp
          try with_reducible rfl
        simp only [Act.put, List.setIfInBounds_toArray, List.set_cons_zero, List.set_cons_succ]
        refine wpAnyJ_one (i := 10) rfl (by kernel_rfl) (fun K hK => ?_)
        go_simp
        refine hK.out _ _ (fun _ _ => ⟨(cell_old w _ b 0 hbl).trans c0, (cell_old w _ b 1 hbl).trans c1, (cell_old w _ g _ h5).trans t0, (cell_old w _ g _ h5).trans t1, (cell_old w _ g _ h5).trans t2, (cell_old w _ g _ h5).trans t3⟩) ?_
        clear hK K
        refine wpAnyJ_one (i := 11) rfl (by kernel_rfl) (fun K hK => ?_)
        go_simp
        refine hK.out _ _ (fun _ _ => ⟨(cell_old w _ b 0 hbl).trans c0, (cell_old w _ b 1 hbl).trans c1, (cell_old w _ g _ h5).trans t0, (cell_old w _ g _ h5).trans t1, (cell_old w _ g _ h5).trans t2, (cell_old w _ g _ h5).trans t3⟩) ?_
        clear hK K
        refine wpAnyJ_done (by kernel_rfl) ?_ _
        have hpd := HP.out.now (HB.out (.cells #[.int .i64 t.sh.kind, .string (bs t.sh.text), .int .i64 t.sh.n, .int .i64 t.pos] 41))
        have htd : Turn (One b) w (w.alloc (.cells #[.int .i64 t.sh.kind, .string (bs t.sh.text), .int .i64 t.sh.n, .int .i64 t.pos] 41)).drew := Turn.below (HB.out _)
        have hbx : (w.alloc (.cells #[.int .i64 t.sh.kind, .string (bs t.sh.text), .int .i64 t.sh.n, .int .i64 t.pos] 41)).drew.heap[w.heap.size]? = some (.cells #[.int .i64 t.sh.kind, .string (bs t.sh.text), .int .i64 t.sh.n, .int .i64 t.pos] 41 (0, 0)) := (MapKept.heap_alloc w _).1
        have e3 : (w.alloc (.cells #[.int .i64 t.sh.kind, .string (bs t.sh.text), .int .i64 t.sh.n, .int .i64 t.pos] 41)).drew.cell? ⟨b, 3, none⟩ = some (.int .i64 (err)) := (cell_old w _ b 3 hbl).trans c3
        obtain ⟨wd, hwd⟩ : ∃ x, x = (w.alloc (.cells #[.int .i64 t.sh.kind, .string (bs t.sh.text), .int .i64 t.sh.n, .int .i64 t.pos] 41)).drew := ⟨_, rfl⟩
        rw [← hwd] at hpd htd hbx e3 ⊢
        have d0 := box_cell hbx 0 _ rfl
        have d1 := box_cell hbx 1 _ rfl
        have d2 := box_cell hbx 2 _ rfl
        have hqb : w.heap.size ≠ b := Nat.ne_of_gt hbl
        have HPd := Lib.hid hpd
        have HTd := Lib.hid htd
        clear hpd htd hbx hwd c0 c1 c3 t0 t1 t2 t3 HP HB
        go_wp2_with fail
        refine (gFail_any b g _ 12 _ HPd.out).mono ?_
        rintro e w2 ⟨rfl, hr2, ht2⟩
        have HP2 := Lib.hid hr2
        have HT2 := Lib.hid (turn_one HTd.out ht2)
        clear hr2 ht2
        go_wp2_with fail
        go_ret
        exact ⟨by rw [HE.out]; rfl, by rw [HE.out]; exact HP2.out, HT2.out⟩
set_option maxRecDepth 100000 in
set_option maxHeartbeats 1000000 in
theorem gPart_any (b g : Nat) (r : St) (s : List UInt8) (ws : List (List UInt8)) (A : Option Addr) (cw : Nat) (w : World) (h : PrsAt b g r w) (hr : RdL 1 strE w w.heap.size A ws) (hA : ∀ i, slBlk A = some i → i ≠ b) (hm : ws.length ≤ 1000) :
    Calls Tryd.prog 43 #[.pointer (some ⟨b, 0, none⟩), .string (bs s), .slice A ws.length cw] w (PrsOut b g (.int .i64 (partG opsJ s ws r).1) (partG opsJ s ws r).2 w) := by
  have HP0 := Lib.hid h
  have HRW := Lib.hid hr
  have HE : Hid (partG opsJ s ws r = ((wantJ ws (wantJ [s] r).2).1, (wantJ [kSemi] (wantJ ws (wantJ [s] r).2).2).2)) := Lib.hid rfl
  clear h hr
  go_enter Tryd.func43, Tryd.ntmps43
  go_wp2_with fail
  refine (gWant_any b g r s w HP0.out).mono ?_
  rintro e w1 ⟨rfl, hr1, ht1⟩
  have HP1 := Lib.hid hr1
  have HT1 := Lib.hid ht1
  clear hr1 ht1
  go_wp2_with fail
  refine (gOne_any b g _ ws A cw _ HP1.out (HRW.out.turn (fun i hi hlt => HT1.out.block i hlt (hA i hi)) HT1.out.size) hm).mono ?_
  rintro e w2 ⟨rfl, hr2, ht2⟩
  have HP2 := Lib.hid hr2
  have HT2 := Lib.hid (turn_one HT1.out ht2)
  clear hr2 ht2
  go_wp2_with fail
  refine (gWant_any b g _ kSemi w2 HP2.out).mono ?_
  rintro e w3 ⟨rfl, hr3, ht3⟩
  have HP3 := Lib.hid hr3
  have HT3 := Lib.hid (turn_one HT2.out ht3)
  clear hr3 ht3
  go_wp2_with fail
  go_ret
  exact ⟨by rw [HE.out]; rfl, by rw [HE.out]; exact HP3.out, HT3.out⟩
set_option maxRecDepth 100000 in
set_option maxHeartbeats 2000000 in
theorem gNumber_any (b g : Nat) (r : St) (least : Int) (w : World) (h : PrsAt b g r w) : Calls Tryd.prog 42 #[.pointer (some ⟨b, 0, none⟩), .int .i64 least] w (PrsOut b g (.int .i64 (numJ least r).1) (numJ least r).2 w) := by
  have HP := Lib.hid h
  obtain ⟨⟨off, n, c, k, h1, h2, h3, h4, h5, h6, h7⟩, hf⟩ := h
  obtain ⟨toks, pos, err⟩ := r
  cases toks with
  | nil => exact absurd rfl hf.ne
  | cons t l =>
    have hkn : (k : Int) < n := by simp at h1; omega
    obtain ⟨t0, t1, t2, t3⟩ := h7.head
    have c0 := box_cell h6 0 _ rfl
    have c1 := box_cell h6 1 _ rfl
    have c3 := box_cell h6 3 _ rfl
    have hbl := box_lt h6
    clear h6 h7 hf h1
    have hkn2 : k < n := by omega
    have HB : Hid (∀ o, Below w.heap.size w (w.alloc o).drew) := Lib.hid (fun o => ((Below.refl _ _).alloc (Nat.le_refl _) _).drew)
    by_cases hw : err = 0 ∧ (t.sh.kind == 1) = true
    · obtain ⟨rfl, hk0⟩ := hw
      have hk1 : (t.sh.kind != 1) = false := by rw [bne, hk0]; rfl
      have HE0 : Hid (numJ least ⟨t :: l, pos, 0⟩ = if t.sh.n < least ∨ 1073741824 < t.sh.n then (0, failJ 3 ⟨t :: l, pos, 0⟩) else (t.sh.n, stepJ ⟨t :: l, pos, 0⟩)) := Lib.hid (by
        obtain ⟨sh, p⟩ := t
        cases sh with
        | num s n => rfl
        | word s => simp [Sh.kind] at hk0
        | sign => simp [Sh.kind] at hk0
        | fin => simp [Sh.kind] at hk0)
      have HHd : Hid (∀ u, (⟨t :: l, pos, 0⟩ : St).toks.head? = some u → u.sh ≠ .fin) := Lib.hid (fun u hu e => by
        simp at hu
        subst hu
        rw [e] at hk0
        simp [Sh.kind] at hk0)
      by_cases hn1 : t.sh.n < least
      · have HE : Hid (numJ least ⟨t :: l, pos, 0⟩ = (0, failJ 3 ⟨t :: l, pos, 0⟩)) := Lib.hid (by rw [HE0.out, if_pos (.inl hn1)])
        clear HE0 HHd
        go_enter Tryd.func42, Tryd.ntmps42
        go_wp2_with fail
        refine wp_region_J (S := fun w' => w'.cell? ⟨b, 0, none⟩ = some (.slice (some ⟨g, off, none⟩) n c) ∧ w'.cell? ⟨b, 1, none⟩ = some (.int .i64 (k : Nat)) ∧ w'.cell? ⟨g, off + k * 4, none⟩ = some (.int .i64 t.sh.kind) ∧ w'.cell? ⟨g, off + k * 4 + 1, none⟩ = some (.string (bs t.sh.text)) ∧ w'.cell? ⟨g, off + k * 4 + 2, none⟩ = some (.int .i64 t.sh.n) ∧ w'.cell? ⟨g, off + k * 4 + 3, none⟩ = some (.int .i64 t.pos)) (fun _ => false) (by kernel_rfl) (⟨c0, c1, t0, t1, t2, t3⟩) (fun hHeld => ?_)
        refine wpAnyJ_take (i := 0) (v := ?_) rfl (by kernel_rfl) (by kernel_rfl) (by kernel_rfl) (by kernel_rfl) (fun _ _ _ h => h) (Or.inl ⟨by rfl, ?_⟩) hHeld ?_
        rotate_left
        · intro wq hSq
          skip
          go_simp
          try with_reducible rfl
        simp only [Act.put, List.setIfInBounds_toArray, List.set_cons_zero, List.set_cons_succ]
        refine wpAnyJ_take (i := 1) (v := ?_) rfl (by kernel_rfl) (by kernel_rfl) (by kernel_rfl) (by kernel_rfl) (fun _ _ _ h => h) (Or.inl ⟨by rfl, ?_⟩) hHeld ?_
        rotate_left
        · intro wq hSq
          skip
          go_simp
          try with_reducible rfl
        simp only [Act.put, List.setIfInBounds_toArray, List.set_cons_zero, List.set_cons_succ]
        refine wpAnyJ_take (i := 2) (v := ?_) rfl (by kernel_rfl) (by kernel_rfl) (by kernel_rfl) (by kernel_rfl) (fun _ _ _ h => h) (Or.inl ⟨by rfl, ?_⟩) hHeld ?_
        rotate_left
        · intro wq hSq
          skip
          go_simp
          try with_reducible rfl
        simp only [Act.put, List.setIfInBounds_toArray, List.set_cons_zero, List.set_cons_succ]
        refine wpAnyJ_take (i := 3) (v := ?_) rfl (by kernel_rfl) (by kernel_rfl) (by kernel_rfl) (by kernel_rfl) (fun _ _ _ h => h) (Or.inl ⟨by rfl, ?_⟩) hHeld ?_
        rotate_left
        · intro wq hSq
          obtain ⟨s0, s1, s2, s3, s4, s5⟩ := hSq
          go_simp
          try with_reducible rfl
        simp only [Act.put, List.setIfInBounds_toArray, List.set_cons_zero, List.set_cons_succ]
        refine wpAnyJ_take (i := 4) (v := ?_) rfl (by kernel_rfl) (by kernel_rfl) (by kernel_rfl) (by kernel_rfl) (fun _ _ _ h => h) (Or.inl ⟨by rfl, ?_⟩) hHeld ?_
        rotate_left
        · intro wq hSq
          skip
          go_simp
          try with_reducible rfl
        simp only [Act.put, List.setIfInBounds_toArray, List.set_cons_zero, List.set_cons_succ]
        refine wpAnyJ_take (i := 5) (v := ?_) rfl (by kernel_rfl) (by kernel_rfl) (by kernel_rfl) (by kernel_rfl) (fun _ _ _ h => h) (Or.inl ⟨by rfl, ?_⟩) hHeld ?_
        rotate_left
        · intro wq hSq
          skip
          go_simp
          try with_reducible rfl
        simp only [Act.put, List.setIfInBounds_toArray, List.set_cons_zero, List.set_cons_succ]
        refine wpAnyJ_take (i := 6) (v := ?_) rfl (by kernel_rfl) (by kernel_rfl) (by kernel_rfl) (by kernel_rfl) (fun _ _ _ h => h) (Or.inl ⟨by rfl, ?_⟩) hHeld ?_
        rotate_left
        · intro wq hSq
          skip
          go_simp
          try with_reducible rfl
        simp only [Act.put, List.setIfInBounds_toArray, List.set_cons_zero, List.set_cons_succ]
        refine wpAnyJ_take (i := 7) (v := ?_) rfl (by kernel_rfl) (by kernel_rfl) (by kernel_rfl) (by kernel_rfl) (fun _ _ _ h => h) (Or.inl ⟨by rfl, ?_⟩) hHeld ?_
        rotate_left
        · intro wq hSq
          obtain ⟨s0, s1, s2, s3, s4, s5⟩ := hSq
          go_simp
          try with_reducible rfl
        simp only [Act.put, List.setIfInBounds_toArray, List.set_cons_zero, List.set_cons_succ]
        refine wpAnyJ_take (i := 8) (v := ?_) rfl (by kernel_rfl) (by kernel_rfl) (by kernel_rfl) (by kernel_rfl) (fun _ _ _ h => h) (Or.inl ⟨by rfl, ?_⟩) hHeld ?_
        rotate_left
        · intro wq hSq
          skip
          go_simp
          try with_reducible rfl
        simp only [Act.put, List.setIfInBounds_toArray, List.set_cons_zero, List.set_cons_succ]
        refine wpAnyJ_take (i := 9) (v := ?_) rfl (by kernel_rfl) (by kernel_rfl) (by kernel_rfl) (by kernel_rfl) (fun _ _ _ h => h) (Or.inl ⟨by rfl, ?_⟩) hHeld ?_
        rotate_left
        · intro wq hSq
          obtain ⟨s0, s1, s2, s3, s4, s5⟩ := hSq
          go_simp
          try with_reducible rfl
        simp only [Act.put, List.setIfInBounds_toArray, List.set_cons_zero, List.set_cons_succ]
        refine wpAnyJ_one (i := 10) rfl (by kernel_rfl) (fun K hK => ?_)
        go_simp
        refine hK.out _ _ (fun _ _ => ⟨(cell_old w _ b 0 hbl).trans c0, (cell_old w _ b 1 hbl).trans c1, (cell_old w _ g _ h5).trans t0, (cell_old w _ g _ h5).trans t1, (cell_old w _ g _ h5).trans t2, (cell_old w _ g _ h5).trans t3⟩) ?_
        clear hK K
        refine wpAnyJ_one (i := 11) rfl (by kernel_rfl) (fun K hK => ?_)
        go_simp
        refine hK.out _ _ (fun _ _ => ⟨(cell_old w _ b 0 hbl).trans c0, (cell_old w _ b 1 hbl).trans c1, (cell_old w _ g _ h5).trans t0, (cell_old w _ g _ h5).trans t1, (cell_old w _ g _ h5).trans t2, (cell_old w _ g _ h5).trans t3⟩) ?_
        clear hK K
        refine wpAnyJ_done (by kernel_rfl) ?_ _
        have hpd := HP.out.now (HB.out (.cells #[.int .i64 t.sh.kind, .string (bs t.sh.text), .int .i64 t.sh.n, .int .i64 t.pos] 41))
        have htd : Turn (One b) w (w.alloc (.cells #[.int .i64 t.sh.kind, .string (bs t.sh.text), .int .i64 t.sh.n, .int .i64 t.pos] 41)).drew := Turn.below (HB.out _)
        have hbx : (w.alloc (.cells #[.int .i64 t.sh.kind, .string (bs t.sh.text), .int .i64 t.sh.n, .int .i64 t.pos] 41)).drew.heap[w.heap.size]? = some (.cells #[.int .i64 t.sh.kind, .string (bs t.sh.text), .int .i64 t.sh.n, .int .i64 t.pos] 41 (0, 0)) := (MapKept.heap_alloc w _).1
        have e3 : (w.alloc (.cells #[.int .i64 t.sh.kind, .string (bs t.sh.text), .int .i64 t.sh.n, .int .i64 t.pos] 41)).drew.cell? ⟨b, 3, none⟩ = some (.int .i64 (0)) := (cell_old w _ b 3 hbl).trans c3
        obtain ⟨wd, hwd⟩ : ∃ x, x = (w.alloc (.cells #[.int .i64 t.sh.kind, .string (bs t.sh.text), .int .i64 t.sh.n, .int .i64 t.pos] 41)).drew := ⟨_, rfl⟩
        rw [← hwd] at hpd htd hbx e3 ⊢
        have d0 := box_cell hbx 0 _ rfl
        have d1 := box_cell hbx 1 _ rfl
        have d2 := box_cell hbx 2 _ rfl
        have hqb : w.heap.size ≠ b := Nat.ne_of_gt hbl
        have HPd := Lib.hid hpd
        have HTd := Lib.hid htd
        clear hpd htd hbx hwd c0 c1 c3 t0 t1 t2 t3 HP HB
        go_wp2_with fail
        refine (gFail_any b g _ 3 _ HPd.out).mono ?_
        rintro e w2 ⟨rfl, hr2, ht2⟩
        have HP2 := Lib.hid hr2
        have HT2 := Lib.hid (turn_one HTd.out ht2)
        clear hr2 ht2
        go_wp2_with fail
        go_ret
        exact ⟨by rw [HE.out]; rfl, by rw [HE.out]; exact HP2.out, HT2.out⟩
      · by_cases hn2 : 1073741824 < t.sh.n
        · have HE : Hid (numJ least ⟨t :: l, pos, 0⟩ = (0, failJ 3 ⟨t :: l, pos, 0⟩)) := Lib.hid (by rw [HE0.out, if_pos (.inr hn2)])
          clear HE0 HHd
          go_enter Tryd.func42, Tryd.ntmps42
          go_wp2_with fail
          refine wp_region_J (S := fun w' => w'.cell? ⟨b, 0, none⟩ = some (.slice (some ⟨g, off, none⟩) n c) ∧ w'.cell? ⟨b, 1, none⟩ = some (.int .i64 (k : Nat)) ∧ w'.cell? ⟨g, off + k * 4, none⟩ = some (.int .i64 t.sh.kind) ∧ w'.cell? ⟨g, off + k * 4 + 1, none⟩ = some (.string (bs t.sh.text)) ∧ w'.cell? ⟨g, off + k * 4 + 2, none⟩ = some (.int .i64 t.sh.n) ∧ w'.cell? ⟨g, off + k * 4 + 3, none⟩ = some (.int .i64 t.pos)) (fun _ => false) (by kernel_rfl) (⟨c0, c1, t0, t1, t2, t3⟩) (fun hHeld => ?_)
          refine wpAnyJ_take (i := 0) (v := ?_) rfl (by kernel_rfl) (by kernel_rfl) (by kernel_rfl) (by kernel_rfl) (fun _ _ _ h => h) (Or.inl ⟨by rfl, ?_⟩) hHeld ?_
          rotate_left
          · intro wq hSq
            skip
            go_simp
            try with_reducible rfl
          simp only [Act.put, List.setIfInBounds_toArray, List.set_cons_zero, List.set_cons_succ]
          refine wpAnyJ_take (i := 1) (v := ?_) rfl (by kernel_rfl) (by kernel_rfl) (by kernel_rfl) (by kernel_rfl) (fun _ _ _ h => h) (Or.inl ⟨by rfl, ?_⟩) hHeld ?_
          rotate_left
          · intro wq hSq
            skip
            go_simp
            try with_reducible rfl
          simp only [Act.put, List.setIfInBounds_toArray, List.set_cons_zero, List.set_cons_succ]
          refine wpAnyJ_take (i := 2) (v := ?_) rfl (by kernel_rfl) (by kernel_rfl) (by kernel_rfl) (by kernel_rfl) (fun _ _ _ h => h) (Or.inl ⟨by rfl, ?_⟩) hHeld ?_
          rotate_left
          · intro wq hSq
            skip
            go_simp
            try with_reducible rfl
          simp only [Act.put, List.setIfInBounds_toArray, List.set_cons_zero, List.set_cons_succ]
          refine wpAnyJ_take (i := 3) (v := ?_) rfl (by kernel_rfl) (by kernel_rfl) (by kernel_rfl) (by kernel_rfl) (fun _ _ _ h => h) (Or.inl ⟨by rfl, ?_⟩) hHeld ?_
          rotate_left
          · intro wq hSq
            obtain ⟨s0, s1, s2, s3, s4, s5⟩ := hSq
            go_simp
            try with_reducible rfl
          simp only [Act.put, List.setIfInBounds_toArray, List.set_cons_zero, List.set_cons_succ]
          refine wpAnyJ_take (i := 4) (v := ?_) rfl (by kernel_rfl) (by kernel_rfl) (by kernel_rfl) (by kernel_rfl) (fun _ _ _ h => h) (Or.inl ⟨by rfl, ?_⟩) hHeld ?_
          rotate_left
          · intro wq hSq
            skip
            go_simp
            try with_reducible rfl
          simp only [Act.put, List.setIfInBounds_toArray, List.set_cons_zero, List.set_cons_succ]
          refine wpAnyJ_take (i := 5) (v := ?_) rfl (by kernel_rfl) (by kernel_rfl) (by kernel_rfl) (by kernel_rfl) (fun _ _ _ h => h) (Or.inl ⟨by rfl, ?_⟩) hHeld ?_
          rotate_left
          · intro wq hSq
            skip
            go_simp
            try with_reducible rfl
          simp only [Act.put, List.setIfInBounds_toArray, List.set_cons_zero, List.set_cons_succ]
          refine wpAnyJ_take (i := 6) (v := ?_) rfl (by kernel_rfl) (by kernel_rfl) (by kernel_rfl) (by kernel_rfl) (fun _ _ _ h => h) (Or.inl ⟨by rfl, ?_⟩) hHeld ?_
          rotate_left
          · intro wq hSq
            skip
            go_simp
            try with_reducible rfl
          simp only [Act.put, List.setIfInBounds_toArray, List.set_cons_zero, List.set_cons_succ]
          refine wpAnyJ_take (i := 7) (v := ?_) rfl (by kernel_rfl) (by kernel_rfl) (by kernel_rfl) (by kernel_rfl) (fun _ _ _ h => h) (Or.inl ⟨by rfl, ?_⟩) hHeld ?_
          rotate_left
          · intro wq hSq
            obtain ⟨s0, s1, s2, s3, s4, s5⟩ := hSq
            go_simp
            try with_reducible rfl
          simp only [Act.put, List.setIfInBounds_toArray, List.set_cons_zero, List.set_cons_succ]
          refine wpAnyJ_take (i := 8) (v := ?_) rfl (by kernel_rfl) (by kernel_rfl) (by kernel_rfl) (by kernel_rfl) (fun _ _ _ h => h) (Or.inl ⟨by rfl, ?_⟩) hHeld ?_
          rotate_left
          · intro wq hSq
            skip
            go_simp
            try with_reducible rfl
          simp only [Act.put, List.setIfInBounds_toArray, List.set_cons_zero, List.set_cons_succ]
          refine wpAnyJ_take (i := 9) (v := ?_) rfl (by kernel_rfl) (by kernel_rfl) (by kernel_rfl) (by kernel_rfl) (fun _ _ _ h => h) (Or.inl ⟨by rfl, ?_⟩) hHeld ?_
          rotate_left
          · intro wq hSq
            obtain ⟨s0, s1, s2, s3, s4, s5⟩ := hSq
            go_simp
            try with_reducible rfl
          simp only [Act.put, List.setIfInBounds_toArray, List.set_cons_zero, List.set_cons_succ]
          refine wpAnyJ_one (i := 10) rfl (by kernel_rfl) (fun K hK => ?_)
          go_simp
          refine hK.out _ _ (fun _ _ => ⟨(cell_old w _ b 0 hbl).trans c0, (cell_old w _ b 1 hbl).trans c1, (cell_old w _ g _ h5).trans t0, (cell_old w _ g _ h5).trans t1, (cell_old w _ g _ h5).trans t2, (cell_old w _ g _ h5).trans t3⟩) ?_
          clear hK K
          refine wpAnyJ_one (i := 11) rfl (by kernel_rfl) (fun K hK => ?_)
          go_simp
          refine hK.out _ _ (fun _ _ => ⟨(cell_old w _ b 0 hbl).trans c0, (cell_old w _ b 1 hbl).trans c1, (cell_old w _ g _ h5).trans t0, (cell_old w _ g _ h5).trans t1, (cell_old w _ g _ h5).trans t2, (cell_old w _ g _ h5).trans t3⟩) ?_
          clear hK K
          refine wpAnyJ_done (by kernel_rfl) ?_ _
          have hpd := HP.out.now (HB.out (.cells #[.int .i64 t.sh.kind, .string (bs t.sh.text), .int .i64 t.sh.n, .int .i64 t.pos] 41))
          have htd : Turn (One b) w (w.alloc (.cells #[.int .i64 t.sh.kind, .string (bs t.sh.text), .int .i64 t.sh.n, .int .i64 t.pos] 41)).drew := Turn.below (HB.out _)
          have hbx : (w.alloc (.cells #[.int .i64 t.sh.kind, .string (bs t.sh.text), .int .i64 t.sh.n, .int .i64 t.pos] 41)).drew.heap[w.heap.size]? = some (.cells #[.int .i64 t.sh.kind, .string (bs t.sh.text), .int .i64 t.sh.n, .int .i64 t.pos] 41 (0, 0)) := (MapKept.heap_alloc w _).1
          have e3 : (w.alloc (.cells #[.int .i64 t.sh.kind, .string (bs t.sh.text), .int .i64 t.sh.n, .int .i64 t.pos] 41)).drew.cell? ⟨b, 3, none⟩ = some (.int .i64 (0)) := (cell_old w _ b 3 hbl).trans c3
          obtain ⟨wd, hwd⟩ : ∃ x, x = (w.alloc (.cells #[.int .i64 t.sh.kind, .string (bs t.sh.text), .int .i64 t.sh.n, .int .i64 t.pos] 41)).drew := ⟨_, rfl⟩
          rw [← hwd] at hpd htd hbx e3 ⊢
          have d0 := box_cell hbx 0 _ rfl
          have d1 := box_cell hbx 1 _ rfl
          have d2 := box_cell hbx 2 _ rfl
          have hqb : w.heap.size ≠ b := Nat.ne_of_gt hbl
          have HPd := Lib.hid hpd
          have HTd := Lib.hid htd
          clear hpd htd hbx hwd c0 c1 c3 t0 t1 t2 t3 HP HB
          go_wp2_with fail
          refine (gFail_any b g _ 3 _ HPd.out).mono ?_
          rintro e w2 ⟨rfl, hr2, ht2⟩
          have HP2 := Lib.hid hr2
          have HT2 := Lib.hid (turn_one HTd.out ht2)
          clear hr2 ht2
          go_wp2_with fail
          go_ret
          exact ⟨by rw [HE.out]; rfl, by rw [HE.out]; exact HP2.out, HT2.out⟩
        · have HE : Hid (numJ least ⟨t :: l, pos, 0⟩ = (t.sh.n, stepJ ⟨t :: l, pos, 0⟩)) := Lib.hid (by rw [HE0.out, if_neg (by omega)])
          clear HE0
          go_enter Tryd.func42, Tryd.ntmps42
          go_wp2_with fail
          refine wp_region_J (S := fun w' => w'.cell? ⟨b, 0, none⟩ = some (.slice (some ⟨g, off, none⟩) n c) ∧ w'.cell? ⟨b, 1, none⟩ = some (.int .i64 (k : Nat)) ∧ w'.cell? ⟨g, off + k * 4, none⟩ = some (.int .i64 t.sh.kind) ∧ w'.cell? ⟨g, off + k * 4 + 1, none⟩ = some (.string (bs t.sh.text)) ∧ w'.cell? ⟨g, off + k * 4 + 2, none⟩ = some (.int .i64 t.sh.n) ∧ w'.cell? ⟨g, off + k * 4 + 3, none⟩ = some (.int .i64 t.pos)) (fun _ => false) (by kernel_rfl) (⟨c0, c1, t0, t1, t2, t3⟩) (fun hHeld => ?_)
          refine wpAnyJ_take (i := 0) (v := ?_) rfl (by kernel_rfl) (by kernel_rfl) (by kernel_rfl) (by kernel_rfl) (fun _ _ _ h => h) (Or.inl ⟨by rfl, ?_⟩) hHeld ?_
          rotate_left
          · intro wq hSq
            skip
            go_simp
            try with_reducible rfl
          simp only [Act.put, List.setIfInBounds_toArray, List.set_cons_zero, List.set_cons_succ]
          refine wpAnyJ_take (i := 1) (v := ?_) rfl (by kernel_rfl) (by kernel_rfl) (by kernel_rfl) (by kernel_rfl) (fun _ _ _ h => h) (Or.inl ⟨by rfl, ?_⟩) hHeld ?_
          rotate_left
          · intro wq hSq
            skip
            go_simp
            try with_reducible rfl
          simp only [Act.put, List.setIfInBounds_toArray, List.set_cons_zero, List.set_cons_succ]
          refine wpAnyJ_take (i := 2) (v := ?_) rfl (by kernel_rfl) (by kernel_rfl) (by kernel_rfl) (by kernel_rfl) (fun _ _ _ h => h) (Or.inl ⟨by rfl, ?_⟩) hHeld ?_
          rotate_left
          · intro wq hSq
            skip
            go_simp
            try with_reducible rfl
          simp only [Act.put, List.setIfInBounds_toArray, List.set_cons_zero, List.set_cons_succ]
          refine wpAnyJ_take (i := 3) (v := ?_) rfl (by kernel_rfl) (by kernel_rfl) (by kernel_rfl) (by kernel_rfl) (fun _ _ _ h => h) (Or.inl ⟨by rfl, ?_⟩) hHeld ?_
          rotate_left
          · intro wq hSq
            obtain ⟨s0, s1, s2, s3, s4, s5⟩ := hSq
            go_simp
            try with_reducible rfl
          simp only [Act.put, List.setIfInBounds_toArray, List.set_cons_zero, List.set_cons_succ]
          refine wpAnyJ_take (i := 4) (v := ?_) rfl (by kernel_rfl) (by kernel_rfl) (by kernel_rfl) (by kernel_rfl) (fun _ _ _ h => h) (Or.inl ⟨by rfl, ?_⟩) hHeld ?_
          rotate_left
          · intro wq hSq
            skip
            go_simp
            try with_reducible rfl
          simp only [Act.put, List.setIfInBounds_toArray, List.set_cons_zero, List.set_cons_succ]
          refine wpAnyJ_take (i := 5) (v := ?_) rfl (by kernel_rfl) (by kernel_rfl) (by kernel_rfl) (by kernel_rfl) (fun _ _ _ h => h) (Or.inl ⟨by rfl, ?_⟩) hHeld ?_
          rotate_left
          · intro wq hSq
            skip
            go_simp
            try with_reducible rfl
          simp only [Act.put, List.setIfInBounds_toArray, List.set_cons_zero, List.set_cons_succ]
          refine wpAnyJ_take (i := 6) (v := ?_) rfl (by kernel_rfl) (by kernel_rfl) (by kernel_rfl) (by kernel_rfl) (fun _ _ _ h => h) (Or.inl ⟨by rfl, ?_⟩) hHeld ?_
          rotate_left
          · intro wq hSq
            skip
            go_simp
            try with_reducible rfl
          simp only [Act.put, List.setIfInBounds_toArray, List.set_cons_zero, List.set_cons_succ]
          refine wpAnyJ_take (i := 7) (v := ?_) rfl (by kernel_rfl) (by kernel_rfl) (by kernel_rfl) (by kernel_rfl) (fun _ _ _ h => h) (Or.inl ⟨by rfl, ?_⟩) hHeld ?_
          rotate_left
          · intro wq hSq
            obtain ⟨s0, s1, s2, s3, s4, s5⟩ := hSq
            go_simp
            try with_reducible rfl
          simp only [Act.put, List.setIfInBounds_toArray, List.set_cons_zero, List.set_cons_succ]
          refine wpAnyJ_take (i := 8) (v := ?_) rfl (by kernel_rfl) (by kernel_rfl) (by kernel_rfl) (by kernel_rfl) (fun _ _ _ h => h) (Or.inl ⟨by rfl, ?_⟩) hHeld ?_
          rotate_left
          · intro wq hSq
            skip
            go_simp
            try with_reducible rfl
          simp only [Act.put, List.setIfInBounds_toArray, List.set_cons_zero, List.set_cons_succ]
          refine wpAnyJ_take (i := 9) (v := ?_) rfl (by kernel_rfl) (by kernel_rfl) (by kernel_rfl) (by kernel_rfl) (fun _ _ _ h => h) (Or.inl ⟨by rfl, ?_⟩) hHeld ?_
          rotate_left
          · intro wq hSq
            obtain ⟨s0, s1, s2, s3, s4, s5⟩ := hSq
            go_simp
            try with_reducible rfl
          simp only [Act.put, List.setIfInBounds_toArray, List.set_cons_zero, List.set_cons_succ]
          refine wpAnyJ_one (i := 10) rfl (by kernel_rfl) (fun K hK => ?_)
          go_simp
          refine hK.out _ _ (fun _ _ => ⟨(cell_old w _ b 0 hbl).trans c0, (cell_old w _ b 1 hbl).trans c1, (cell_old w _ g _ h5).trans t0, (cell_old w _ g _ h5).trans t1, (cell_old w _ g _ h5).trans t2, (cell_old w _ g _ h5).trans t3⟩) ?_
          clear hK K
          refine wpAnyJ_one (i := 11) rfl (by kernel_rfl) (fun K hK => ?_)
          go_simp
          refine hK.out _ _ (fun _ _ => ⟨(cell_old w _ b 0 hbl).trans c0, (cell_old w _ b 1 hbl).trans c1, (cell_old w _ g _ h5).trans t0, (cell_old w _ g _ h5).trans t1, (cell_old w _ g _ h5).trans t2, (cell_old w _ g _ h5).trans t3⟩) ?_
          clear hK K
          refine wpAnyJ_done (by kernel_rfl) ?_ _
          have hpd := HP.out.now (HB.out (.cells #[.int .i64 t.sh.kind, .string (bs t.sh.text), .int .i64 t.sh.n, .int .i64 t.pos] 41))
          have htd : Turn (One b) w (w.alloc (.cells #[.int .i64 t.sh.kind, .string (bs t.sh.text), .int .i64 t.sh.n, .int .i64 t.pos] 41)).drew := Turn.below (HB.out _)
          have hbx : (w.alloc (.cells #[.int .i64 t.sh.kind, .string (bs t.sh.text), .int .i64 t.sh.n, .int .i64 t.pos] 41)).drew.heap[w.heap.size]? = some (.cells #[.int .i64 t.sh.kind, .string (bs t.sh.text), .int .i64 t.sh.n, .int .i64 t.pos] 41 (0, 0)) := (MapKept.heap_alloc w _).1
          have e3 : (w.alloc (.cells #[.int .i64 t.sh.kind, .string (bs t.sh.text), .int .i64 t.sh.n, .int .i64 t.pos] 41)).drew.cell? ⟨b, 3, none⟩ = some (.int .i64 (0)) := (cell_old w _ b 3 hbl).trans c3
          obtain ⟨wd, hwd⟩ : ∃ x, x = (w.alloc (.cells #[.int .i64 t.sh.kind, .string (bs t.sh.text), .int .i64 t.sh.n, .int .i64 t.pos] 41)).drew := ⟨_, rfl⟩
          rw [← hwd] at hpd htd hbx e3 ⊢
          have d0 := box_cell hbx 0 _ rfl
          have d1 := box_cell hbx 1 _ rfl
          have d2 := box_cell hbx 2 _ rfl
          have hqb : w.heap.size ≠ b := Nat.ne_of_gt hbl
          have HPd := Lib.hid hpd
          have HTd := Lib.hid htd
          clear hpd htd hbx hwd c0 c1 c3 t0 t1 t2 t3 HP HB
          obtain ⟨kk, hkk, e1, g1, hp⟩ := HPd.out.step HHd.out
          have HP1 := Lib.hid hp
          clear hp HHd
          go_wp2_with fail
          go_ret
          exact ⟨by rw [HE.out]; rfl, by rw [HE.out]; exact HP1.out, HTd.out.set b 1 _ (.inl rfl)⟩
    · have HE : Hid (numJ least ⟨t :: l, pos, err⟩ = (0, failJ 12 ⟨t :: l, pos, err⟩)) := Lib.hid (by
        by_cases he : err = 0
        · subst he
          obtain ⟨sh, p⟩ := t
          cases sh with
          | num s n => exact absurd ⟨rfl, rfl⟩ hw
          | word s => rfl
          | sign => rfl
          | fin => rfl
        · simp [numJ, failJ, he])
      by_cases he : err = 0
      · have hk1 : (t.sh.kind != 1) = true := by
          cases hq : (t.sh.kind == 1) with
          | true => exact absurd ⟨he, hq⟩ hw
          | false => rw [bne, hq]; rfl
        subst he
        clear hw
        go_enter Tryd.func42, Tryd.ntmps42
        go_wp2_with fail
        refine wp_region_J (S := fun w' => w'.cell? ⟨b, 0, none⟩ = some (.slice (some ⟨g, off, none⟩) n c) ∧ w'.cell? ⟨b, 1, none⟩ = some (.int .i64 (k : Nat)) ∧ w'.cell? ⟨g, off + k * 4, none⟩ = some (.int .i64 t.sh.kind) ∧ w'.cell? ⟨g, off + k * 4 + 1, none⟩ = some (.string (bs t.sh.text)) ∧ w'.cell? ⟨g, off + k * 4 + 2, none⟩ = some (.int .i64 t.sh.n) ∧ w'.cell? ⟨g, off + k * 4 + 3, none⟩ = some (.int .i64 t.pos)) (fun _ => false) (by kernel_rfl) (⟨c0, c1, t0, t1, t2, t3⟩) (fun hHeld => ?_)
        refine wpAnyJ_take (i := 0) (v := ?_) rfl (by kernel_rfl) (by kernel_rfl) (by kernel_rfl) (by kernel_rfl) (fun _ _ _ h => h) (Or.inl ⟨by rfl, ?_⟩) hHeld ?_
        rotate_left
        · intro wq hSq
          skip
          go_simp
          try with_reducible rfl
        simp only [Act.put, List.setIfInBounds_toArray, List.set_cons_zero, List.set_cons_succ]
        refine wpAnyJ_take (i := 1) (v := ?_) rfl (by kernel_rfl) (by kernel_rfl) (by kernel_rfl) (by kernel_rfl) (fun _ _ _ h => h) (Or.inl ⟨by rfl, ?_⟩) hHeld ?_
        rotate_left
        · intro wq hSq
          skip
          go_simp
          try with_reducible rfl
        simp only [Act.put, List.setIfInBounds_toArray, List.set_cons_zero, List.set_cons_succ]
        refine wpAnyJ_take (i := 2) (v := ?_) rfl (by kernel_rfl) (by kernel_rfl) (by kernel_rfl) (by kernel_rfl) (fun _ _ _ h => h) (Or.inl ⟨by rfl, ?_⟩) hHeld ?_
        rotate_left
        · intro wq hSq
          skip
          go_simp
          try with_reducible rfl
        simp only [Act.put, List.setIfInBounds_toArray, List.set_cons_zero, List.set_cons_succ]
        refine wpAnyJ_take (i := 3) (v := ?_) rfl (by kernel_rfl) (by kernel_rfl) (by kernel_rfl) (by kernel_rfl) (fun _ _ _ h => h) (Or.inl ⟨by rfl, ?_⟩) hHeld ?_
        rotate_left
        · intro wq hSq
          obtain ⟨s0, s1, s2, s3, s4, s5⟩ := hSq
          go_simp
          try with_reducible rfl
        simp only [Act.put, List.setIfInBounds_toArray, List.set_cons_zero, List.set_cons_succ]
        refine wpAnyJ_take (i := 4) (v := ?_) rfl (by kernel_rfl) (by kernel_rfl) (by kernel_rfl) (by kernel_rfl) (fun _ _ _ h => h) (Or.inl ⟨by rfl, ?_⟩) hHeld ?_
        rotate_left
        · intro wq hSq
          skip
          go_simp
          try with_reducible rfl
        simp only [Act.put, List.setIfInBounds_toArray, List.set_cons_zero, List.set_cons_succ]
        refine wpAnyJ_take (i := 5) (v := ?_) rfl (by kernel_rfl) (by kernel_rfl) (by kernel_rfl) (by kernel_rfl) (fun _ _ _ h => h) (Or.inl ⟨by rfl, ?_⟩) hHeld ?_
        rotate_left
        · intro wq hSq
          skip
          go_simp
          try with_reducible rfl
        simp only [Act.put, List.setIfInBounds_toArray, List.set_cons_zero, List.set_cons_succ]
        refine wpAnyJ_take (i := 6) (v := ?_) rfl (by kernel_rfl) (by kernel_rfl) (by kernel_rfl) (by kernel_rfl) (fun _ _ _ h => h) (Or.inl ⟨by rfl, ?_⟩) hHeld ?_
        rotate_left
        · intro wq hSq
          skip
          go_simp
          try with_reducible rfl
        simp only [Act.put, List.setIfInBounds_toArray, List.set_cons_zero, List.set_cons_succ]
        refine wpAnyJ_take (i := 7) (v := ?_) rfl (by kernel_rfl) (by kernel_rfl) (by kernel_rfl) (by kernel_rfl) (fun _ _ _ h => h) (Or.inl ⟨by rfl, ?_⟩) hHeld ?_
        rotate_left
        · intro wq hSq
          obtain ⟨s0, s1, s2, s3, s4, s5⟩ := hSq
          go_simp
          try with_reducible rfl
        simp only [Act.put, List.setIfInBounds_toArray, List.set_cons_zero, List.set_cons_succ]
        refine wpAnyJ_take (i := 8) (v := ?_) rfl (by kernel_rfl) (by kernel_rfl) (by kernel_rfl) (by kernel_rfl) (fun _ _ _ h => h) (Or.inl ⟨by rfl, ?_⟩) hHeld ?_
        rotate_left
        · intro wq hSq
          skip
          go_simp
          try with_reducible rfl
        simp only [Act.put, List.setIfInBounds_toArray, List.set_cons_zero, List.set_cons_succ]
        refine wpAnyJ_take (i := 9) (v := ?_) rfl (by kernel_rfl) (by kernel_rfl) (by kernel_rfl) (by kernel_rfl) (fun _ _ _ h => h) (Or.inl ⟨by rfl, ?_⟩) hHeld ?_
        rotate_left
        · intro wq hSq
          obtain ⟨s0, s1, s2, s3, s4, s5⟩ := hSq
          go_simp
          try with_reducible rfl
        simp only [Act.put, List.setIfInBounds_toArray, List.set_cons_zero, List.set_cons_succ]
        refine wpAnyJ_one (i := 10) rfl (by kernel_rfl) (fun K hK => ?_)
        go_simp
        refine hK.out _ _ (fun _ _ => ⟨(cell_old w _ b 0 hbl).trans c0, (cell_old w _ b 1 hbl).trans c1, (cell_old w _ g _ h5).trans t0, (cell_old w _ g _ h5).trans t1, (cell_old w _ g _ h5).trans t2, (cell_old w _ g _ h5).trans t3⟩) ?_
        clear hK K
        refine wpAnyJ_one (i := 11) rfl (by kernel_rfl) (fun K hK => ?_)
        go_simp
        refine hK.out _ _ (fun _ _ => ⟨(cell_old w _ b 0 hbl).trans c0, (cell_old w _ b 1 hbl).trans c1, (cell_old w _ g _ h5).trans t0, (cell_old w _ g _ h5).trans t1, (cell_old w _ g _ h5).trans t2, (cell_old w _ g _ h5).trans t3⟩) ?_
        clear hK K
        refine wpAnyJ_done (by kernel_rfl) ?_ _
        have hpd := HP.out.now (HB.out (.cells #[.int .i64 t.sh.kind, .string (bs t.sh.text), .int .i64 t.sh.n, .int .i64 t.pos] 41))
        have htd : Turn (One b) w (w.alloc (.cells #[.int .i64 t.sh.kind, .string (bs t.sh.text), .int .i64 t.sh.n, .int .i64 t.pos] 41)).drew := Turn.below (HB.out _)
        have hbx : (w.alloc (.cells #[.int .i64 t.sh.kind, .string (bs t.sh.text), .int .i64 t.sh.n, .int .i64 t.pos] 41)).drew.heap[w.heap.size]? = some (.cells #[.int .i64 t.sh.kind, .string (bs t.sh.text), .int .i64 t.sh.n, .int .i64 t.pos] 41 (0, 0)) := (MapKept.heap_alloc w _).1
        have e3 : (w.alloc (.cells #[.int .i64 t.sh.kind, .string (bs t.sh.text), .int .i64 t.sh.n, .int .i64 t.pos] 41)).drew.cell? ⟨b, 3, none⟩ = some (.int .i64 (0)) := (cell_old w _ b 3 hbl).trans c3
        obtain ⟨wd, hwd⟩ : ∃ x, x = (w.alloc (.cells #[.int .i64 t.sh.kind, .string (bs t.sh.text), .int .i64 t.sh.n, .int .i64 t.pos] 41)).drew := ⟨_, rfl⟩
        rw [← hwd] at hpd htd hbx e3 ⊢
        have d0 := box_cell hbx 0 _ rfl
        have d1 := box_cell hbx 1 _ rfl
        have d2 := box_cell hbx 2 _ rfl
        have hqb : w.heap.size ≠ b := Nat.ne_of_gt hbl
        have HPd := Lib.hid hpd
        have HTd := Lib.hid htd
        clear hpd htd hbx hwd c0 c1 c3 t0 t1 t2 t3 HP HB
        go_wp2_with fail
        refine (gFail_any b g _ 12 _ HPd.out).mono ?_
        rintro e w2 ⟨rfl, hr2, ht2⟩
        have HP2 := Lib.hid hr2
        have HT2 := Lib.hid (turn_one HTd.out ht2)
        clear hr2 ht2
        go_wp2_with fail
        go_ret
        exact ⟨by rw [HE.out]; rfl, by rw [HE.out]; exact HP2.out, HT2.out⟩
      · have he2 : (err != 0) = true := by simpa using he
        clear hw
        go_enter Tryd.func42, Tryd.ntmps42
        go_wp2_with fail
        refine wp_region_J (S := fun w' => w'.cell? ⟨b, 0, none⟩ = some (.slice (some ⟨g, off, none⟩) n c) ∧ w'.cell? ⟨b, 1, none⟩ = some (.int .i64 (k : Nat)) ∧ w'.cell? ⟨g, off + k * 4, none⟩ = some (.int .i64 t.sh.kind) ∧ w'.cell? ⟨g, off + k * 4 + 1, none⟩ = some (.string (bs t.sh.text)) ∧ w'.cell? ⟨g, off + k * 4 + 2, none⟩ = some (.int .i64 t.sh.n) ∧ w'.cell? ⟨g, off + k * 4 + 3, none⟩ = some (.int .i64 t.pos)) (fun _ => false) (by kernel_rfl) (⟨c0, c1, t0, t1, t2, t3⟩) (fun hHeld => ?_)
        refine wpAnyJ_take (i := 0) (v := ?_) rfl (by kernel_rfl) (by kernel_rfl) (by kernel_rfl) (by kernel_rfl) (fun _ _ _ h => h) (Or.inl ⟨by rfl, ?_⟩) hHeld ?_
        rotate_left
        · intro wq hSq
          skip
          go_simp
          try with_reducible rfl
        simp only [Act.put, List.setIfInBounds_toArray, List.set_cons_zero, List.set_cons_succ]
        refine wpAnyJ_take (i := 1) (v := ?_) rfl (by kernel_rfl) (by kernel_rfl) (by kernel_rfl) (by kernel_rfl) (fun _ _ _ h => h) (Or.inl ⟨by rfl, ?_⟩) hHeld ?_
        rotate_left
        · intro wq hSq
          skip
          go_simp
          try with_reducible rfl
        simp only [Act.put, List.setIfInBounds_toArray, List.set_cons_zero, List.set_cons_succ]
        refine wpAnyJ_take (i := 2) (v := ?_) rfl (by kernel_rfl) (by kernel_rfl) (by kernel_rfl) (by kernel_rfl) (fun _ _ _ h => h) (Or.inl ⟨by rfl, ?_⟩) hHeld ?_
        rotate_left
        · intro wq hSq
          skip
          go_simp
          try with_reducible rfl
        simp only [Act.put, List.setIfInBounds_toArray, List.set_cons_zero, List.set_cons_succ]
        refine wpAnyJ_take (i := 3) (v := ?_) rfl (by kernel_rfl) (by kernel_rfl) (by kernel_rfl) (by kernel_rfl) (fun _ _ _ h => h) (Or.inl ⟨by rfl, ?_⟩) hHeld ?_
        rotate_left
        · intro wq hSq
          obtain ⟨s0, s1, s2, s3, s4, s5⟩ := hSq
          go_simp
          try with_reducible rfl
        simp only [Act.put, List.setIfInBounds_toArray, List.set_cons_zero, List.set_cons_succ]
        refine wpAnyJ_take (i := 4) (v := ?_) rfl (by kernel_rfl) (by kernel_rfl) (by kernel_rfl) (by kernel_rfl) (fun _ _ _ h => h) (Or.inl ⟨by rfl, ?_⟩) hHeld ?_
        rotate_left
        · intro wq hSq
          skip
          go_simp
          try with_reducible rfl
        simp only [Act.put, List.setIfInBounds_toArray, List.set_cons_zero, List.set_cons_succ]
        refine wpAnyJ_take (i := 5) (v := ?_) rfl (by kernel_rfl) (by kernel_rfl) (by kernel_rfl) (by kernel_rfl) (fun _ _ _ h => h) (Or.inl ⟨by rfl, ?_⟩) hHeld ?_
        rotate_left
        · intro wq hSq
          skip
          go_simp
          try with_reducible rfl
        simp only [Act.put, List.setIfInBounds_toArray, List.set_cons_zero, List.set_cons_succ]
        refine wpAnyJ_take (i := 6) (v := ?_) rfl (by kernel_rfl) (by kernel_rfl) (by kernel_rfl) (by kernel_rfl) (fun _ _ _ h => h) (Or.inl ⟨by rfl, ?_⟩) hHeld ?_
        rotate_left
        · intro wq hSq
          skip
          go_simp
          try with_reducible rfl
        simp only [Act.put, List.setIfInBounds_toArray, List.set_cons_zero, List.set_cons_succ]
        refine wpAnyJ_take (i := 7) (v := ?_) rfl (by kernel_rfl) (by kernel_rfl) (by kernel_rfl) (by kernel_rfl) (fun _ _ _ h => h) (Or.inl ⟨by rfl, ?_⟩) hHeld ?_
        rotate_left
        · intro wq hSq
          obtain ⟨s0, s1, s2, s3, s4, s5⟩ := hSq
          go_simp
          try with_reducible rfl
        simp only [Act.put, List.setIfInBounds_toArray, List.set_cons_zero, List.set_cons_succ]
        refine wpAnyJ_take (i := 8) (v := ?_) rfl (by kernel_rfl) (by kernel_rfl) (by kernel_rfl) (by kernel_rfl) (fun _ _ _ h => h) (Or.inl ⟨by rfl, ?_⟩) hHeld ?_
        rotate_left
        · intro wq hSq
          skip
          go_simp
          try with_reducible rfl
        simp only [Act.put, List.setIfInBounds_toArray, List.set_cons_zero, List.set_cons_succ]
        refine wpAnyJ_take (i := 9) (v := ?_) rfl (by kernel_rfl) (by kernel_rfl) (by kernel_rfl) (by kernel_rfl) (fun _ _ _ h => h) (Or.inl ⟨by rfl, ?_⟩) hHeld ?_
        rotate_left
        · intro wq hSq
          obtain ⟨s0, s1, s2, s3, s4, s5⟩ := hSq
          go_simp
          try with_reducible rfl
        simp only [Act.put, List.setIfInBounds_toArray, List.set_cons_zero, List.set_cons_succ]
        refine wpAnyJ_one (i := 10) rfl (by kernel_rfl) (fun K hK => ?_)
        go_simp
        refine hK.out _ _ (fun _ _ => ⟨(cell_old w _ b 0 hbl).trans c0, (cell_old w _ b 1 hbl).trans c1, (cell_old w _ g _ h5).trans t0, (cell_old w _ g _ h5).trans t1, (cell_old w _ g _ h5).trans t2, (cell_old w _ g _ h5).trans t3⟩) ?_
        clear hK K
        refine wpAnyJ_one (i := 11) rfl (by kernel_rfl) (fun K hK => ?_)
        go_simp
        refine hK.out _ _ (fun _ _ => ⟨(cell_old w _ b 0 hbl).trans c0, (cell_old w _ b 1 hbl).trans c1, (cell_old w _ g _ h5).trans t0, (cell_old w _ g _ h5).trans t1, (cell_old w _ g _ h5).trans t2, (cell_old w _ g _ h5).trans t3⟩) ?_
        clear hK K
        refine wpAnyJ_done (by kernel_rfl) ?_ _
        have hpd := HP.out.now (HB.out (.cells #[.int .i64 t.sh.kind, .string (bs t.sh.text), .int .i64 t.sh.n, .int .i64 t.pos] 41))
        have htd : Turn (One b) w (w.alloc (.cells #[.int .i64 t.sh.kind, .string (bs t.sh.text), .int .i64 t.sh.n, .int .i64 t.pos] 41)).drew := Turn.below (HB.out _)
        have hbx : (w.alloc (.cells #[.int .i64 t.sh.kind, .string (bs t.sh.text), .int .i64 t.sh.n, .int .i64 t.pos] 41)).drew.heap[w.heap.size]? = some (.cells #[.int .i64 t.sh.kind, .string (bs t.sh.text), .int .i64 t.sh.n, .int .i64 t.pos] 41 (0, 0)) := (MapKept.heap_alloc w _).1
        have e3 : (w.alloc (.cells #[.int .i64 t.sh.kind, .string (bs t.sh.text), .int .i64 t.sh.n, .int .i64 t.pos] 41)).drew.cell? ⟨b, 3, none⟩ = some (.int .i64 (err)) := (cell_old w _ b 3 hbl).trans c3
        obtain ⟨wd, hwd⟩ : ∃ x, x = (w.alloc (.cells #[.int .i64 t.sh.kind, .string (bs t.sh.text), .int .i64 t.sh.n, .int .i64 t.pos] 41)).drew := ⟨_, rfl⟩
        rw [← hwd] at hpd htd hbx e3 ⊢
        have d0 := box_cell hbx 0 _ rfl
        have d1 := box_cell hbx 1 _ rfl
        have d2 := box_cell hbx 2 _ rfl
        have hqb : w.heap.size ≠ b := Nat.ne_of_gt hbl
        have HPd := Lib.hid hpd
        have HTd := Lib.hid htd
        clear hpd htd hbx hwd c0 c1 c3 t0 t1 t2 t3 HP HB
        go_wp2_with fail
        refine (gFail_any b g _ 12 _ HPd.out).mono ?_
        rintro e w2 ⟨rfl, hr2, ht2⟩
        have HP2 := Lib.hid hr2
        have HT2 := Lib.hid (turn_one HTd.out ht2)
        clear hr2 ht2
        go_wp2_with fail
        go_ret
        exact ⟨by rw [HE.out]; rfl, by rw [HE.out]; exact HP2.out, HT2.out⟩
end Go.Proofs.YtnaejabgkfhlbaaDoor
/- Contract of linguaref12: the part about files. -/
set_option linter.unusedSimpArgs false
set_option linter.unusedVariables false
namespace Go.Proofs.YtnaejabgkfhlbaaDoor
open Go.RowKit

theorem PrsAt.drew {b g : Nat} {r : St} {w : World} (h : PrsAt b g r w) : PrsAt b g r w.drew := h.now (Below.refl _ _).drew
/-- A slice of one string that was just made is the call's own. -/
theorem own_one (w : World) (s : List UInt8) (base : Nat) (hb : base ≤ w.heap.size) (n : Nat) (hn : n = w.heap.size) : OwnL (w.alloc (.cells #[.string (bs s)] 9)) base 9 1 strE (some ⟨n, 0, none⟩) 1 [s] :=
  hn ▸ World.ownsRow_lit w #[.string (bs s)] 1 hb (by simp [maxLen]) (by simp)
/-- What is known of the parser's world: the parser, the profile's box, and what turned since w0. -/
structure KP (b g p : Nat) (w0 : World) (r : St) (cs : Array Value) (w : World) : Prop where
  rd : PrsAt b g r w
  box : PBox p cs w
  ne : p ≠ b ∧ p ≠ g
  turn : Turn (Two b p) w0 w
section
variable {b g p : Nat} {w0 w w' : World} {r r' : St} {cs : Array Value}
theorem KP.call (h : KP b g p w0 r cs w) (hr : PrsAt b g r' w') (ht : Turn (One b) w w') : KP b g p w0 r' cs w' :=
  ⟨hr, h.box.turn ht h.ne.1, h.ne, h.turn.trans ht fun i hi => .inl (.inl hi)⟩
theorem KP.now (h : KP b g p w0 r cs w) (hb : Below w.heap.size w w') : KP b g p w0 r cs w' :=
  ⟨h.rd.now hb, h.box.now hb, h.ne, h.turn.trans (Turn.below (F := fun _ => False) hb) fun _ hf => hf.elim⟩
theorem KP.alloc (h : KP b g p w0 r cs w) (o : Obj) : KP b g p w0 r cs (w.alloc o) := h.now ((Below.refl _ _).alloc (Nat.le_refl _) _)
theorem KP.drew (h : KP b g p w0 r cs w) : KP b g p w0 r cs w.drew := h.now (Below.refl _ _).drew
theorem KP.set (h : KP b g p w0 r cs w) (j : Nat) (v : Value) : KP b g p w0 r (cs.setIfInBounds j v) (w.setCell ⟨p, j, none⟩ v) :=
  ⟨h.rd.set h.ne.1 h.ne.2, h.box.set j v, h.ne, h.turn.set p j v (.inl (.inr rfl))⟩
theorem KP.grown {row : Option Nat} (h : KP b g p w0 r cs w) (hg : w.grownBy w' row) (hb : ∀ k, row = some k → k ≠ b ∧ k ≠ g ∧ k ≠ p ∧ w0.heap.size ≤ k) : KP b g p w0 r cs w' := by
  have ht : Turn (fun i => row = some i) w w' := Turn.grown hg fun k hk => hk
  exact ⟨h.rd.turn ht (fun e => (hb _ e).1 rfl) (fun e => (hb _ e).2.1 rfl), h.box.turn ht (fun e => (hb _ e).2.2.1 rfl), h.ne, h.turn.trans ht fun i hi => .inr (hb i hi).2.2.2⟩
end
-- apRegP TMP1 | TMP2 | A | c | ts | k0 | r : the region that appends a name to the types; behind it HKr (the reader's world wr), HOr (the types)

theorem KP.stepAt {b g p : Nat} {w0 w : World} {r : St} {cs : Array Value} (h : KP b g p w0 r cs w) (hn : ∀ t, r.toks.head? = some t → t.sh ≠ .fin) : ∃ k : Nat, k ≤ 3000 ∧ w.cell? ⟨b, 1, none⟩ = some (.int .i64 (k : Nat)) ∧ w.frozen? ⟨b, 1, none⟩ = false ∧ KP b g p w0 (stepJ r) cs (w.setCell ⟨b, 1, none⟩ (.int .i64 ((k : Int) + 1))) := by
  obtain ⟨k, hk, c1, f1, hp⟩ := h.rd.step hn
  exact ⟨k, hk, c1, f1, h.call hp ((Turn.refl (One b) w).set b 1 _ (.inl rfl))⟩
theorem is_head {s : List UInt8} {r : St} (h : isF s r = true) : ∀ t, r.toks.head? = some t → t.sh ≠ .fin := fun t ht => by
  obtain ⟨_, t', l', e, h1, _⟩ := is_ok h
  rw [e] at ht
  simp at ht
  subst ht
  exact h1
-- kp1 CONTRACT | k | k0 : a call of the parser's method; HKk
/-- What the reference's 'files' leaves. -/
def FilesOutP (b g p : Nat) (cs : Array Value) (f : Int × Int × List (List UInt8)) (r' : St) (w : World) (e : Ending) (w' : World) : Prop :=
  e = .returned (.tuple #[]) ∧ ∃ A c, OwnL w' w.heap.size 9 1 strE A c f.2.2 ∧ KP b g p w r' (((cs.setIfInBounds 10 (.int .i64 f.1)).setIfInBounds 11 (.int .i64 f.2.1)).setIfInBounds 12 (.slice A f.2.2.length c)) w'
set_option maxRecDepth 100000 in
set_option maxHeartbeats 4000000 in
theorem gFiles_any (b g p : Nat) (r : St) (cs : Array Value) (w : World) (h : PrsAt b g r w) (hp : PBox p cs w) (hne : p ≠ b ∧ p ≠ g) (hgl : g < w.heap.size) (h10 : cs[10]? = some (.int .i64 0)) (h11 : cs[11]? = some (.int .i64 0)) (h12 : cs[12]? = some (.slice none 0 0)) :
    Calls Tryd.prog 44 #[.pointer (some ⟨b, 0, none⟩), .pointer (some ⟨p, 0, none⟩)] w (FilesOutP b g p cs (filesG opsJ r).1 (filesG opsJ r).2 w) := by
  have hbl0 := h.lt
  have hgl0 := hgl
  have hpl0 := hp.lt
  have HK0 : Hid (KP b g p w r cs w) := Lib.hid ⟨h, hp, hne, Turn.refl _ _⟩
  have HSk := Lib.hid (skip_is kFiles r h.fine.ne)
  have HNo := Lib.hid (files_none r)
  have HYes := Lib.hid (files_some r)
  have hsz : 12 < cs.size := (Array.getElem?_eq_some_iff.1 h12).1
  have H10 := Lib.hid h10
  have H11 := Lib.hid h11
  have H12 := Lib.hid h12
  have HI := Lib.hid (is_any b g r kFiles w h)
  clear h hp h10 h11 h12 hgl
  cases his : isF kFiles r with
  | false =>
    have HF : Hid (filesG opsJ r = ((0, 0, []), r)) := Lib.hid (by
      have h1 := HSk.out
      rw [his, if_neg (by decide)] at h1
      rw [HNo.out (by rw [h1]; show (-1 : Int) < 0; decide), h1])
    rw [his] at HI
    clear HYes HNo HSk his
    go_enter Tryd.func44, Tryd.ntmps44
    go_wp2_with fail
    refine HI.out.mono ?_
    rintro e w1 ⟨rfl, hb1⟩
    have HK1 := Lib.hid (HK0.out.now hb1)
    clear hb1
    go_wp2_with fail
    go_end0
    refine ⟨rfl, none, 0, ?_⟩
    rw [HF.out]
    refine ⟨OwnL.nil_, ?_⟩
    rw [set_same cs 10 _ H10.out, set_same cs 11 _ H11.out]
    show KP b g p w r (cs.setIfInBounds 12 (.slice none 0 0)) w1
    rw [set_same cs 12 _ H12.out]
    exact HK1.out
  | true =>
    have HF : Hid (filesG opsJ r = filesTail (numJ 1 (stepJ r)).1 (numJ 0 (wantJ [kBytes] (numJ 1 (stepJ r)).2).2).1 (nameJ (wantJ [kTypes] (numJ 0 (wantJ [kBytes] (numJ 1 (stepJ r)).2).2).2).2).1 (nameJ (wantJ [kTypes] (numJ 0 (wantJ [kBytes] (numJ 1 (stepJ r)).2).2).2).2).2) := Lib.hid (by
      have h1 := HSk.out
      rw [his, if_pos rfl] at h1
      rw [HYes.out (by rw [h1]; show ¬ ((0 : Int) < 0); decide), h1])
    have HHd := Lib.hid (is_head his)
    rw [his] at HI
    clear HYes HNo HSk his
    go_enter Tryd.func44, Tryd.ntmps44
    go_wp2_with fail
    refine HI.out.mono ?_
    rintro e w1 ⟨rfl, hb1⟩
    obtain ⟨kk, hkk, e1, g1, hk1⟩ := (HK0.out.now hb1).stepAt HHd.out
    have HK1 := Lib.hid hk1
    clear hb1 hk1 HK0 HHd
    go_wp2_with fail
    generalize stepJ r = r1 at *
    refine (gNumber_any b g r1 1 _ HK1.out.rd).mono ?_
    rintro e w2 ⟨rfl, hr2, ht2⟩
    have HK2 := Lib.hid (HK1.out.call hr2 ht2)
    clear hr2 ht2 HK1
    generalize numJ 1 r1 = q2 at *
    obtain ⟨n2, r2⟩ := q2
    simp only at HK2 HF ⊢
    have c10 := HK2.out.box.c 10 _ H10.out
    have f10 := HK2.out.box.f 10
    have HK3 := Lib.hid (HK2.out.set 10 (.int .i64 n2))
    clear HK2 e1 g1
    go_wp2_with fail
    refine (gWant_any b g r2 kBytes _ HK3.out.rd).mono ?_
    rintro e w4 ⟨rfl, hr4, ht4⟩
    have HK4 := Lib.hid (HK3.out.call hr4 ht4)
    clear hr4 ht4 HK3
    generalize wantJ [kBytes] r2 = q4 at *
    obtain ⟨n4, r4⟩ := q4
    simp only at HK4 HF ⊢
    go_wp2_with fail
    refine (gNumber_any b g r4 0 _ HK4.out.rd).mono ?_
    rintro e w5 ⟨rfl, hr5, ht5⟩
    have HK5 := Lib.hid (HK4.out.call hr5 ht5)
    clear hr5 ht5 HK4
    generalize numJ 0 r4 = q5 at *
    obtain ⟨n5, r5⟩ := q5
    simp only at HK5 HF ⊢
    have c11 := HK5.out.box.c 11 (.int .i64 0) (by simpa using H11.out)
    have f11 := HK5.out.box.f 11
    have HK6 := Lib.hid (HK5.out.set 11 (.int .i64 n5))
    clear HK5 c10 f10
    go_wp2_with fail
    refine (gWant_any b g r5 kTypes _ HK6.out.rd).mono ?_
    rintro e w7 ⟨rfl, hr7, ht7⟩
    have HK7 := Lib.hid (HK6.out.call hr7 ht7)
    clear hr7 ht7 HK6
    generalize wantJ [kTypes] r5 = q7 at *
    obtain ⟨n7, r7⟩ := q7
    simp only at HK7 HF ⊢
    clear c11 f11
    go_wp2_with fail
    refine (gName_any b g r7 _ HK7.out.rd).mono ?_
    rintro e w8 ⟨rfl, hr8, ht8⟩
    have HK8 := Lib.hid (HK7.out.call hr8 ht8)
    clear hr8 ht8 HK7
    generalize nameJ r7 = q8 at *
    obtain ⟨t8, r8⟩ := q8
    simp only at HK8 HF ⊢
    have c12 := HK8.out.box.c 12 (.slice none 0 0) (by simpa using H12.out)
    have f12 := HK8.out.box.f 12
    have hplt := HK8.out.box.lt
    have hpw8 : p ≠ w8.heap.size := Nat.ne_of_lt hplt
    have HF2 := Lib.hid ((HF.out).trans (files_tail n2 n5 t8 r8))
    obtain ⟨cs1, hcs1⟩ : ∃ x, x = (cs.setIfInBounds 10 (.int .i64 n2)).setIfInBounds 11 (.int .i64 n5) := ⟨_, rfl⟩
    have hcz : 12 < cs1.size := by rw [hcs1]; simpa using hsz
    have HCS := Lib.hid hcs1
    rw [← hcs1] at HK8
    clear hcs1 HF H10 H11
    have HBw : Hid (w.heap.size ≤ w8.heap.size) := Lib.hid HK8.out.turn.size
    have HKs := Lib.hid ((HK8.out.set 12 (.slice (some ⟨w8.heap.size, 0, none⟩) 1 1)).alloc (.cells #[.string (bs t8)] 9))
    have HO8 := Lib.hid (own_one (w8.setCell ⟨p, 12, none⟩ (.slice (some ⟨w8.heap.size, 0, none⟩) 1 1)) t8 w.heap.size (by have := HBw.out; simp; omega) w8.heap.size (by simp))
    go_wp2_with fail
    go_loopw [53] (fun _ wr => ∃ (A : Option Addr) (c : Nat) (acc : List (List UInt8)) (rj : St), acc.length ≤ 19 ∧ KP b g p w rj (cs1.setIfInBounds 12 (.slice A (acc.length + 1) c)) wr ∧ OwnL wr w.heap.size 9 1 strE A c (t8 :: acc) ∧
      moreJ 19 r8 = (acc ++ (moreJ (19 - acc.length) rj).1, (moreJ (19 - acc.length) rj).2)) (fun _ wr => capLeft p wr)
    case atStart =>
      refine ⟨some ⟨w8.heap.size, 0, none⟩, 1, [], r8, by decide, ?_, ?_, by simp⟩
      · exact HKs.out
      · exact HO8.out
    case round =>
      obtain ⟨A, c, acc, rj, hj, hkw, how, hmo⟩ := hrel
      have HK10 := Lib.hid hkw
      have HO := Lib.hid how
      have HMo := Lib.hid hmo
      have c12 : wr.cell? ⟨p, 12, none⟩ = some (.slice A (acc.length + 1) c) := hkw.box.c 12 _ (by simp [hcz])
      have HCap : Hid (capLeft p wr = 21 - (acc.length + 1)) := Lib.hid (by unfold capLeft; rw [c12])
      have f12 := hkw.box.f 12
      have hplt := hkw.box.lt
      have HRD := Lib.hid hkw.rd
      clear hkw how hmo
      obtain ⟨⟨off, n, ck, k, q1, q2, q3, q4, q5, q6, q7⟩, hfi⟩ := HRD.out
      obtain ⟨toks, pos, err⟩ := rj
      cases toks with
      | nil => exact absurd rfl hfi.ne
      | cons t0 l0 =>
        obtain ⟨u0, _, _, _⟩ := q7.head
        have k0 := box_cell q6 0 _ rfl
        have k1 := box_cell q6 1 _ rfl
        have k3 := box_cell q6 3 _ rfl
        have hkn : (k : Int) < n := by simp at q1; omega
        have hkn2 : k < n := by omega
        clear q6 q7 hfi q1
        by_cases hwd : err = 0 ∧ (t0.sh.kind == 0) = true
        · obtain ⟨rfl, hk0⟩ := hwd
          have HW : Hid ((⟨t0 :: l0, pos, 0⟩ : St).err = 0 ∧ isWord (⟨t0 :: l0, pos, 0⟩ : St).toks = true) := Lib.hid ⟨rfl, by rw [isWord_kind]; exact hk0⟩
          by_cases h19 : acc.length = 19
          · have HFull : Hid (filesG opsJ r = ((n2, n5, t8 :: acc), failJ 6 ⟨t0 :: l0, pos, 0⟩)) := Lib.hid (by
              rw [HF2.out, HMo.out, h19, Nat.sub_self, more_full _ HW.out, List.append_nil, want_bad]
              show (failJ 6 ⟨t0 :: l0, pos, 0⟩).err ≠ 0
              simp [failJ])
            have d20 : decide ((20 : Int) ≤ (acc.length : Int) + 1) = true := by rw [h19]; rfl
            have d21 : decide ((19 : Int) ≤ (acc.length : Int)) = true := by rw [h19]; rfl
            clear h19
            go_wp2_with fail
            go_quiet (fail)
            have hkq := HK10.out.now (below_drewN (Below.refl _ _) nq)
            have hoq := HO.out.below (below_drewN (Below.refl _ _) nq)
            have hcq : capLeft p (wr.drewN nq) = capLeft p wr := rfl
            clear HO c12 f12 hplt k0 k1 k3 u0 HK10 HRD
            generalize wr.drewN nq = wq at *
            have c12 : wq.cell? ⟨p, 12, none⟩ = some (.slice A (acc.length + 1) c) := hkq.box.c 12 _ (by simp [hcz])
            have f12 := hkq.box.f 12
            have hplt := hkq.box.lt
            have HK11 := Lib.hid hkq
            have HO := Lib.hid hoq
            clear hkq hoq hcq
            go_wp2_with fail
            refine (gFail_any b g _ 6 _ HK11.out.rd).mono ?_
            rintro e w9 ⟨rfl, hr9, ht9⟩
            have HK9 := Lib.hid (HK11.out.call hr9 ht9)
            have HO9 := Lib.hid (HO.out.turn (w' := w9) (fun i hi hlt => ht9.block i hlt (fun e => by have := HO.out.blk_lt hi; have := hbl0; subst e; omega)))
            clear hr9 ht9
            go_wp2_with fail
            go_end0
            refine ⟨rfl, A, c, ?_⟩
            rw [HFull.out]
            refine ⟨HO9.out, ?_⟩
            rw [← HCS.out]
            exact HK9.out
          · have d20 : decide ((20 : Int) ≤ (acc.length : Int) + 1) = false := by simp; omega
            have d21 : decide ((19 : Int) ≤ (acc.length : Int)) = false := by simp; omega
            have HNx := Lib.hid (more_next (18 - acc.length) ⟨t0 :: l0, pos, 0⟩ HW.out)
            have hlt19 : acc.length < 19 := by omega
            clear h19
            go_wp2_with fail
            go_quiet (fail)
            have hkq := HK10.out.now (below_drewN (Below.refl _ _) nq)
            have hoq := HO.out.below (below_drewN (Below.refl _ _) nq)
            have hcq : capLeft p (wr.drewN nq) = capLeft p wr := rfl
            clear HO c12 f12 hplt k0 k1 k3 u0 HK10 HRD
            generalize wr.drewN nq = wq at *
            have c12 : wq.cell? ⟨p, 12, none⟩ = some (.slice A (acc.length + 1) c) := hkq.box.c 12 _ (by simp [hcz])
            have f12 := hkq.box.f 12
            have hplt := hkq.box.lt
            have HK11 := Lib.hid hkq
            have HO := Lib.hid hoq
            clear hkq hoq hcq
            go_wp2_with fail
            refine wp_region_J (S := fun w' => w'.cell? ⟨p, 12, none⟩ = some (.slice A ((t8 :: acc)).length c)) (fun i => i == 11) (by kernel_rfl) (c12) (fun hHeld => ?_)
            refine wpAnyJ_take (i := 0) (v := ?_) rfl (by kernel_rfl) (by kernel_rfl) (by kernel_rfl) (by kernel_rfl) (fun _ _ _ h => h) (Or.inl ⟨by rfl, ?_⟩) hHeld ?_
            rotate_left
            · intro wq hSq
              skip
              go_simp
              try with_reducible rfl
            simp only [Act.put, List.setIfInBounds_toArray, List.set_cons_zero, List.set_cons_succ]
            refine wpAnyJ_take (i := 1) (v := ?_) rfl (by kernel_rfl) (by kernel_rfl) (by kernel_rfl) (by kernel_rfl) (fun _ _ _ h => h) (Or.inl ⟨by rfl, ?_⟩) hHeld ?_
            rotate_left
            · intro wq hSq
              skip
              go_simp
              try with_reducible rfl
            simp only [Act.put, List.setIfInBounds_toArray, List.set_cons_zero, List.set_cons_succ]
            refine wpAnyJ_take (i := 2) (v := ?_) rfl (by kernel_rfl) (by kernel_rfl) (by kernel_rfl) (by kernel_rfl) (fun _ _ _ h => h) (Or.inl ⟨by rfl, ?_⟩) hHeld ?_
            rotate_left
            · intro wq hSq
              skip
              go_simp
              try with_reducible rfl
            simp only [Act.put, List.setIfInBounds_toArray, List.set_cons_zero, List.set_cons_succ]
            refine wpAnyJ_take (i := 3) (v := ?_) rfl (by kernel_rfl) (by kernel_rfl) (by kernel_rfl) (by kernel_rfl) (fun _ _ _ h => h) (Or.inl ⟨by rfl, ?_⟩) hHeld ?_
            rotate_left
            · intro wq hSq
              skip
              go_simp
              try with_reducible rfl
            simp only [Act.put, List.setIfInBounds_toArray, List.set_cons_zero, List.set_cons_succ]
            refine wpAnyJ_take (i := 4) (v := ?_) rfl (by kernel_rfl) (by kernel_rfl) (by kernel_rfl) (by kernel_rfl) (fun _ _ _ h => h) (Or.inl ⟨by rfl, ?_⟩) hHeld ?_
            rotate_left
            · intro wq hSq
              have hcq : wq.cell? ⟨p, 12, none⟩ = some (.slice A ((t8 :: acc)).length c) := hSq
              go_simp
              try with_reducible rfl
            simp only [Act.put, List.setIfInBounds_toArray, List.set_cons_zero, List.set_cons_succ]
            refine wpAnyJ_take (i := 5) (v := ?_) rfl (by kernel_rfl) (by kernel_rfl) (by kernel_rfl) (by kernel_rfl) (fun _ _ _ h => h) (Or.inl ⟨by rfl, ?_⟩) hHeld ?_
            rotate_left
            · intro wq hSq
              skip
              go_simp
              try with_reducible rfl
            simp only [Act.put, List.setIfInBounds_toArray, List.set_cons_zero, List.set_cons_succ]
            refine wpAnyJ_one (i := 6) rfl (by kernel_rfl) (fun K hK => ?_)
            go_simp
            refine (gName_any b g (⟨t0 :: l0, pos, 0⟩ : St) _ HK11.out.drew.rd).mono ?_
            rintro e wn ⟨rfl, hrn, htn⟩
            go_wp2_with fail
            refine hK.out _ _ (fun _ h => (World.cell?_of_block (htn.block p hplt (fun e => HK11.out.ne.1 e))).trans h) ?_
            clear hK K
            have HKn := Lib.hid (HK11.out.drew.call hrn htn)
            have HOn := Lib.hid (HO.out.turn (w' := wn) (fun i hi hlt => htn.block i hlt (fun e => by have := HO.out.blk_lt hi; have := hbl0; subst e; omega)))
            clear hrn htn
            refine wpAnyJ_one (i := 7) rfl (by kernel_rfl) (fun K hK => ?_)
            go_simp
            refine hK.out _ _ (fun _ h => (cell_old wn _ p 12 HKn.out.box.lt).trans h) ?_
            clear hK K
            refine wpAnyJ_one (i := 8) rfl (by kernel_rfl) (fun K hK => ?_)
            refine step_append_l rfl (.tmp 65) (.tmp 68) rfl slStr strELay w.heap.size ((t8 :: acc)) [(nameJ (⟨t0 :: l0, pos, 0⟩ : St)).1] rfl rfl (HOn.out.alloc _) rfl rfl ⟨_, RdL.one wn (nameJ (⟨t0 :: l0, pos, 0⟩ : St)).1 _ 9 rfl _ rfl⟩ (by first | (simp; done) | (simp; omega)) (by have := HKn.out.turn.size; simp; omega) ?_
            intro A2 c2 w5 hown hg hbl hat
            have HKa := Lib.hid ((HKn.out.alloc _).grown hg (fun k hk => by have := HOn.out.blk k hk; have h1 := hbl0; have h2 := hgl0; have h3 := hpl0; refine ⟨?_, ?_, ?_, ?_⟩ <;> omega))
            have HOr := Lib.hid hown
            clear hown hg hbl hat
            have e12 : w5.cell? ⟨p, 12, none⟩ = some (.slice A ((t8 :: acc)).length c) := HKa.out.box.c 12 _ (by first | (simp; done) | (simpa using H12.out) | (simp [hcz]; done) | (simp; omega))
            have ez := HKa.out.box.f 12
            refine hK.out _ _ (fun _ _ => e12) ?_
            clear hK K
            refine wpAnyJ_pure (i := 9) (v := ?_) rfl (by kernel_rfl) (by kernel_rfl) (by kernel_rfl) (fun _ _ _ h => h) (Or.inl ⟨by rfl, ?_⟩) ?_
            rotate_left
            · intro wq _
              go_simp
              try with_reducible rfl
            simp only [Act.put, List.setIfInBounds_toArray, List.set_cons_zero, List.set_cons_succ]
            refine wpAnyJ_pure (i := 10) (v := ?_) rfl (by kernel_rfl) (by kernel_rfl) (by kernel_rfl) (fun _ _ _ h => h) (Or.inl ⟨by rfl, ?_⟩) ?_
            rotate_left
            · intro wq _
              go_simp
              try with_reducible rfl
            simp only [Act.put, List.setIfInBounds_toArray, List.set_cons_zero, List.set_cons_succ]
            refine wpAnyJ_one (i := 11) rfl (by kernel_rfl) (fun K hK => ?_)
            go_simp
            refine hK.out _ _ (fun h => nomatch h) ?_
            clear hK K
            refine wpAnyJ_done (by kernel_rfl) ?_ _
            have HKr := Lib.hid (HKa.out.set 12 (.slice A2 (((t8 :: acc)) ++ [(nameJ (⟨t0 :: l0, pos, 0⟩ : St)).1]).length c2))
            clear HKa HKn HOn e12 ez
            go_wp2_with fail
            go_roundw
            case rel => exact ⟨A2, c2, acc ++ [(nameJ ⟨t0 :: l0, pos, 0⟩).1], (nameJ ⟨t0 :: l0, pos, 0⟩).2, by simp; omega, by simpa using HKr.out, by simpa using HOr.out.turn (fun i hi hlt => heap_setCell_other _ _ _ _ (fun e => by have := HOr.out.blk_lt hi; have := hpl0; subst e; omega)), by
              rw [HMo.out, show 19 - acc.length = (18 - acc.length) + 1 by omega, HNx.out, List.length_append, List.length_singleton, show 19 - (acc.length + 1) = 18 - acc.length by omega]
              simp⟩
            case measure =>
              have h12 := HKr.out.box.c 12 (.slice A2 ((t8 :: acc) ++ [(nameJ ⟨t0 :: l0, pos, 0⟩).1]).length c2) (by simp [hcz])
              rw [HCap.out]
              unfold capLeft
              simp only [List.length_append, List.length_cons, List.length_nil] at h12 ⊢
              first | rw [h12] | (simp only [Nat.zero_add] at h12 ⊢; rw [h12])
              simp only
              omega
        · have HNw : Hid (¬ ((⟨t0 :: l0, pos, err⟩ : St).err = 0 ∧ isWord (⟨t0 :: l0, pos, err⟩ : St).toks = true)) := Lib.hid (fun h => hwd ⟨h.1, by rw [← isWord_kind]; exact h.2⟩)
          have HEnd : Hid (filesG opsJ r = ((n2, n5, t8 :: acc), (wantJ [kSemi] ⟨t0 :: l0, pos, err⟩).2)) := Lib.hid (by rw [HF2.out, HMo.out, more_stop _ _ HNw.out, List.append_nil])
          by_cases he : err = 0
          · have hk0 : (t0.sh.kind == 0) = false := by cases h : (t0.sh.kind == 0) with | true => exact absurd ⟨he, h⟩ hwd | false => rfl
            subst he
            clear hwd
            go_wp2_with fail
            go_quiet (fail)
            have hkq := HK10.out.now (below_drewN (Below.refl _ _) nq)
            have hoq := HO.out.below (below_drewN (Below.refl _ _) nq)
            have hcq : capLeft p (wr.drewN nq) = capLeft p wr := rfl
            clear HO c12 f12 hplt k0 k1 k3 u0 HK10 HRD
            generalize wr.drewN nq = wq at *
            have c12 : wq.cell? ⟨p, 12, none⟩ = some (.slice A (acc.length + 1) c) := hkq.box.c 12 _ (by simp [hcz])
            have f12 := hkq.box.f 12
            have hplt := hkq.box.lt
            have HK11 := Lib.hid hkq
            have HO := Lib.hid hoq
            clear hkq hoq hcq
            go_wp2_with fail
            refine (gWant_any b g _ kSemi _ HK11.out.rd).mono ?_
            rintro e w9 ⟨rfl, hr9, ht9⟩
            have HK9 := Lib.hid (HK11.out.call hr9 ht9)
            have HO9 := Lib.hid (HO.out.turn (w' := w9) (fun i hi hlt => ht9.block i hlt (fun e => by have := HO.out.blk_lt hi; have := hbl0; subst e; omega)))
            clear hr9 ht9
            go_wp2_with fail
            go_end0
            refine ⟨rfl, A, c, ?_⟩
            rw [HEnd.out]
            refine ⟨HO9.out, ?_⟩
            rw [← HCS.out]
            exact HK9.out
          · have he2 : (err == 0) = false := by simpa using he
            clear hwd he
            go_wp2_with fail
            go_quiet (fail)
            have hkq := HK10.out.now (below_drewN (Below.refl _ _) nq)
            have hoq := HO.out.below (below_drewN (Below.refl _ _) nq)
            have hcq : capLeft p (wr.drewN nq) = capLeft p wr := rfl
            clear HO c12 f12 hplt k0 k1 k3 u0 HK10 HRD
            generalize wr.drewN nq = wq at *
            have c12 : wq.cell? ⟨p, 12, none⟩ = some (.slice A (acc.length + 1) c) := hkq.box.c 12 _ (by simp [hcz])
            have f12 := hkq.box.f 12
            have hplt := hkq.box.lt
            have HK11 := Lib.hid hkq
            have HO := Lib.hid hoq
            clear hkq hoq hcq
            go_wp2_with fail
            refine (gWant_any b g _ kSemi _ HK11.out.rd).mono ?_
            rintro e w9 ⟨rfl, hr9, ht9⟩
            have HK9 := Lib.hid (HK11.out.call hr9 ht9)
            have HO9 := Lib.hid (HO.out.turn (w' := w9) (fun i hi hlt => ht9.block i hlt (fun e => by have := HO.out.blk_lt hi; have := hbl0; subst e; omega)))
            clear hr9 ht9
            go_wp2_with fail
            go_end0
            refine ⟨rfl, A, c, ?_⟩
            rw [HEnd.out]
            refine ⟨HO9.out, ?_⟩
            rw [← HCS.out]
            exact HK9.out
end Go.Proofs.YtnaejabgkfhlbaaDoor
