/- Contracts and plain laws, joined: SyI, SyJ. -/
import Derived.Test.YtnaejabgkfhlbaaDoorQan
import Derived.Test.YtnaejabgkfhlbaaDoorQak
import Derived.Test.YtnaejabgkfhlbaaDoorQae
/- Contracts of package syntax: the reader's methods. -/
set_option linter.unusedSimpArgs false
set_option linter.unusedVariables false
namespace Go.Proofs.YtnaejabgkfhlbaaDoor
open Go.RowKit


def strE (l : List UInt8) : List Value := [.string (bs l)]
theorem strE_rd {w : World} {B : Nat} {A : Option Addr} {xs : List (List UInt8)} (h : RdL 1 strE w B A xs) : RdS w B A (xs.map bs) := fun k x hx => by
  rw [List.getElem?_map] at hx
  obtain ⟨s, hs, rfl⟩ := Option.map_eq_some_iff.1 hx
  exact h k s hs
def spotI (ws : List (List UInt8)) (t : List UInt8) : Int := match ws.findIdx? (fun x => decide (t = x)) with
  | some i => (i : Int)
  | none => -1
theorem bs_eq_iff (a b : List UInt8) : bs a = bs b ↔ a = b := ⟨bs_inj, fun h => by rw [h]⟩
theorem index_any (ws : List (List UInt8)) (t : List UInt8) (A : Option Addr) (c : Nat) (w : World) (hr : RdL 1 strE w w.heap.size A ws) (hm : ws.length ≤ 9223372036854775807) :
    Calls Tryd.prog 72 #[.slice A ws.length c, .string (bs t)] w fun e w' => e = .returned (.int .i64 (spotI ws t)) ∧ w = w' := by
  have h := strIndex_any (ws.map bs) (bs t) A c w (strE_rd hr) (by rw [List.length_map]; exact hm)
  rw [List.length_map] at h
  have e : idxS (eqS (bs t)) (ws.map bs) = spotI ws t := by
    unfold idxS spotI
    rw [List.findIdx?_map]
    have : eqS (bs t) ∘ bs = fun x => decide (t = x) := by
      funext x
      simp only [Function.comp, eqS]
      exact decide_eq_decide.2 (bs_eq_iff t x)
    rw [this]
    cases ws.findIdx? (fun x => decide (t = x)) <;> rfl
  rw [e] at h
  exact h

/-- The tokens at an address, below block B. -/
def TokAt (w : World) (g off : Nat) (l : List Tok) : Prop := ∀ k t, l[k]? = some t → ∀ j v, (tokE t)[j]? = some v → w.cell? ⟨g, off + k * 4 + j, none⟩ = some v
theorem TokAt.head {w : World} {g off : Nat} {t : Tok} {l : List Tok} (h : TokAt w g off (t :: l)) : w.cell? ⟨g, off, none⟩ = some (.int .i64 t.sh.kind) ∧ w.cell? ⟨g, off + 1, none⟩ = some (.string (bs t.sh.text)) ∧ w.cell? ⟨g, off + 2, none⟩ = some (.int .i64 t.sh.n) ∧ w.cell? ⟨g, off + 3, none⟩ = some (.int .i64 t.pos) :=
  ⟨h 0 t rfl 0 _ rfl, h 0 t rfl 1 _ rfl, h 0 t rfl 2 _ rfl, h 0 t rfl 3 _ rfl⟩
theorem TokAt.tail {w : World} {g off : Nat} {t : Tok} {l : List Tok} (h : TokAt w g off (t :: l)) : TokAt w g (off + 4) l := fun k u hk j v hv => by
  have := h (k + 1) u hk j v hv
  rw [show off + 4 + k * 4 + j = off + (k + 1) * 4 + j by omega]
  exact this
/-- A reader in block b. -/
structure RdrAt (b g : Nat) (r : St) (w : World) : Prop where
  box : ∃ off c, r.toks.length ≤ c ∧ g ≠ b ∧ g < w.heap.size ∧ w.heap[b]? = some (.cells #[.slice (some ⟨g, off, none⟩) r.toks.length c, .int .i64 r.pos, .int .i64 r.err] 51 (0, 0)) ∧ TokAt w g off r.toks
  fine : Fine r.toks
  len : r.toks.length ≤ 3000
abbrev One (b : Nat) (i : Nat) : Prop := i = b
theorem turn_below {B b : Nat} {w w' : World} (h : Turn (One b) w w') (hB : B ≤ w.heap.size) (hb : B ≤ b) : Below B w w' :=
  h.to_below hB (fun i hi => by cases hi; exact hb)
theorem TokAt.keep {w w' : World} {g off : Nat} {l : List Tok} (h : TokAt w g off l) (hb : w'.heap[g]? = w.heap[g]?) : TokAt w' g off l := fun k t hk j v hv => by
  rw [World.cell?_of_block hb]
  exact h k t hk j v hv
theorem RdrAt.lt {b g : Nat} {r : St} {w : World} (h : RdrAt b g r w) : b < w.heap.size := by
  obtain ⟨off, c, h1, h2, h3, h4, h5⟩ := h.box
  exact box_lt h4
theorem RdrAt.glt {b g : Nat} {r : St} {w : World} (h : RdrAt b g r w) : g < w.heap.size := by
  obtain ⟨off, c, h1, h2, h3, h4, h5⟩ := h.box
  exact h3
/-- Where the reader's blocks stand as they were, it is the same reader. -/
theorem RdrAt.turn {F : Nat → Prop} {b g : Nat} {r : St} {w w' : World} (h : RdrAt b g r w) (ht : Turn F w w') (hb : ¬ F b) (hg : ¬ F g) : RdrAt b g r w' := by
  obtain ⟨off, c, h1, h2, h3, h4, h5⟩ := h.box
  exact ⟨⟨off, c, h1, h2, Nat.lt_of_lt_of_le h3 ht.size, (ht.block b (box_lt h4) hb).trans h4, h5.keep (ht.block g h3 hg)⟩, h.fine, h.len⟩
theorem RdrAt.now {b g : Nat} {r : St} {w w' : World} (h : RdrAt b g r w) (hb : Below w.heap.size w w') : RdrAt b g r w' :=
  h.turn (F := fun _ => False) (Turn.below hb) id id
theorem RdrAt.set {b g p j : Nat} {v : Value} {r : St} {w : World} (h : RdrAt b g r w) (h1 : p ≠ b) (h2 : p ≠ g) : RdrAt b g r (w.setCell ⟨p, j, none⟩ v) :=
  h.turn (F := fun i => i = p) ((Turn.refl (fun i => i = p) w).set p j v (.inl rfl)) (fun e => h1 e.symm) (fun e => h2 e.symm)
/-- A reader's block is written. -/
theorem RdrAt.put {b g off c : Nat} {r : St} {w w' : World} (h1 : r.toks.length ≤ c) (h2 : g ≠ b) (h3 : g < w.heap.size) (h4 : TokAt w g off r.toks) (hf : Fine r.toks) (hl : r.toks.length ≤ 3000)
    (hb : w'.heap[b]? = some (.cells #[.slice (some ⟨g, off, none⟩) r.toks.length c, .int .i64 r.pos, .int .i64 r.err] 51 (0, 0))) (hg : w'.heap[g]? = w.heap[g]?) (hs : w.heap.size ≤ w'.heap.size) : RdrAt b g r w' :=
  ⟨⟨off, c, h1, h2, by omega, hb, h4.keep hg⟩, hf, hl⟩
theorem failJ_fine {e : Int} {r : St} (h : Fine r.toks) : Fine (failJ e r).toks := by
  unfold failJ
  split
  · split
    · exact h
    · exact h
  · exact h
/-- What a method of the reader does. -/
def RdrOut (b g : Nat) (v : Value) (r' : St) (w : World) (e : Ending) (w' : World) : Prop := e = .returned v ∧ RdrAt b g r' w' ∧ Turn (One b) w w'
set_option maxHeartbeats 1000000 in
theorem fail_any (b g : Nat) (r : St) (e : Int) (w : World) (h : RdrAt b g r w) : Calls Tryd.prog 35 #[.pointer (some ⟨b, 0, none⟩), .int .i64 e] w (RdrOut b g (.tuple #[]) (failJ e r) w) := by
  obtain ⟨⟨off, c, h1, h2, h3, h4, h5⟩, hf, hl⟩ := h
  obtain ⟨toks, pos, err⟩ := r
  simp only at h1 h4 h5 hf hl
  have c0 := box_cell h4 0 _ rfl
  have c2 := box_cell h4 2 _ rfl
  have f1 := box_free h4 1
  have f2 := box_free h4 2
  by_cases he : err = 0
  · cases toks with
    | nil => exact absurd rfl hf.ne
    | cons t l =>
      obtain ⟨t0, t1, t2, t3⟩ := h5.head
      have c1 := box_cell h4 1 _ rfl
      have HF : Hid (failJ e ⟨t :: l, pos, err⟩ = ⟨t :: l, t.pos, e⟩) := Lib.hid (by unfold failJ; rw [if_pos he])
      subst he
      have H4 := Lib.hid h4
      have H5 := Lib.hid h5
      have HFi := Lib.hid hf
      clear h4 h5 hf
      go_enter Tryd.func35, Tryd.ntmps35
      go_wp2_with fail
      go_end0
      refine ⟨rfl, ?_, ((Turn.refl (One b) w).set b 1 _ (.inl rfl)).set b 2 _ (.inl rfl)⟩
      rw [HF.out]
      exact RdrAt.put (w := w) (r := ⟨t :: l, t.pos, e⟩) h1 h2 h3 H5.out HFi.out hl (by simp [World.setCell, Array.getElem?_modify, H4.out]) (by rw [heap_setCell_other _ _ _ _ h2, heap_setCell_other _ _ _ _ h2]) (by simp [World.setCell])
  · have HF : Hid (failJ e ⟨toks, pos, err⟩ = ⟨toks, pos, err⟩) := Lib.hid (by unfold failJ; rw [if_neg he])
    have he2 : (err == 0) = false := by simpa using he
    have HR := Lib.hid (RdrAt.put (r := ⟨toks, pos, err⟩) h1 h2 h3 h5 hf hl h4 rfl (Nat.le_refl _))
    clear h4 h5 hf he
    go_enter Tryd.func35, Tryd.ntmps35
    go_wp2_with fail
    go_end0
    exact ⟨rfl, by rw [HF.out]; exact HR.out, Turn.refl _ _⟩
theorem isSome_box {w : World} {b : Nat} {o : Obj} (h : w.heap[b]? = some o) : b < w.heap.size := box_lt h
/-- The facts that a method's walk needs of the reader's own cells and of its first token. -/
theorem RdrAt.open_ {b g : Nat} {t : Tok} {l : List Tok} {pos err : Int} {w : World} (h : RdrAt b g ⟨t :: l, pos, err⟩ w) :
    ∃ off c, (t :: l).length ≤ c ∧ g ≠ b ∧ g < w.heap.size ∧ b < w.heap.size ∧ w.heap[b]? = some (.cells #[.slice (some ⟨g, off, none⟩) (t :: l).length c, .int .i64 pos, .int .i64 err] 51 (0, 0)) ∧ TokAt w g off (t :: l) := by
  obtain ⟨⟨off, c, h1, h2, h3, h4, h5⟩, hf, hl⟩ := h
  exact ⟨off, c, h1, h2, h3, box_lt h4, h4, h5⟩
/-- The reader's slice is moved on by one token. -/
theorem RdrAt.step {b g off c : Nat} {t : Tok} {l : List Tok} {pos err : Int} {w : World} (h1 : (t :: l).length ≤ c) (h2 : g ≠ b) (h3 : g < w.heap.size) (h4 : w.heap[b]? = some (.cells #[.slice (some ⟨g, off, none⟩) (t :: l).length c, .int .i64 pos, .int .i64 err] 51 (0, 0)))
    (h5 : TokAt w g off (t :: l)) (hf : Fine l) (hl : (t :: l).length ≤ 3000) : RdrAt b g ⟨l, pos, err⟩ (w.setCell ⟨b, 0, none⟩ (.slice (some ⟨g, off + 4, none⟩) l.length (c - 1))) := by
  refine RdrAt.put (w := w) (g := g) (off := off + 4) (c := c - 1) (r := ⟨l, pos, err⟩) ?_ h2 h3 h5.tail hf ?_ (by simp [World.setCell, Array.getElem?_modify, h4]) (heap_setCell_other _ _ _ _ h2) (by simp [World.setCell])
  · simp only [List.length_cons] at h1 ⊢; omega
  · simp only [List.length_cons] at hl ⊢; omega
theorem fine_two {t : Tok} {l : List Tok} (hf : Fine (t :: l)) (hn : t.sh ≠ .fin) : 1 ≤ l.length := by
  have := (hf.tail hn).ne
  cases l with
  | nil => exact absurd rfl this
  | cons a l => simp
set_option maxRecDepth 100000 in
set_option maxHeartbeats 2000000 in
theorem skip_any (b g : Nat) (r : St) (ws : List (List UInt8)) (A : Option Addr) (cw : Nat) (w : World) (h : RdrAt b g r w) (hr : RdL 1 strE w w.heap.size A ws) (hm : ws.length ≤ 1000) :
    Calls Tryd.prog 28 #[.pointer (some ⟨b, 0, none⟩), .slice A ws.length cw] w (RdrOut b g (.int .i64 (skipJ ws r).1) (skipJ ws r).2 w) := by
  obtain ⟨toks, pos, err⟩ := r
  have hf := h.fine
  have hl := h.len
  have HR0 := Lib.hid h
  cases toks with
  | nil => exact absurd rfl hf.ne
  | cons t l =>
    obtain ⟨off, c, h1, h2, h3, hbl, h4, h5⟩ := h.open_
    obtain ⟨t0, t1, t2, t3⟩ := h5.head
    have c0 := box_cell h4 0 _ rfl
    have c2 := box_cell h4 2 _ rfl
    have f0 := box_free h4 0
    have H4 := Lib.hid h4
    have H5 := Lib.hid h5
    have HFi := Lib.hid hf
    have HI := Lib.hid (fun w' hb => index_any ws t.sh.text A cw w' ((hr : RdL 1 strE w w.heap.size A ws).now hb) (by omega))
    have HB : Hid (∀ o, Below w.heap.size w (w.alloc o)) := Lib.hid (fun o => (Below.refl _ _).alloc (Nat.le_refl _) _)
    have HT : Hid (∀ o, Turn (One b) w (w.alloc o)) := Lib.hid (fun o => Turn.below ((Below.refl _ _).alloc (Nat.le_refl _) _))
    clear h4 h5 hf h hr
    by_cases he : err = 0
    rotate_left
    · have HS : Hid (skipJ ws ⟨t :: l, pos, err⟩ = (-1, ⟨t :: l, pos, err⟩)) := Lib.hid (by unfold skipJ; rw [if_neg he])
      have he2 : (err != 0) = true := by simpa using he
      clear he HI
      go_enter Tryd.func28, Tryd.ntmps28
      go_wp2_with fail
      go_ret
      exact ⟨by rw [HS.out]; rfl, by rw [HS.out]; exact HR0.out.now (HB.out _), HT.out _⟩
    · subst he
      obtain ⟨sh, p⟩ := t
      cases sh with
      | num s n =>
        have HS : Hid (skipJ ws ⟨⟨.num s n, p⟩ :: l, pos, 0⟩ = (-1, ⟨⟨.num s n, p⟩ :: l, pos, 0⟩)) := Lib.hid rfl
        simp only [Sh.kind, Sh.text, Sh.n] at t0 t1 t2 t3
        clear HI
        go_enter Tryd.func28, Tryd.ntmps28
        go_wp2_with fail
        go_ret
        exact ⟨by rw [HS.out]; rfl, by rw [HS.out]; exact HR0.out.now (HB.out _), HT.out _⟩
      | fin =>
        have HS : Hid (skipJ ws ⟨⟨.fin, p⟩ :: l, pos, 0⟩ = (-1, ⟨⟨.fin, p⟩ :: l, pos, 0⟩)) := Lib.hid rfl
        simp only [Sh.kind, Sh.text, Sh.n] at t0 t1 t2 t3
        clear HI
        go_enter Tryd.func28, Tryd.ntmps28
        go_wp2_with fail
        go_ret
        exact ⟨by rw [HS.out]; rfl, by rw [HS.out]; exact HR0.out.now (HB.out _), HT.out _⟩
      | word s =>
        simp only [Sh.kind, Sh.text, Sh.n] at t0 t1 t2 t3 HI
        have hc1 : 1 ≤ l.length := fine_two HFi.out (by simp)
        have hc2 : l.length + 1 ≤ c := by simpa using h1
        cases hsp : ws.findIdx? (fun x => decide (s = x)) with
        | none =>
          have HS : Hid (skipJ ws ⟨⟨(.word s), p⟩ :: l, pos, 0⟩ = (-1, ⟨⟨(.word s), p⟩ :: l, pos, 0⟩)) := Lib.hid (by simp [skipJ, spot, hsp])
          have HV : Hid (spotI ws (s) = -1) := Lib.hid (by unfold spotI; rw [hsp])
          clear hsp
          go_enter Tryd.func28, Tryd.ntmps28
          go_wp2_with fail
          refine (HI.out _ (HB.out _)).mono ?_
          rintro e w' ⟨rfl, rfl⟩
          rw [HV.out]
          go_wp2_with fail
          go_ret
          exact ⟨by rw [HS.out]; rfl, by rw [HS.out]; exact HR0.out.now (HB.out _), HT.out _⟩
        | some i =>
          have HS : Hid (skipJ ws ⟨⟨(.word s), p⟩ :: l, pos, 0⟩ = ((i : Int), ⟨l, pos, 0⟩)) := Lib.hid (by simp [skipJ, spot, hsp])
          have HV : Hid (spotI ws (s) = (i : Int)) := Lib.hid (by unfold spotI; rw [hsp])
          have HFt := Lib.hid (HFi.out.tail (by simp))
          clear hsp
          go_enter Tryd.func28, Tryd.ntmps28
          go_wp2_with fail
          refine (HI.out _ (HB.out _)).mono ?_
          rintro e w' ⟨rfl, rfl⟩
          rw [HV.out]
          go_wp2_with fail
          go_ret
          exact ⟨by rw [HS.out]; rfl, by rw [HS.out]; exact (RdrAt.step h1 h2 h3 H4.out H5.out HFt.out hl).now ((Below.refl _ _).alloc (Nat.le_refl _) _), ((Turn.refl (One b) w).set b 0 _ (.inl rfl)).alloc _⟩
      | sign =>
        simp only [Sh.kind, Sh.text, Sh.n] at t0 t1 t2 t3 HI
        have hc1 : 1 ≤ l.length := fine_two HFi.out (by simp)
        have hc2 : l.length + 1 ≤ c := by simpa using h1
        cases hsp : ws.findIdx? (fun x => decide ([59] = x)) with
        | none =>
          have HS : Hid (skipJ ws ⟨⟨.sign, p⟩ :: l, pos, 0⟩ = (-1, ⟨⟨.sign, p⟩ :: l, pos, 0⟩)) := Lib.hid (by simp [skipJ, spot, hsp])
          have HV : Hid (spotI ws ([59]) = -1) := Lib.hid (by unfold spotI; rw [hsp])
          clear hsp
          go_enter Tryd.func28, Tryd.ntmps28
          go_wp2_with fail
          refine (HI.out _ (HB.out _)).mono ?_
          rintro e w' ⟨rfl, rfl⟩
          rw [HV.out]
          go_wp2_with fail
          go_ret
          exact ⟨by rw [HS.out]; rfl, by rw [HS.out]; exact HR0.out.now (HB.out _), HT.out _⟩
        | some i =>
          have HS : Hid (skipJ ws ⟨⟨.sign, p⟩ :: l, pos, 0⟩ = ((i : Int), ⟨l, pos, 0⟩)) := Lib.hid (by simp [skipJ, spot, hsp])
          have HV : Hid (spotI ws ([59]) = (i : Int)) := Lib.hid (by unfold spotI; rw [hsp])
          have HFt := Lib.hid (HFi.out.tail (by simp))
          clear hsp
          go_enter Tryd.func28, Tryd.ntmps28
          go_wp2_with fail
          refine (HI.out _ (HB.out _)).mono ?_
          rintro e w' ⟨rfl, rfl⟩
          rw [HV.out]
          go_wp2_with fail
          go_ret
          exact ⟨by rw [HS.out]; rfl, by rw [HS.out]; exact (RdrAt.step h1 h2 h3 H4.out H5.out HFt.out hl).now ((Below.refl _ _).alloc (Nat.le_refl _) _), ((Turn.refl (One b) w).set b 0 _ (.inl rfl)).alloc _⟩
theorem turn_one {b : Nat} {w w1 w2 : World} (h : Turn (One b) w w1) (k : Turn (One b) w1 w2) : Turn (One b) w w2 := h.trans k fun _ hi => .inl hi
set_option maxRecDepth 100000 in
set_option maxHeartbeats 1000000 in
theorem want_any (b g : Nat) (r : St) (ws : List (List UInt8)) (A : Option Addr) (cw : Nat) (w : World) (h : RdrAt b g r w) (hr : RdL 1 strE w w.heap.size A ws) (hm : ws.length ≤ 1000) :
    Calls Tryd.prog 25 #[.pointer (some ⟨b, 0, none⟩), .slice A ws.length cw] w (RdrOut b g (.int .i64 (wantJ ws r).1) (wantJ ws r).2 w) := by
  have HS := Lib.hid (skip_any b g r ws A cw w h hr hm)
  have HE : Hid (wantJ ws r = if (skipJ ws r).1 < 0 then (0, failJ 12 (skipJ ws r).2) else skipJ ws r) := Lib.hid rfl
  go_enter Tryd.func25, Tryd.ntmps25
  go_wp2_with fail
  refine HS.out.mono ?_
  rintro e w1 ⟨rfl, hr1, ht1⟩
  have HR1 := Lib.hid hr1
  have HT1 := Lib.hid ht1
  clear hr1 ht1 HS h hr
  generalize skipJ ws r = q at *
  obtain ⟨n, q⟩ := q
  simp only at HE HR1 ⊢
  by_cases hn : n < 0
  · have HF : Hid (wantJ ws r = (0, failJ 12 q)) := Lib.hid (by rw [HE.out, if_pos hn])
    have hmx : max n 0 = 0 := by omega
    clear HE
    go_wp2_with fail
    refine (fail_any b g q 12 w1 HR1.out).mono ?_
    rintro e w2 ⟨rfl, hr2, ht2⟩
    have HR2 := Lib.hid hr2
    have HT2 := Lib.hid (turn_one HT1.out ht2)
    clear hr2 ht2
    go_wp2_with fail
    go_ret
    exact ⟨by rw [HF.out]; try rfl, by rw [HF.out]; exact HR2.out, HT2.out⟩
  · have HF : Hid (wantJ ws r = (n, q)) := Lib.hid (by rw [HE.out, if_neg hn])
    have hmx : max n 0 = n := by omega
    clear HE
    go_wp2_with fail
    go_ret
    exact ⟨by rw [HF.out]; try rfl, by rw [HF.out]; exact HR1.out, HT1.out⟩
/-- What 'kind' does. -/
def kindJ (k : Int) (r : St) : (Option Sh) × St := if r.err = 0 then (match r.toks with
  | t :: _ => if t.sh.kind = k then (some t.sh, r) else (none, failJ 12 r)
  | [] => (none, r)) else (none, r)
def kindV (pos : Int) : Option Sh → Value
  | some s => .tuple #[.agg (tokC s pos), .bool true]
  | none => .tuple #[.agg #[.int .i64 0, .string ⟨#[]⟩, .int .i64 0, .int .i64 0], .bool false]
def headPos (r : St) : Int := match r.toks with
  | t :: _ => t.pos
  | [] => 0
set_option maxRecDepth 100000 in
set_option maxHeartbeats 2000000 in
theorem kind_any (b g : Nat) (r : St) (k : Int) (w : World) (h : RdrAt b g r w) :
    Calls Tryd.prog 71 #[.pointer (some ⟨b, 0, none⟩), .int .i64 k] w (RdrOut b g (kindV (headPos r) (kindJ k r).1) (kindJ k r).2 w) := by
  obtain ⟨toks, pos, err⟩ := r
  have hf := h.fine
  have hl := h.len
  have HR0 := Lib.hid h
  cases toks with
  | nil => exact absurd rfl hf.ne
  | cons t l =>
    obtain ⟨off, c, h1, h2, h3, hbl, h4, h5⟩ := h.open_
    obtain ⟨t0, t1, t2, t3⟩ := h5.head
    have c0 := box_cell h4 0 _ rfl
    have c2 := box_cell h4 2 _ rfl
    have HB : Hid (∀ o o', Below w.heap.size w ((w.alloc o).alloc o')) := Lib.hid (fun o o' => ((Below.refl _ _).alloc (Nat.le_refl _) _).alloc (by simp) _)
    have HT : Hid (∀ o o', Turn (One b) w ((w.alloc o).alloc o')) := Lib.hid (fun o o' => Turn.below (((Below.refl _ _).alloc (Nat.le_refl _) _).alloc (by simp) _))
    clear h4 h5 hf h
    by_cases he : err = 0
    rotate_left
    · have HS : Hid (kindJ k ⟨t :: l, pos, err⟩ = (none, ⟨t :: l, pos, err⟩)) := Lib.hid (by unfold kindJ; rw [if_neg he])
      have he2 : (err != 0) = true := by simpa using he
      have HF := Lib.hid (show failJ 12 ⟨t :: l, pos, err⟩ = ⟨t :: l, pos, err⟩ by unfold failJ; rw [if_neg he])
      clear he
      go_enter Tryd.func71, Tryd.ntmps71
      go_wp2_with fail
      refine (fail_any b g _ 12 _ (HR0.out.now (HB.out _ _))).mono ?_
      rintro e w2 ⟨rfl, hr2, ht2⟩
      have hbx : w2.heap[w.heap.size]? = some (.cells #[.int .i64 0, .string ⟨#[]⟩, .int .i64 0, .int .i64 0] 41 (0, 0)) := (ht2.block _ (by simp; omega) (by show ¬ w.heap.size = b; omega)).trans ((Below.heap_alloc _ _ _ (by simp)).trans (MapKept.heap_alloc w _).1)
      have k0 := box_cell hbx 0 _ rfl
      have k1 := box_cell hbx 1 _ rfl
      have k2 := box_cell hbx 2 _ rfl
      have k3 := box_cell hbx 3 _ rfl
      have z0 := box_free hbx 0
      have z1 := box_free hbx 1
      have z2 := box_free hbx 2
      have z3 := box_free hbx 3
      have HR2 := Lib.hid hr2
      have HT2 := Lib.hid ((HT.out _ _).trans ht2 fun _ hi => .inl hi)
      clear hbx hr2 ht2
      go_wp2_with fail
      refine bodyPost_ret (v := .tuple #[.agg #[.int .i64 0, .string ⟨#[]⟩, .int .i64 0, .int .i64 0], .bool false]) (by simp [results, Tryd.results71, go_sem, k0, k1, k2, k3]) rfl ?_
      refine ⟨by rw [HS.out]; rfl, ?_, (((HT2.out.set w.heap.size 0 _ (.inr (Nat.le_refl _))).set w.heap.size 1 _ (.inr (Nat.le_refl _))).set w.heap.size 2 _ (.inr (Nat.le_refl _))).set w.heap.size 3 _ (.inr (Nat.le_refl _))⟩
      rw [HS.out]
      have hr2 := HR2.out
      try (rw [HF.out] at hr2)
      have hp1 : w.heap.size ≠ b := by omega
      have hp2 : w.heap.size ≠ g := by omega
      exact (((hr2.set hp1 hp2).set hp1 hp2).set hp1 hp2).set hp1 hp2
    · subst he
      by_cases hk : t.sh.kind = k
      · have HS : Hid (kindJ k ⟨t :: l, pos, 0⟩ = (some t.sh, ⟨t :: l, pos, 0⟩)) := Lib.hid (by simp [kindJ, hk])
        have hk2 : (t.sh.kind != k) = false := by simp [hk]
        have HK := Lib.hid hk
        clear hk
        go_enter Tryd.func71, Tryd.ntmps71
        go_wp2_with fail
        refine bodyPost_ret (v := .tuple #[.agg #[.int .i64 t.sh.kind, .string (bs t.sh.text), .int .i64 t.sh.n, .int .i64 t.pos], .bool true]) (by simp [results, Tryd.results71, go_sem]) rfl ?_
        refine ⟨by rw [HS.out]; rfl, ?_, HT.out _ _⟩
        rw [HS.out]
        exact HR0.out.now (HB.out _ _)
      · have HS : Hid (kindJ k ⟨t :: l, pos, 0⟩ = (none, failJ 12 ⟨t :: l, pos, 0⟩)) := Lib.hid (by simp [kindJ, hk])
        have hk2 : (t.sh.kind != k) = true := by simpa using hk
        clear hk
        go_enter Tryd.func71, Tryd.ntmps71
        go_wp2_with fail
        refine (fail_any b g _ 12 _ (HR0.out.now (HB.out _ _))).mono ?_
        rintro e w2 ⟨rfl, hr2, ht2⟩
        have HF := Lib.hid (rfl : failJ 12 ⟨t :: l, pos, 0⟩ = failJ 12 ⟨t :: l, pos, 0⟩)
        have hbx : w2.heap[w.heap.size]? = some (.cells #[.int .i64 0, .string ⟨#[]⟩, .int .i64 0, .int .i64 0] 41 (0, 0)) := (ht2.block _ (by simp; omega) (by show ¬ w.heap.size = b; omega)).trans ((Below.heap_alloc _ _ _ (by simp)).trans (MapKept.heap_alloc w _).1)
        have k0 := box_cell hbx 0 _ rfl
        have k1 := box_cell hbx 1 _ rfl
        have k2 := box_cell hbx 2 _ rfl
        have k3 := box_cell hbx 3 _ rfl
        have z0 := box_free hbx 0
        have z1 := box_free hbx 1
        have z2 := box_free hbx 2
        have z3 := box_free hbx 3
        have HR2 := Lib.hid hr2
        have HT2 := Lib.hid ((HT.out _ _).trans ht2 fun _ hi => .inl hi)
        clear hbx hr2 ht2
        go_wp2_with fail
        refine bodyPost_ret (v := .tuple #[.agg #[.int .i64 0, .string ⟨#[]⟩, .int .i64 0, .int .i64 0], .bool false]) (by simp [results, Tryd.results71, go_sem, k0, k1, k2, k3]) rfl ?_
        refine ⟨by rw [HS.out]; rfl, ?_, (((HT2.out.set w.heap.size 0 _ (.inr (Nat.le_refl _))).set w.heap.size 1 _ (.inr (Nat.le_refl _))).set w.heap.size 2 _ (.inr (Nat.le_refl _))).set w.heap.size 3 _ (.inr (Nat.le_refl _))⟩
        rw [HS.out]
        have hr2 := HR2.out
        try (rw [HF.out] at hr2)
        have hp1 : w.heap.size ≠ b := by omega
        have hp2 : w.heap.size ≠ g := by omega
        exact (((hr2.set hp1 hp2).set hp1 hp2).set hp1 hp2).set hp1 hp2
end Go.Proofs.YtnaejabgkfhlbaaDoor
/- Contracts of package syntax: the reader's name, number, part. -/
set_option linter.unusedSimpArgs false
set_option linter.unusedVariables false
namespace Go.Proofs.YtnaejabgkfhlbaaDoor
open Go.RowKit

theorem name_kind (r : St) (h : r.toks ≠ []) : (∃ s p l, r = ⟨⟨.word s, p⟩ :: l, r.pos, 0⟩ ∧ kindJ 0 r = (some (.word s), r) ∧ nameJ r = (s, ⟨l, r.pos, 0⟩)) ∨ (kindJ 0 r = (none, (nameJ r).2) ∧ (nameJ r).1 = []) := by
  obtain ⟨toks, pos, err⟩ := r
  cases toks with
  | nil => exact absurd rfl h
  | cons t l =>
    by_cases he : err = 0
    · subst he
      obtain ⟨sh, p⟩ := t
      cases sh with
      | word s => exact .inl ⟨s, p, l, rfl, rfl, rfl⟩
      | num s n => exact .inr ⟨rfl, rfl⟩
      | sign => exact .inr ⟨rfl, rfl⟩
      | fin => exact .inr ⟨rfl, rfl⟩
    · right
      simp [kindJ, nameJ, he]
theorem num_kind (least : Int) (r : St) (h : r.toks ≠ []) : (∃ s n p l, r = ⟨⟨.num s n, p⟩ :: l, r.pos, 0⟩ ∧ kindJ 1 r = (some (.num s n), r) ∧ numJ least r = if n < least ∨ 1073741824 < n then (0, failJ 3 r) else (n, ⟨l, r.pos, 0⟩)) ∨ (kindJ 1 r = (none, (numJ least r).2) ∧ (numJ least r).1 = 0) := by
  obtain ⟨toks, pos, err⟩ := r
  cases toks with
  | nil => exact absurd rfl h
  | cons t l =>
    by_cases he : err = 0
    · subst he
      obtain ⟨sh, p⟩ := t
      cases sh with
      | num s n => exact .inl ⟨s, n, p, l, rfl, rfl, rfl⟩
      | word s => exact .inr ⟨rfl, rfl⟩
      | sign => exact .inr ⟨rfl, rfl⟩
      | fin => exact .inr ⟨rfl, rfl⟩
    · right
      simp [kindJ, numJ, he]
set_option maxRecDepth 100000 in
set_option maxHeartbeats 2000000 in
theorem name_any (b g : Nat) (r : St) (w : World) (h : RdrAt b g r w) :
    Calls Tryd.prog 26 #[.pointer (some ⟨b, 0, none⟩)] w (RdrOut b g (.string (bs (nameJ r).1)) (nameJ r).2 w) := by
  have HK := Lib.hid (kind_any b g r 0 w h)
  rcases name_kind r h.fine.ne with ⟨s, p, l, hr, h1, h2⟩ | ⟨h1, h2⟩
  · have H1 := Lib.hid h1
    have H2 := Lib.hid h2
    have HV : Hid (kindV (headPos r) (kindJ 0 r).1 = .tuple #[.agg #[.int .i64 0, .string (bs s), .int .i64 0, .int .i64 p], .bool true]) := Lib.hid (by rw [h1, hr]; rfl)
    have HRE := Lib.hid hr
    clear h1 h2 hr h
    go_enter Tryd.func26, Tryd.ntmps26
    go_wp2_with fail
    refine HK.out.mono ?_
    rintro e w1 ⟨rfl, hr1, ht1⟩
    rw [H1.out] at hr1
    simp only at hr1
    rw [HRE.out] at hr1
    have hl := hr1.len
    have HFi := Lib.hid (hr1.fine.tail (by simp))
    have hc1 : 1 ≤ l.length := fine_two hr1.fine (by simp)
    have HT1 := Lib.hid ht1
    obtain ⟨off, c, q1, q2, q3, hbl, q4, q5⟩ := hr1.open_
    have hc2 : l.length + 1 ≤ c := by simpa using q1
    have c0 := box_cell q4 0 _ rfl
    have f0 := box_free q4 0
    have Q4 := Lib.hid q4
    have Q5 := Lib.hid q5
    rw [HV.out]
    clear q4 q5 hr1 ht1
    go_wp2_with fail
    go_ret
    exact ⟨by rw [H2.out]; rfl, by rw [H2.out]; exact (RdrAt.step q1 q2 q3 Q4.out Q5.out HFi.out hl).now ((Below.refl _ _).alloc (Nat.le_refl _) _), (HT1.out.set b 0 _ (.inl rfl)).alloc _⟩
  · have H1 := Lib.hid h1
    have H2 := Lib.hid h2
    have HV : Hid (kindV (headPos r) (kindJ 0 r).1 = .tuple #[.agg #[.int .i64 0, .string ⟨#[]⟩, .int .i64 0, .int .i64 0], .bool false]) := Lib.hid (by rw [h1]; rfl)
    clear h1 h2 h
    go_enter Tryd.func26, Tryd.ntmps26
    go_wp2_with fail
    refine HK.out.mono ?_
    rintro e w1 ⟨rfl, hr1, ht1⟩
    rw [H1.out] at hr1
    have HR1 := Lib.hid hr1
    have HT1 := Lib.hid ht1
    rw [HV.out]
    clear hr1 ht1
    go_wp2_with fail
    go_ret
    exact ⟨by rw [H2.out]; rfl, HR1.out.now ((Below.refl _ _).alloc (Nat.le_refl _) _), HT1.out.alloc _⟩
set_option maxRecDepth 100000 in
set_option maxHeartbeats 2000000 in
theorem number_any (b g : Nat) (r : St) (least : Int) (w : World) (h : RdrAt b g r w) :
    Calls Tryd.prog 29 #[.pointer (some ⟨b, 0, none⟩), .int .i64 least] w (RdrOut b g (.int .i64 (numJ least r).1) (numJ least r).2 w) := by
  have HK := Lib.hid (kind_any b g r 1 w h)
  rcases num_kind least r h.fine.ne with ⟨s, n, p, l, hr, h1, h2⟩ | ⟨h1, h2⟩
  · have H1 := Lib.hid h1
    have H2 := Lib.hid h2
    have HV : Hid (kindV (headPos r) (kindJ 1 r).1 = .tuple #[.agg #[.int .i64 1, .string (bs s), .int .i64 n, .int .i64 p], .bool true]) := Lib.hid (by rw [h1, hr]; rfl)
    have HRE := Lib.hid hr
    clear h1 h2 hr h
    by_cases hn : n < least ∨ 1073741824 < n
    · have H3 : Hid (numJ least r = (0, failJ 3 r)) := Lib.hid (by rw [H2.out, if_pos hn])
      clear H2
      rcases hn with hn | hn
      · have d1 : decide (n < least) = true := by simpa using hn
        go_enter Tryd.func29, Tryd.ntmps29
        go_wp2_with fail
        refine HK.out.mono ?_
        rintro e w1 ⟨rfl, hr1, ht1⟩
        rw [H1.out] at hr1
        have HR1 := Lib.hid hr1
        have HT1 := Lib.hid ht1
        rw [HV.out]
        clear hr1 ht1
        go_wp2_with fail
        refine (fail_any b g r 3 _ (HR1.out.now ((Below.refl _ _).alloc (Nat.le_refl _) _))).mono ?_
        rintro e w2 ⟨rfl, hr2, ht2⟩
        have HR2 := Lib.hid hr2
        have HT2 := Lib.hid (turn_one (HT1.out.alloc _) ht2)
        clear hr2 ht2
        go_wp2_with fail
        go_ret
        exact ⟨by rw [H3.out]; rfl, by rw [H3.out]; exact HR2.out, HT2.out⟩
      · go_enter Tryd.func29, Tryd.ntmps29
        by_cases hl : n < least
        all_goals
          go_wp2_with fail
          refine HK.out.mono ?_
          rintro e w1 ⟨rfl, hr1, ht1⟩
          rw [H1.out] at hr1
          have HR1 := Lib.hid hr1
          have HT1 := Lib.hid ht1
          rw [HV.out]
          clear hr1 ht1
          go_wp2_with fail
          refine (fail_any b g r 3 _ (HR1.out.now ((Below.refl _ _).alloc (Nat.le_refl _) _))).mono ?_
          rintro e w2 ⟨rfl, hr2, ht2⟩
          have HR2 := Lib.hid hr2
          have HT2 := Lib.hid (turn_one (HT1.out.alloc _) ht2)
          clear hr2 ht2
          go_wp2_with fail
          go_ret
          exact ⟨by rw [H3.out]; rfl, by rw [H3.out]; exact HR2.out, HT2.out⟩
    · have H3 : Hid (numJ least r = (n, ⟨l, r.pos, 0⟩)) := Lib.hid (by rw [H2.out, if_neg hn])
      have hn1 : ¬ n < least := fun h => hn (.inl h)
      have hn2 : ¬ 1073741824 < n := fun h => hn (.inr h)
      clear H2 hn
      go_enter Tryd.func29, Tryd.ntmps29
      go_wp2_with fail
      refine HK.out.mono ?_
      rintro e w1 ⟨rfl, hr1, ht1⟩
      rw [H1.out] at hr1
      simp only at hr1
      rw [HRE.out] at hr1
      have hl := hr1.len
      have HFi := Lib.hid (hr1.fine.tail (by simp))
      have hc1 : 1 ≤ l.length := fine_two hr1.fine (by simp)
      have HT1 := Lib.hid ht1
      obtain ⟨off, c, q1, q2, q3, hbl, q4, q5⟩ := hr1.open_
      have hc2 : l.length + 1 ≤ c := by simpa using q1
      have c0 := box_cell q4 0 _ rfl
      have f0 := box_free q4 0
      have Q4 := Lib.hid q4
      have Q5 := Lib.hid q5
      rw [HV.out]
      clear q4 q5 hr1 ht1
      go_wp2_with fail
      go_ret
      exact ⟨by rw [H3.out]; rfl, by rw [H3.out]; exact (RdrAt.step q1 q2 q3 Q4.out Q5.out HFi.out hl).now ((Below.refl _ _).alloc (Nat.le_refl _) _), (HT1.out.set b 0 _ (.inl rfl)).alloc _⟩
  · have H1 := Lib.hid h1
    have H2 := Lib.hid h2
    have HV : Hid (kindV (headPos r) (kindJ 1 r).1 = .tuple #[.agg #[.int .i64 0, .string ⟨#[]⟩, .int .i64 0, .int .i64 0], .bool false]) := Lib.hid (by rw [h1]; rfl)
    clear h1 h2 h
    go_enter Tryd.func29, Tryd.ntmps29
    go_wp2_with fail
    refine HK.out.mono ?_
    rintro e w1 ⟨rfl, hr1, ht1⟩
    rw [H1.out] at hr1
    have HR1 := Lib.hid hr1
    have HT1 := Lib.hid ht1
    rw [HV.out]
    clear hr1 ht1
    go_wp2_with fail
    go_ret
    exact ⟨by rw [H2.out]; rfl, HR1.out.now ((Below.refl _ _).alloc (Nat.le_refl _) _), HT1.out.alloc _⟩
/-- A slice of one string, just made. -/
theorem oneS (w : World) (s : List UInt8) : RdL 1 strE (w.alloc (.cells #[.string (bs s)] 9)) (w.alloc (.cells #[.string (bs s)] 9)).heap.size (some ⟨w.heap.size, 0, none⟩) [s] :=
  (RdL.one (sz := 1) (enc := strE) w s #[.string (bs s)] 9 rfl w.heap.size rfl).more (by simp)
theorem wantOne_any (b g : Nat) (r : St) (s : List UInt8) (w : World) (n : Nat) (hn : n = w.heap.size) (h : RdrAt b g r w) :
    Calls Tryd.prog 25 #[.pointer (some ⟨b, 0, none⟩), .slice (some ⟨n, 0, none⟩) 1 1] (w.alloc (.cells #[.string (bs s)] 9)) (RdrOut b g (.int .i64 (wantJ [s] r).1) (wantJ [s] r).2 w) :=
  hn ▸ (want_any b g r [s] _ 1 _ (h.now ((Below.refl _ _).alloc (Nat.le_refl _) _)) (oneS w s) (by simp)).mono fun e w' ⟨h1, h2, h3⟩ => ⟨h1, h2, turn_one ((Turn.refl _ _).alloc _) h3⟩
theorem skipOne_any (b g : Nat) (r : St) (s : List UInt8) (w : World) (n : Nat) (hn : n = w.heap.size) (h : RdrAt b g r w) :
    Calls Tryd.prog 28 #[.pointer (some ⟨b, 0, none⟩), .slice (some ⟨n, 0, none⟩) 1 1] (w.alloc (.cells #[.string (bs s)] 9)) (RdrOut b g (.int .i64 (skipJ [s] r).1) (skipJ [s] r).2 w) :=
  hn ▸ (skip_any b g r [s] _ 1 _ (h.now ((Below.refl _ _).alloc (Nat.le_refl _) _)) (oneS w s) (by simp)).mono fun e w' ⟨h1, h2, h3⟩ => ⟨h1, h2, turn_one ((Turn.refl _ _).alloc _) h3⟩
-- rdStep CONTRACT | k | k0 : a call of the reader's method (contract at the world and HRk0); HRk, HTk
set_option maxRecDepth 100000 in
set_option maxHeartbeats 1000000 in
theorem part_any (b g : Nat) (r : St) (s : List UInt8) (ws : List (List UInt8)) (A : Option Addr) (cw : Nat) (w : World) (h : RdrAt b g r w) (hr : RdL 1 strE w w.heap.size A ws) (hA : ∀ i, slBlk A = some i → i ≠ b) (hm : ws.length ≤ 1000) :
    Calls Tryd.prog 30 #[.pointer (some ⟨b, 0, none⟩), .string (bs s), .slice A ws.length cw] w (RdrOut b g (.int .i64 (partG opsJ s ws r).1) (partG opsJ s ws r).2 w) := by
  have HR0 := Lib.hid h
  have HT0 := Lib.hid (Turn.refl (One b) w)
  have HRW := Lib.hid hr
  have HE : Hid (partG opsJ s ws r = ((wantJ ws (wantJ [s] r).2).1, (wantJ [kSemi] (wantJ ws (wantJ [s] r).2).2).2)) := Lib.hid rfl
  clear h hr
  go_enter Tryd.func30, Tryd.ntmps30
  go_wp2_with fail
  refine (wantOne_any b g r s w _ rfl HR0.out).mono ?_
  rintro e w1 ⟨rfl, hr1, ht1⟩
  have HR1 := Lib.hid hr1
  have HT1 := Lib.hid (turn_one HT0.out ht1)
  clear hr1 ht1
  go_wp2_with fail
  refine (want_any b g _ ws A cw _ HR1.out (HRW.out.turn (fun i hi hlt => HT1.out.block i hlt (hA i hi)) HT1.out.size) hm).mono ?_
  rintro e w2 ⟨rfl, hr2, ht2⟩
  have HR2 := Lib.hid hr2
  have HT2 := Lib.hid (turn_one HT1.out ht2)
  clear hr2 ht2
  go_wp2_with fail
  refine (wantOne_any b g _ kSemi w2 _ rfl HR2.out).mono ?_
  rintro e w3 ⟨rfl, hr3, ht3⟩
  have HR3 := Lib.hid hr3
  have HT3 := Lib.hid (turn_one HT2.out ht3)
  clear hr3 ht3
  go_wp2_with fail
  go_ret
  exact ⟨by rw [HE.out]; rfl, by rw [HE.out]; exact HR3.out, HT3.out⟩
end Go.Proofs.YtnaejabgkfhlbaaDoor
