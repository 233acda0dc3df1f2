/- Contract of the reader's part about files. -/
import Derived.Test.YtnaejabgkfhlbaaDoorSyJ
import Derived.Test.YtnaejabgkfhlbaaDoorHold
import Derived.Test.YtnaejabgkfhlbaaDoorBox
import Derived.Deep.DeepCutAuto
set_option linter.unusedSimpArgs false
set_option linter.unusedVariables false
namespace Go.Proofs.YtnaejabgkfhlbaaDoor
open Go.RowKit

abbrev Two (b p : Nat) (i : Nat) : Prop := i = b ∨ i = p
theorem slStr : SlTy Tryd.prog 22 9 1 16 := by
  obtain ⟨i, hi, h0, h1, h2⟩ := info_parts (show (Tryd.prog.info? 9).map (fun i => (i.zero, i.size, i.bytes)) = some (some (.string ByteArray.empty), 1, 16) by kernel_rfl)
  exact ⟨Tryd.underlying22, ⟨i, _, hi, h0, h1, h2, rfl⟩, by decide, by decide⟩
theorem strELay : Lay 1 strE := ⟨fun _ => rfl, fun x u hu => by simp only [strE, List.mem_singleton] at hu; subst hu; rfl⟩
/-- A profile's box. -/
def PBox (p : Nat) (cs : Array Value) (w : World) : Prop := w.heap[p]? = some (.cells cs 24 (0, 0))
section
variable {p : Nat} {cs : Array Value} {w w' : World}
theorem PBox.lt (h : PBox p cs w) : p < w.heap.size := box_lt h
theorem PBox.c (h : PBox p cs w) (j : Nat) (v : Value) (hj : cs[j]? = some v) : w.cell? ⟨p, j, none⟩ = some v := box_cell h j v hj
theorem PBox.f (h : PBox p cs w) (j : Nat) : w.frozen? ⟨p, j, none⟩ = false := box_free h j
theorem PBox.turn {F : Nat → Prop} (h : PBox p cs w) (ht : Turn F w w') (hp : ¬ F p) : PBox p cs w' := (ht.block p h.lt hp).trans h
theorem PBox.now (h : PBox p cs w) (hb : Below w.heap.size w w') : PBox p cs w' := (hb.block p h.lt).trans h
theorem PBox.set (h : PBox p cs w) (j : Nat) (v : Value) : PBox p (cs.setIfInBounds j v) (w.setCell ⟨p, j, none⟩ v) := by
  unfold PBox at *
  simp [World.setCell, Array.getElem?_modify, h]
end
/-- What is known of the reader's world: the reader, the profile's box, and what turned since w0. -/
structure KW (b g p : Nat) (w0 : World) (r : St) (cs : Array Value) (w : World) : Prop where
  rd : RdrAt b g r w
  box : PBox p cs w
  ne : p ≠ b ∧ p ≠ g
  turn : Turn (Two b p) w0 w
section
variable {b g p : Nat} {w0 w w' : World} {r r' : St} {cs : Array Value}
theorem KW.call (h : KW b g p w0 r cs w) (hr : RdrAt b g r' w') (ht : Turn (One b) w w') : KW b g p w0 r' cs w' :=
  ⟨hr, h.box.turn ht h.ne.1, h.ne, h.turn.trans ht fun i hi => .inl (.inl hi)⟩
theorem KW.now (h : KW b g p w0 r cs w) (hb : Below w.heap.size w w') : KW b g p w0 r cs w' :=
  ⟨h.rd.now hb, h.box.now hb, h.ne, h.turn.trans (Turn.below (F := fun _ => False) hb) fun _ hf => hf.elim⟩
theorem KW.alloc (h : KW b g p w0 r cs w) (o : Obj) : KW b g p w0 r cs (w.alloc o) := h.now ((Below.refl _ _).alloc (Nat.le_refl _) _)
theorem KW.drew (h : KW b g p w0 r cs w) : KW b g p w0 r cs w.drew := h.now (Below.refl _ _).drew
theorem KW.set (h : KW b g p w0 r cs w) (j : Nat) (v : Value) : KW b g p w0 r (cs.setIfInBounds j v) (w.setCell ⟨p, j, none⟩ v) :=
  ⟨h.rd.set h.ne.1 h.ne.2, h.box.set j v, h.ne, h.turn.set p j v (.inl (.inr rfl))⟩
theorem KW.grown {row : Option Nat} (h : KW b g p w0 r cs w) (hg : w.grownBy w' row) (hb : ∀ k, row = some k → k ≠ b ∧ k ≠ g ∧ k ≠ p ∧ w0.heap.size ≤ k) : KW b g p w0 r cs w' := by
  have ht : Turn (fun i => row = some i) w w' := Turn.grown hg fun k hk => hk
  exact ⟨h.rd.turn ht (fun e => (hb _ e).1 rfl) (fun e => (hb _ e).2.1 rfl), h.box.turn ht (fun e => (hb _ e).2.2.1 rfl), h.ne, h.turn.trans ht fun i hi => .inr (hb i hi).2.2.2⟩
end
-- kw1 CONTRACT | k | k0 : a call of the reader's method; HKk
-- apReg TMP1 | TMP2 | A | c | ts | k0 | r : the region that appends a name to the types; behind it HKr (the reader's world wr), HOr (the types)
/-- What 'files' leaves. -/
def FilesOut (b g p : Nat) (cs : Array Value) (f : Int × Int × List (List UInt8)) (r' : St) (w : World) (e : Ending) (w' : World) : Prop :=
  e = .returned (.tuple #[]) ∧ ∃ A c, OwnL w' w.heap.size 9 1 strE A c f.2.2 ∧ KW b g p w r' (((cs.setIfInBounds 10 (.int .i64 f.1)).setIfInBounds 11 (.int .i64 f.2.1)).setIfInBounds 12 (.slice A f.2.2.length c)) w'
theorem set_same (cs : Array Value) (j : Nat) (v : Value) (h : cs[j]? = some v) : cs.setIfInBounds j v = cs := by
  apply Array.ext
  · simp
  · intro i h1 h2
    rw [Array.getElem_setIfInBounds]
    split
    · rename_i e
      subst e
      rw [Array.getElem?_eq_getElem h2] at h
      injection h with h
      exact h.symm
    · rfl
theorem files_none (r : St) (h : (skipJ [kFiles] r).1 < 0) : filesG opsJ r = ((0, 0, []), (skipJ [kFiles] r).2) := by
  show (if (skipJ [kFiles] r).1 < 0 then opsJ.ret (0, 0, []) else _) (skipJ [kFiles] r).2 = _
  rw [if_pos h]
  rfl
def filesTail (f x : Int) (t : List UInt8) : Jd (Int × Int × List (List UInt8)) := opsJ.bnd (opsJ.more 19) fun ts => opsJ.bnd (opsJ.want [kSemi]) fun _ => opsJ.ret (f, x, t :: ts)
theorem files_some (r : St) (h : ¬ (skipJ [kFiles] r).1 < 0) : filesG opsJ r =
    filesTail (numJ 1 (skipJ [kFiles] r).2).1 (numJ 0 (wantJ [kBytes] (numJ 1 (skipJ [kFiles] r).2).2).2).1 (nameJ (wantJ [kTypes] (numJ 0 (wantJ [kBytes] (numJ 1 (skipJ [kFiles] r).2).2).2).2).2).1
      (nameJ (wantJ [kTypes] (numJ 0 (wantJ [kBytes] (numJ 1 (skipJ [kFiles] r).2).2).2).2).2).2 := by
  show (if (skipJ [kFiles] r).1 < 0 then opsJ.ret (0, 0, []) else _) (skipJ [kFiles] r).2 = _
  rw [if_neg h]
  rfl
theorem more_stop (k : Nat) (r : St) (h : ¬ (r.err = 0 ∧ isWord r.toks = true)) : moreJ k r = ([], r) := by
  cases k <;> · unfold moreJ; rw [if_neg h]
theorem more_full (r : St) (h : r.err = 0 ∧ isWord r.toks = true) : moreJ 0 r = ([], failJ 6 r) := by unfold moreJ; rw [if_pos h]
theorem more_next (k : Nat) (r : St) (h : r.err = 0 ∧ isWord r.toks = true) : moreJ (k + 1) r = ((nameJ r).1 :: (moreJ k (nameJ r).2).1, (moreJ k (nameJ r).2).2) := by
  conv => lhs; unfold moreJ
  rw [if_pos h]
theorem want_bad (ws : List (List UInt8)) (r : St) (h : r.err ≠ 0) : (wantJ ws r).2 = r := by
  unfold wantJ skipJ failJ
  simp [h]
theorem isWord_kind (t : Tok) (l : List Tok) : isWord (t :: l) = (t.sh.kind == 0) := by
  obtain ⟨sh, p⟩ := t
  cases sh <;> rfl
theorem files_tail (f x : Int) (t : List UInt8) (r : St) : filesTail f x t r = ((f, x, t :: (moreJ 19 r).1), (wantJ [kSemi] (moreJ 19 r).2).2) := rfl
def capLeft (p : Nat) (w : World) : Nat := match w.cell? ⟨p, 12, none⟩ with
  | some (.slice _ n _) => 21 - n
  | _ => 0
set_option maxRecDepth 100000 in
set_option maxHeartbeats 4000000 in
theorem files_any (b g p : Nat) (r : St) (cs : Array Value) (w : World) (h : RdrAt b g r w) (hp : PBox p cs w) (hne : p ≠ b ∧ p ≠ g) (h10 : cs[10]? = some (.int .i64 0)) (h11 : cs[11]? = some (.int .i64 0)) (h12 : cs[12]? = some (.slice none 0 0)) :
    Calls Tryd.prog 33 #[.pointer (some ⟨b, 0, none⟩), .pointer (some ⟨p, 0, none⟩)] w (FilesOut b g p cs (filesG opsJ r).1 (filesG opsJ r).2 w) := by
  have hbl0 := h.lt
  have hgl0 := h.glt
  have hpl0 := hp.lt
  have HK0 : Hid (KW b g p w r cs w) := Lib.hid ⟨h, hp, hne, Turn.refl _ _⟩
  have HNo := Lib.hid (files_none r)
  have HYes := Lib.hid (files_some r)
  have hsz : 12 < cs.size := (Array.getElem?_eq_some_iff.1 h12).1
  have H10 := Lib.hid h10
  have H11 := Lib.hid h11
  have H12 := Lib.hid h12
  clear h hp h10 h11 h12
  go_enter Tryd.func33, Tryd.ntmps33
  go_wp2_with fail
  refine (skipOne_any b g r kFiles w _ rfl HK0.out.rd).mono ?_
  rintro e w1 ⟨rfl, hr1, ht1⟩
  have HK1 := Lib.hid (HK0.out.call hr1 ht1)
  clear hr1 ht1 HK0
  generalize skipJ [kFiles] r = q1 at *
  obtain ⟨n1, r1⟩ := q1
  simp only at HK1 HNo HYes ⊢
  by_cases hn : n1 < 0
  · have HF := Lib.hid (HNo.out hn)
    clear HYes HNo
    go_wp2_with fail
    go_end0
    refine ⟨rfl, none, 0, ?_⟩
    rw [HF.out]
    refine ⟨OwnL.nil_, ?_⟩
    rw [set_same cs 10 _ H10.out, set_same cs 11 _ H11.out]
    show KW b g p w r1 (cs.setIfInBounds 12 (.slice none 0 0)) w1
    rw [set_same cs 12 _ H12.out]
    exact HK1.out
  · have HF := Lib.hid (HYes.out (by omega))
    clear HYes HNo
    go_wp2_with fail
    refine (number_any b g r1 1 _ HK1.out.rd).mono ?_
    rintro e w2 ⟨rfl, hr2, ht2⟩
    have HK2 := Lib.hid (HK1.out.call hr2 ht2)
    clear hr2 ht2 HK1
    generalize numJ 1 r1 = q2 at *
    obtain ⟨n2, r2⟩ := q2
    simp only at HK2 HF ⊢
    have c10 := HK2.out.box.c 10 _ H10.out
    have f10 := HK2.out.box.f 10
    have HK3 := Lib.hid (HK2.out.set 10 (.int .i64 n2))
    clear HK2
    go_wp2_with fail
    refine (wantOne_any b g r2 kBytes _ _ (by simp) HK3.out.rd).mono ?_
    rintro e w4 ⟨rfl, hr4, ht4⟩
    have HK4 := Lib.hid (HK3.out.call hr4 ht4)
    clear hr4 ht4 HK3
    generalize wantJ [kBytes] r2 = q4 at *
    obtain ⟨n4, r4⟩ := q4
    simp only at HK4 HF ⊢
    go_wp2_with fail
    refine (number_any b g r4 0 _ HK4.out.rd).mono ?_
    rintro e w5 ⟨rfl, hr5, ht5⟩
    have HK5 := Lib.hid (HK4.out.call hr5 ht5)
    clear hr5 ht5 HK4
    generalize numJ 0 r4 = q5 at *
    obtain ⟨n5, r5⟩ := q5
    simp only at HK5 HF ⊢
    have c11 := HK5.out.box.c 11 (.int .i64 0) (by simpa using H11.out)
    have f11 := HK5.out.box.f 11
    have HK6 := Lib.hid (HK5.out.set 11 (.int .i64 n5))
    clear HK5 c10 f10
    go_wp2_with fail
    refine (wantOne_any b g r5 kTypes _ _ (by simp) HK6.out.rd).mono ?_
    rintro e w7 ⟨rfl, hr7, ht7⟩
    have HK7 := Lib.hid (HK6.out.call hr7 ht7)
    clear hr7 ht7 HK6
    generalize wantJ [kTypes] r5 = q7 at *
    obtain ⟨n7, r7⟩ := q7
    simp only at HK7 HF ⊢
    clear c11 f11
    have c12 := HK7.out.box.c 12 (.slice none 0 0) (by simpa using H12.out)
    have f12 := HK7.out.box.f 12
    have hplt := HK7.out.box.lt
    have HO : Hid (OwnL w7 w.heap.size 9 1 strE none 0 ([] : List (List UInt8))) := Lib.hid OwnL.nil_
    go_wp2_with fail
    refine wp_region_J (S := fun w' => w'.cell? ⟨p, 12, none⟩ = some (.slice none (([] : List (List UInt8))).length 0)) (fun i => i == 11) (by kernel_rfl) (c12) (fun hHeld => ?_)
    refine wpAnyJ_take (i := 0) (v := ?_) rfl (by kernel_rfl) (by kernel_rfl) (by kernel_rfl) (by kernel_rfl) (fun _ _ _ h => h) (Or.inl ⟨by rfl, ?_⟩) hHeld ?_
    rotate_left
    · intro wq hSq
      skip
      go_simp
      try with_reducible rfl
    simp only [Act.put, List.setIfInBounds_toArray, List.set_cons_zero, List.set_cons_succ]
    refine wpAnyJ_take (i := 1) (v := ?_) rfl (by kernel_rfl) (by kernel_rfl) (by kernel_rfl) (by kernel_rfl) (fun _ _ _ h => h) (Or.inl ⟨by rfl, ?_⟩) hHeld ?_
    rotate_left
    · intro wq hSq
      skip
      go_simp
      try with_reducible rfl
    simp only [Act.put, List.setIfInBounds_toArray, List.set_cons_zero, List.set_cons_succ]
    refine wpAnyJ_take (i := 2) (v := ?_) rfl (by kernel_rfl) (by kernel_rfl) (by kernel_rfl) (by kernel_rfl) (fun _ _ _ h => h) (Or.inl ⟨by rfl, ?_⟩) hHeld ?_
    rotate_left
    · intro wq hSq
      skip
      go_simp
      try with_reducible rfl
    simp only [Act.put, List.setIfInBounds_toArray, List.set_cons_zero, List.set_cons_succ]
    refine wpAnyJ_take (i := 3) (v := ?_) rfl (by kernel_rfl) (by kernel_rfl) (by kernel_rfl) (by kernel_rfl) (fun _ _ _ h => h) (Or.inl ⟨by rfl, ?_⟩) hHeld ?_
    rotate_left
    · intro wq hSq
      skip
      go_simp
      try with_reducible rfl
    simp only [Act.put, List.setIfInBounds_toArray, List.set_cons_zero, List.set_cons_succ]
    refine wpAnyJ_take (i := 4) (v := ?_) rfl (by kernel_rfl) (by kernel_rfl) (by kernel_rfl) (by kernel_rfl) (fun _ _ _ h => h) (Or.inl ⟨by rfl, ?_⟩) hHeld ?_
    rotate_left
    · intro wq hSq
      have hcq : wq.cell? ⟨p, 12, none⟩ = some (.slice none (([] : List (List UInt8))).length 0) := hSq
      go_simp
      try with_reducible rfl
    simp only [Act.put, List.setIfInBounds_toArray, List.set_cons_zero, List.set_cons_succ]
    refine wpAnyJ_take (i := 5) (v := ?_) rfl (by kernel_rfl) (by kernel_rfl) (by kernel_rfl) (by kernel_rfl) (fun _ _ _ h => h) (Or.inl ⟨by rfl, ?_⟩) hHeld ?_
    rotate_left
    · intro wq hSq
      skip
      go_simp
      try with_reducible rfl
    simp only [Act.put, List.setIfInBounds_toArray, List.set_cons_zero, List.set_cons_succ]
    refine wpAnyJ_one (i := 6) rfl (by kernel_rfl) (fun K hK => ?_)
    go_simp
    refine (name_any b g r7 _ HK7.out.drew.rd).mono ?_
    rintro e wn ⟨rfl, hrn, htn⟩
    go_wp2_with fail
    refine hK.out _ _ (fun _ h => (World.cell?_of_block (htn.block p hplt (fun e => HK7.out.ne.1 e))).trans h) ?_
    clear hK K
    have HKn := Lib.hid (HK7.out.drew.call hrn htn)
    have HOn := Lib.hid (HO.out.turn (w' := wn) (fun i hi hlt => htn.block i hlt (fun e => by have := HO.out.blk_lt hi; have := hbl0; subst e; omega)))
    clear hrn htn
    refine wpAnyJ_one (i := 7) rfl (by kernel_rfl) (fun K hK => ?_)
    go_simp
    refine hK.out _ _ (fun _ h => (cell_old wn _ p 12 HKn.out.box.lt).trans h) ?_
    clear hK K
    refine wpAnyJ_one (i := 8) rfl (by kernel_rfl) (fun K hK => ?_)
    refine step_append_l rfl (.tmp 28) (.tmp 31) rfl slStr strELay w.heap.size (([] : List (List UInt8))) [(nameJ r7).1] rfl rfl (HOn.out.alloc _) rfl rfl ⟨_, RdL.one wn (nameJ r7).1 _ 9 rfl _ rfl⟩ (by first | (simp; done) | (simp; omega)) (by have := HKn.out.turn.size; simp; omega) ?_
    intro A2 c2 w5 hown hg hbl hat
    have HKa := Lib.hid ((HKn.out.alloc _).grown hg (fun k hk => by have := HOn.out.blk k hk; have h1 := hbl0; have h2 := hgl0; have h3 := hpl0; refine ⟨?_, ?_, ?_, ?_⟩ <;> omega))
    have HOr := Lib.hid hown
    clear hown hg hbl hat
    have e12 : w5.cell? ⟨p, 12, none⟩ = some (.slice none (([] : List (List UInt8))).length 0) := HKa.out.box.c 12 _ (by first | (simp; done) | (simpa using H12.out) | (simp [hcz]; done) | (simp; omega))
    have ez := HKa.out.box.f 12
    refine hK.out _ _ (fun _ _ => e12) ?_
    clear hK K
    refine wpAnyJ_pure (i := 9) (v := ?_) rfl (by kernel_rfl) (by kernel_rfl) (by kernel_rfl) (fun _ _ _ h => h) (Or.inl ⟨by rfl, ?_⟩) ?_
    rotate_left
    · intro wq _
      go_simp
      try with_reducible rfl
    simp only [Act.put, List.setIfInBounds_toArray, List.set_cons_zero, List.set_cons_succ]
    refine wpAnyJ_pure (i := 10) (v := ?_) rfl (by kernel_rfl) (by kernel_rfl) (by kernel_rfl) (fun _ _ _ h => h) (Or.inl ⟨by rfl, ?_⟩) ?_
    rotate_left
    · intro wq _
      go_simp
      try with_reducible rfl
    simp only [Act.put, List.setIfInBounds_toArray, List.set_cons_zero, List.set_cons_succ]
    refine wpAnyJ_one (i := 11) rfl (by kernel_rfl) (fun K hK => ?_)
    go_simp
    refine hK.out _ _ (fun h => nomatch h) ?_
    clear hK K
    refine wpAnyJ_done (by kernel_rfl) ?_ _
    have HKr := Lib.hid (HKa.out.set 12 (.slice A2 ((([] : List (List UInt8))) ++ [(nameJ r7).1]).length c2))
    clear HKa HKn HOn e12 ez
    have HF2 := Lib.hid ((HF.out).trans (files_tail n2 n5 (nameJ r7).1 (nameJ r7).2))
    clear HF HO HK7 c12 f12 H10 H11
    generalize hnq : nameJ r7 = q8 at *
    clear hnq
    obtain ⟨t8, r8⟩ := q8
    simp only at HF2 HKr HOr ⊢
    obtain ⟨cs1, hcs1⟩ : ∃ x, x = (cs.setIfInBounds 10 (.int .i64 n2)).setIfInBounds 11 (.int .i64 n5) := ⟨_, rfl⟩
    have hcz : 12 < cs1.size := by rw [hcs1]; simpa using hsz
    have HCS := Lib.hid hcs1
    have HKs : Hid (KW b g p w r8 (cs1.setIfInBounds 12 (.slice A2 1 c2)) _) := Lib.hid (by rw [hcs1]; simpa using HKr.out)
    clear hcs1 HKr
    go_wp2_with fail
    go_loopw [40] (fun _ wr => ∃ (A : Option Addr) (c : Nat) (acc : List (List UInt8)) (rj : St), acc.length ≤ 19 ∧ KW b g p w rj (cs1.setIfInBounds 12 (.slice A (acc.length + 1) c)) wr ∧ OwnL wr w.heap.size 9 1 strE A c (t8 :: acc) ∧
      moreJ 19 r8 = (acc ++ (moreJ (19 - acc.length) rj).1, (moreJ (19 - acc.length) rj).2)) (fun _ wr => capLeft p wr)
    case atStart => exact ⟨A2, c2, [], r8, by decide, HKs.out, by simpa using HOr.out.turn (fun i hi hlt => heap_setCell_other _ _ _ _ (fun e => by have := HOr.out.blk_lt hi; have := hpl0; subst e; omega)), by simp⟩
    case round =>
      obtain ⟨A, c, acc, rj, hj, hkw, how, hmo⟩ := hrel
      have HK10 := Lib.hid hkw
      have HO := Lib.hid how
      have HMo := Lib.hid hmo
      have c12 : wr.cell? ⟨p, 12, none⟩ = some (.slice A (acc.length + 1) c) := hkw.box.c 12 _ (by simp [hcz])
      have HCap : Hid (capLeft p wr = 21 - (acc.length + 1)) := Lib.hid (by unfold capLeft; rw [c12])
      have f12 := hkw.box.f 12
      have hplt := hkw.box.lt
      have hfi := hkw.rd.fine
      have hrd := hkw.rd
      have HRD := Lib.hid hkw.rd
      clear hkw how hmo
      have HNe := Lib.hid hfi.ne
      obtain ⟨toks, pos, err⟩ := rj
      cases toks with
      | nil => exact absurd rfl HNe.out
      | cons t0 l0 =>
        obtain ⟨off, c9, q1, q2, q3, hbl, q4, q5⟩ := hrd.open_
        obtain ⟨u0, _, _, _⟩ := q5.head
        have k0 := box_cell q4 0 _ rfl
        have k2 := box_cell q4 2 _ rfl
        clear q4 q5 hfi hrd HNe
        by_cases hwd : err = 0 ∧ (t0.sh.kind == 0) = true
        · obtain ⟨rfl, hk0⟩ := hwd
          have HW : Hid ((⟨t0 :: l0, pos, 0⟩ : St).err = 0 ∧ isWord (⟨t0 :: l0, pos, 0⟩ : St).toks = true) := Lib.hid ⟨rfl, by rw [isWord_kind]; exact hk0⟩
          by_cases h19 : acc.length = 19
          · have HFull : Hid (filesG opsJ r = ((n2, n5, t8 :: acc), failJ 6 ⟨t0 :: l0, pos, 0⟩)) := Lib.hid (by
              rw [HF2.out, HMo.out, h19, Nat.sub_self, more_full _ HW.out, List.append_nil, want_bad]
              show (failJ 6 ⟨t0 :: l0, pos, 0⟩).err ≠ 0
              simp [failJ])
            have d20 : ((acc.length : Int) + 1 == 20) = true := by rw [h19]; rfl
            clear h19
            go_wp2_with fail
            refine (fail_any b g _ 6 _ HRD.out).mono ?_
            rintro e w9 ⟨rfl, hr9, ht9⟩
            have HK9 := Lib.hid (HK10.out.call hr9 ht9)
            have HO9 := Lib.hid (HO.out.turn (w' := w9) (fun i hi hlt => ht9.block i hlt (fun e => by have := HO.out.blk_lt hi; have := hbl0; subst e; omega)))
            clear hr9 ht9
            go_wp2_with fail
            go_end0
            refine ⟨rfl, A, c, ?_⟩
            rw [HFull.out]
            refine ⟨HO9.out, ?_⟩
            rw [← HCS.out]
            exact HK9.out
          · have d20 : ((acc.length : Int) + 1 == 20) = false := by simp; omega
            have HNx := Lib.hid (more_next (18 - acc.length) ⟨t0 :: l0, pos, 0⟩ HW.out)
            have hlt19 : acc.length < 19 := by omega
            clear h19
            go_wp2_with fail
            refine wp_region_J (S := fun w' => w'.cell? ⟨p, 12, none⟩ = some (.slice A ((t8 :: acc)).length c)) (fun i => i == 11) (by kernel_rfl) (c12) (fun hHeld => ?_)
            refine wpAnyJ_take (i := 0) (v := ?_) rfl (by kernel_rfl) (by kernel_rfl) (by kernel_rfl) (by kernel_rfl) (fun _ _ _ h => h) (Or.inl ⟨by rfl, ?_⟩) hHeld ?_
            rotate_left
            · intro wq hSq
              skip
              go_simp
              try with_reducible rfl
            simp only [Act.put, List.setIfInBounds_toArray, List.set_cons_zero, List.set_cons_succ]
            refine wpAnyJ_take (i := 1) (v := ?_) rfl (by kernel_rfl) (by kernel_rfl) (by kernel_rfl) (by kernel_rfl) (fun _ _ _ h => h) (Or.inl ⟨by rfl, ?_⟩) hHeld ?_
            rotate_left
            · intro wq hSq
              skip
              go_simp
              try with_reducible rfl
            simp only [Act.put, List.setIfInBounds_toArray, List.set_cons_zero, List.set_cons_succ]
            refine wpAnyJ_take (i := 2) (v := ?_) rfl (by kernel_rfl) (by kernel_rfl) (by kernel_rfl) (by kernel_rfl) (fun _ _ _ h => h) (Or.inl ⟨by rfl, ?_⟩) hHeld ?_
            rotate_left
            · intro wq hSq
              skip
              go_simp
              try with_reducible rfl
            simp only [Act.put, List.setIfInBounds_toArray, List.set_cons_zero, List.set_cons_succ]
            refine wpAnyJ_take (i := 3) (v := ?_) rfl (by kernel_rfl) (by kernel_rfl) (by kernel_rfl) (by kernel_rfl) (fun _ _ _ h => h) (Or.inl ⟨by rfl, ?_⟩) hHeld ?_
            rotate_left
            · intro wq hSq
              skip
              go_simp
              try with_reducible rfl
            simp only [Act.put, List.setIfInBounds_toArray, List.set_cons_zero, List.set_cons_succ]
            refine wpAnyJ_take (i := 4) (v := ?_) rfl (by kernel_rfl) (by kernel_rfl) (by kernel_rfl) (by kernel_rfl) (fun _ _ _ h => h) (Or.inl ⟨by rfl, ?_⟩) hHeld ?_
            rotate_left
            · intro wq hSq
              have hcq : wq.cell? ⟨p, 12, none⟩ = some (.slice A ((t8 :: acc)).length c) := hSq
              go_simp
              try with_reducible rfl
            simp only [Act.put, List.setIfInBounds_toArray, List.set_cons_zero, List.set_cons_succ]
            refine wpAnyJ_take (i := 5) (v := ?_) rfl (by kernel_rfl) (by kernel_rfl) (by kernel_rfl) (by kernel_rfl) (fun _ _ _ h => h) (Or.inl ⟨by rfl, ?_⟩) hHeld ?_
            rotate_left
            · intro wq hSq
              skip
              go_simp
              try with_reducible rfl
            simp only [Act.put, List.setIfInBounds_toArray, List.set_cons_zero, List.set_cons_succ]
            refine wpAnyJ_one (i := 6) rfl (by kernel_rfl) (fun K hK => ?_)
            go_simp
            refine (name_any b g (⟨t0 :: l0, pos, 0⟩ : St) _ HK10.out.drew.rd).mono ?_
            rintro e wn ⟨rfl, hrn, htn⟩
            go_wp2_with fail
            refine hK.out _ _ (fun _ h => (World.cell?_of_block (htn.block p hplt (fun e => HK10.out.ne.1 e))).trans h) ?_
            clear hK K
            have HKn := Lib.hid (HK10.out.drew.call hrn htn)
            have HOn := Lib.hid (HO.out.turn (w' := wn) (fun i hi hlt => htn.block i hlt (fun e => by have := HO.out.blk_lt hi; have := hbl0; subst e; omega)))
            clear hrn htn
            refine wpAnyJ_one (i := 7) rfl (by kernel_rfl) (fun K hK => ?_)
            go_simp
            refine hK.out _ _ (fun _ h => (cell_old wn _ p 12 HKn.out.box.lt).trans h) ?_
            clear hK K
            refine wpAnyJ_one (i := 8) rfl (by kernel_rfl) (fun K hK => ?_)
            refine step_append_l rfl (.tmp 62) (.tmp 65) rfl slStr strELay w.heap.size ((t8 :: acc)) [(nameJ (⟨t0 :: l0, pos, 0⟩ : St)).1] rfl rfl (HOn.out.alloc _) rfl rfl ⟨_, RdL.one wn (nameJ (⟨t0 :: l0, pos, 0⟩ : St)).1 _ 9 rfl _ rfl⟩ (by first | (simp; done) | (simp; omega)) (by have := HKn.out.turn.size; simp; omega) ?_
            intro A2 c2 w5 hown hg hbl hat
            have HKa := Lib.hid ((HKn.out.alloc _).grown hg (fun k hk => by have := HOn.out.blk k hk; have h1 := hbl0; have h2 := hgl0; have h3 := hpl0; refine ⟨?_, ?_, ?_, ?_⟩ <;> omega))
            have HOr := Lib.hid hown
            clear hown hg hbl hat
            have e12 : w5.cell? ⟨p, 12, none⟩ = some (.slice A ((t8 :: acc)).length c) := HKa.out.box.c 12 _ (by first | (simp; done) | (simpa using H12.out) | (simp [hcz]; done) | (simp; omega))
            have ez := HKa.out.box.f 12
            refine hK.out _ _ (fun _ _ => e12) ?_
            clear hK K
            refine wpAnyJ_pure (i := 9) (v := ?_) rfl (by kernel_rfl) (by kernel_rfl) (by kernel_rfl) (fun _ _ _ h => h) (Or.inl ⟨by rfl, ?_⟩) ?_
            rotate_left
            · intro wq _
              go_simp
              try with_reducible rfl
            simp only [Act.put, List.setIfInBounds_toArray, List.set_cons_zero, List.set_cons_succ]
            refine wpAnyJ_pure (i := 10) (v := ?_) rfl (by kernel_rfl) (by kernel_rfl) (by kernel_rfl) (fun _ _ _ h => h) (Or.inl ⟨by rfl, ?_⟩) ?_
            rotate_left
            · intro wq _
              go_simp
              try with_reducible rfl
            simp only [Act.put, List.setIfInBounds_toArray, List.set_cons_zero, List.set_cons_succ]
            refine wpAnyJ_one (i := 11) rfl (by kernel_rfl) (fun K hK => ?_)
            go_simp
            refine hK.out _ _ (fun h => nomatch h) ?_
            clear hK K
            refine wpAnyJ_done (by kernel_rfl) ?_ _
            have HKr := Lib.hid (HKa.out.set 12 (.slice A2 (((t8 :: acc)) ++ [(nameJ (⟨t0 :: l0, pos, 0⟩ : St)).1]).length c2))
            clear HKa HKn HOn e12 ez
            go_wp2_with fail
            go_roundw
            case rel => exact ⟨A2, c2, acc ++ [(nameJ ⟨t0 :: l0, pos, 0⟩).1], (nameJ ⟨t0 :: l0, pos, 0⟩).2, by simp; omega, by simpa using HKr.out, by simpa using HOr.out.turn (fun i hi hlt => heap_setCell_other _ _ _ _ (fun e => by have := HOr.out.blk_lt hi; have := hpl0; subst e; omega)), by
              rw [HMo.out, show 19 - acc.length = (18 - acc.length) + 1 by omega, HNx.out, List.length_append, List.length_singleton, show 19 - (acc.length + 1) = 18 - acc.length by omega]
              simp⟩
            case measure =>
              have h12 := HKr.out.box.c 12 (.slice A2 ((t8 :: acc) ++ [(nameJ ⟨t0 :: l0, pos, 0⟩).1]).length c2) (by simp [hcz])
              rw [HCap.out]
              unfold capLeft
              simp only [List.length_append, List.length_cons, List.length_nil] at h12 ⊢
              first | rw [h12] | (simp only [Nat.zero_add] at h12 ⊢; rw [h12])
              simp only
              omega
        · have HNw : Hid (¬ ((⟨t0 :: l0, pos, err⟩ : St).err = 0 ∧ isWord (⟨t0 :: l0, pos, err⟩ : St).toks = true)) := Lib.hid (fun h => hwd ⟨h.1, by rw [← isWord_kind]; exact h.2⟩)
          have HEnd : Hid (filesG opsJ r = ((n2, n5, t8 :: acc), (wantJ [kSemi] ⟨t0 :: l0, pos, err⟩).2)) := Lib.hid (by rw [HF2.out, HMo.out, more_stop _ _ HNw.out, List.append_nil])
          by_cases he : err = 0
          · have hk0 : (t0.sh.kind == 0) = false := by cases h : (t0.sh.kind == 0) with | true => exact absurd ⟨he, h⟩ hwd | false => rfl
            subst he
            clear hwd
            go_wp2_with fail
            refine (wantOne_any b g _ kSemi _ _ rfl HRD.out).mono ?_
            rintro e w9 ⟨rfl, hr9, ht9⟩
            have HK9 := Lib.hid (HK10.out.call hr9 ht9)
            have HO9 := Lib.hid (HO.out.turn (w' := w9) (fun i hi hlt => ht9.block i hlt (fun e => by have := HO.out.blk_lt hi; have := hbl0; subst e; omega)))
            clear hr9 ht9
            go_wp2_with fail
            go_end0
            refine ⟨rfl, A, c, ?_⟩
            rw [HEnd.out]
            refine ⟨HO9.out, ?_⟩
            rw [← HCS.out]
            exact HK9.out
          · have he2 : (err == 0) = false := by simpa using he
            clear hwd he
            go_wp2_with fail
            refine (wantOne_any b g _ kSemi _ _ rfl HRD.out).mono ?_
            rintro e w9 ⟨rfl, hr9, ht9⟩
            have HK9 := Lib.hid (HK10.out.call hr9 ht9)
            have HO9 := Lib.hid (HO.out.turn (w' := w9) (fun i hi hlt => ht9.block i hlt (fun e => by have := HO.out.blk_lt hi; have := hbl0; subst e; omega)))
            clear hr9 ht9
            go_wp2_with fail
            go_end0
            refine ⟨rfl, A, c, ?_⟩
            rw [HEnd.out]
            refine ⟨HO9.out, ?_⟩
            rw [← HCS.out]
            exact HK9.out
end Go.Proofs.YtnaejabgkfhlbaaDoor
