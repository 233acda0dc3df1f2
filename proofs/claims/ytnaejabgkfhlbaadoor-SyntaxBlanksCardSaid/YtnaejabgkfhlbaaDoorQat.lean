/- Contracts and plain laws, joined: SyK, SyL, SyM. -/
import Derived.Test.YtnaejabgkfhlbaaDoorQar
import Derived.Test.YtnaejabgkfhlbaaDoorQaf
import Derived.Test.YtnaejabgkfhlbaaDoorQai
import Derived.Deep.DeepCutAuto
/- Contract of the reader's part about files. -/
set_option linter.unusedSimpArgs false
set_option linter.unusedVariables false
namespace Go.Proofs.YtnaejabgkfhlbaaDoor
open Go.RowKit

abbrev Two (b p : Nat) (i : Nat) : Prop := i = b ∨ i = p
theorem slStr : SlTy Tryd.prog 22 9 1 16 := by
  obtain ⟨i, hi, h0, h1, h2⟩ := info_parts (show (Tryd.prog.info? 9).map (fun i => (i.zero, i.size, i.bytes)) = some (some (.string ByteArray.empty), 1, 16) by kernel_rfl)
  exact ⟨Tryd.underlying22, ⟨i, _, hi, h0, h1, h2, rfl⟩, by decide, by decide⟩
theorem strELay : Lay 1 strE := ⟨fun _ => rfl, fun x u hu => by simp only [strE, List.mem_singleton] at hu; subst hu; rfl⟩
/-- A profile's box. -/
def PBox (p : Nat) (cs : Array Value) (w : World) : Prop := w.heap[p]? = some (.cells cs 24 (0, 0))
section
variable {p : Nat} {cs : Array Value} {w w' : World}
theorem PBox.lt (h : PBox p cs w) : p < w.heap.size := box_lt h
theorem PBox.c (h : PBox p cs w) (j : Nat) (v : Value) (hj : cs[j]? = some v) : w.cell? ⟨p, j, none⟩ = some v := box_cell h j v hj
theorem PBox.f (h : PBox p cs w) (j : Nat) : w.frozen? ⟨p, j, none⟩ = false := box_free h j
theorem PBox.turn {F : Nat → Prop} (h : PBox p cs w) (ht : Turn F w w') (hp : ¬ F p) : PBox p cs w' := (ht.block p h.lt hp).trans h
theorem PBox.now (h : PBox p cs w) (hb : Below w.heap.size w w') : PBox p cs w' := (hb.block p h.lt).trans h
theorem PBox.set (h : PBox p cs w) (j : Nat) (v : Value) : PBox p (cs.setIfInBounds j v) (w.setCell ⟨p, j, none⟩ v) := by
  unfold PBox at *
  simp [World.setCell, Array.getElem?_modify, h]
end
/-- What is known of the reader's world: the reader, the profile's box, and what turned since w0. -/
structure KW (b g p : Nat) (w0 : World) (r : St) (cs : Array Value) (w : World) : Prop where
  rd : RdrAt b g r w
  box : PBox p cs w
  ne : p ≠ b ∧ p ≠ g
  turn : Turn (Two b p) w0 w
section
variable {b g p : Nat} {w0 w w' : World} {r r' : St} {cs : Array Value}
theorem KW.call (h : KW b g p w0 r cs w) (hr : RdrAt b g r' w') (ht : Turn (One b) w w') : KW b g p w0 r' cs w' :=
  ⟨hr, h.box.turn ht h.ne.1, h.ne, h.turn.trans ht fun i hi => .inl (.inl hi)⟩
theorem KW.now (h : KW b g p w0 r cs w) (hb : Below w.heap.size w w') : KW b g p w0 r cs w' :=
  ⟨h.rd.now hb, h.box.now hb, h.ne, h.turn.trans (Turn.below (F := fun _ => False) hb) fun _ hf => hf.elim⟩
theorem KW.alloc (h : KW b g p w0 r cs w) (o : Obj) : KW b g p w0 r cs (w.alloc o) := h.now ((Below.refl _ _).alloc (Nat.le_refl _) _)
theorem KW.drew (h : KW b g p w0 r cs w) : KW b g p w0 r cs w.drew := h.now (Below.refl _ _).drew
theorem KW.set (h : KW b g p w0 r cs w) (j : Nat) (v : Value) : KW b g p w0 r (cs.setIfInBounds j v) (w.setCell ⟨p, j, none⟩ v) :=
  ⟨h.rd.set h.ne.1 h.ne.2, h.box.set j v, h.ne, h.turn.set p j v (.inl (.inr rfl))⟩
theorem KW.grown {row : Option Nat} (h : KW b g p w0 r cs w) (hg : w.grownBy w' row) (hb : ∀ k, row = some k → k ≠ b ∧ k ≠ g ∧ k ≠ p ∧ w0.heap.size ≤ k) : KW b g p w0 r cs w' := by
  have ht : Turn (fun i => row = some i) w w' := Turn.grown hg fun k hk => hk
  exact ⟨h.rd.turn ht (fun e => (hb _ e).1 rfl) (fun e => (hb _ e).2.1 rfl), h.box.turn ht (fun e => (hb _ e).2.2.1 rfl), h.ne, h.turn.trans ht fun i hi => .inr (hb i hi).2.2.2⟩
end
-- kw1 CONTRACT | k | k0 : a call of the reader's method; HKk
-- apReg TMP1 | TMP2 | A | c | ts | k0 | r : the region that appends a name to the types; behind it HKr (the reader's world wr), HOr (the types)
/-- What 'files' leaves. -/
def FilesOut (b g p : Nat) (cs : Array Value) (f : Int × Int × List (List UInt8)) (r' : St) (w : World) (e : Ending) (w' : World) : Prop :=
  e = .returned (.tuple #[]) ∧ ∃ A c, OwnL w' w.heap.size 9 1 strE A c f.2.2 ∧ KW b g p w r' (((cs.setIfInBounds 10 (.int .i64 f.1)).setIfInBounds 11 (.int .i64 f.2.1)).setIfInBounds 12 (.slice A f.2.2.length c)) w'
theorem set_same (cs : Array Value) (j : Nat) (v : Value) (h : cs[j]? = some v) : cs.setIfInBounds j v = cs := by
  apply Array.ext
  · simp
  · intro i h1 h2
    rw [Array.getElem_setIfInBounds]
    split
    · rename_i e
      subst e
      rw [Array.getElem?_eq_getElem h2] at h
      injection h with h
      exact h.symm
    · rfl
theorem files_none (r : St) (h : (skipJ [kFiles] r).1 < 0) : filesG opsJ r = ((0, 0, []), (skipJ [kFiles] r).2) := by
  show (if (skipJ [kFiles] r).1 < 0 then opsJ.ret (0, 0, []) else _) (skipJ [kFiles] r).2 = _
  rw [if_pos h]
  rfl
def filesTail (f x : Int) (t : List UInt8) : Jd (Int × Int × List (List UInt8)) := opsJ.bnd (opsJ.more 19) fun ts => opsJ.bnd (opsJ.want [kSemi]) fun _ => opsJ.ret (f, x, t :: ts)
theorem files_some (r : St) (h : ¬ (skipJ [kFiles] r).1 < 0) : filesG opsJ r =
    filesTail (numJ 1 (skipJ [kFiles] r).2).1 (numJ 0 (wantJ [kBytes] (numJ 1 (skipJ [kFiles] r).2).2).2).1 (nameJ (wantJ [kTypes] (numJ 0 (wantJ [kBytes] (numJ 1 (skipJ [kFiles] r).2).2).2).2).2).1
      (nameJ (wantJ [kTypes] (numJ 0 (wantJ [kBytes] (numJ 1 (skipJ [kFiles] r).2).2).2).2).2).2 := by
  show (if (skipJ [kFiles] r).1 < 0 then opsJ.ret (0, 0, []) else _) (skipJ [kFiles] r).2 = _
  rw [if_neg h]
  rfl
theorem more_stop (k : Nat) (r : St) (h : ¬ (r.err = 0 ∧ isWord r.toks = true)) : moreJ k r = ([], r) := by
  cases k <;> · unfold moreJ; rw [if_neg h]
theorem more_full (r : St) (h : r.err = 0 ∧ isWord r.toks = true) : moreJ 0 r = ([], failJ 6 r) := by unfold moreJ; rw [if_pos h]
theorem more_next (k : Nat) (r : St) (h : r.err = 0 ∧ isWord r.toks = true) : moreJ (k + 1) r = ((nameJ r).1 :: (moreJ k (nameJ r).2).1, (moreJ k (nameJ r).2).2) := by
  conv => lhs; unfold moreJ
  rw [if_pos h]
theorem want_bad (ws : List (List UInt8)) (r : St) (h : r.err ≠ 0) : (wantJ ws r).2 = r := by
  unfold wantJ skipJ failJ
  simp [h]
theorem isWord_kind (t : Tok) (l : List Tok) : isWord (t :: l) = (t.sh.kind == 0) := by
  obtain ⟨sh, p⟩ := t
  cases sh <;> rfl
theorem files_tail (f x : Int) (t : List UInt8) (r : St) : filesTail f x t r = ((f, x, t :: (moreJ 19 r).1), (wantJ [kSemi] (moreJ 19 r).2).2) := rfl
def capLeft (p : Nat) (w : World) : Nat := match w.cell? ⟨p, 12, none⟩ with
  | some (.slice _ n _) => 21 - n
  | _ => 0
set_option maxRecDepth 100000 in
set_option maxHeartbeats 4000000 in
theorem files_any (b g p : Nat) (r : St) (cs : Array Value) (w : World) (h : RdrAt b g r w) (hp : PBox p cs w) (hne : p ≠ b ∧ p ≠ g) (h10 : cs[10]? = some (.int .i64 0)) (h11 : cs[11]? = some (.int .i64 0)) (h12 : cs[12]? = some (.slice none 0 0)) :
    Calls Tryd.prog 33 #[.pointer (some ⟨b, 0, none⟩), .pointer (some ⟨p, 0, none⟩)] w (FilesOut b g p cs (filesG opsJ r).1 (filesG opsJ r).2 w) := by
  have hbl0 := h.lt
  have hgl0 := h.glt
  have hpl0 := hp.lt
  have HK0 : Hid (KW b g p w r cs w) := Lib.hid ⟨h, hp, hne, Turn.refl _ _⟩
  have HNo := Lib.hid (files_none r)
  have HYes := Lib.hid (files_some r)
  have hsz : 12 < cs.size := (Array.getElem?_eq_some_iff.1 h12).1
  have H10 := Lib.hid h10
  have H11 := Lib.hid h11
  have H12 := Lib.hid h12
  clear h hp h10 h11 h12
  go_enter Tryd.func33, Tryd.ntmps33
  go_wp2_with fail
  refine (skipOne_any b g r kFiles w _ rfl HK0.out.rd).mono ?_
  rintro e w1 ⟨rfl, hr1, ht1⟩
  have HK1 := Lib.hid (HK0.out.call hr1 ht1)
  clear hr1 ht1 HK0
  generalize skipJ [kFiles] r = q1 at *
  obtain ⟨n1, r1⟩ := q1
  simp only at HK1 HNo HYes ⊢
  by_cases hn : n1 < 0
  · have HF := Lib.hid (HNo.out hn)
    clear HYes HNo
    go_wp2_with fail
    go_end0
    refine ⟨rfl, none, 0, ?_⟩
    rw [HF.out]
    refine ⟨OwnL.nil_, ?_⟩
    rw [set_same cs 10 _ H10.out, set_same cs 11 _ H11.out]
    show KW b g p w r1 (cs.setIfInBounds 12 (.slice none 0 0)) w1
    rw [set_same cs 12 _ H12.out]
    exact HK1.out
  · have HF := Lib.hid (HYes.out (by omega))
    clear HYes HNo
    go_wp2_with fail
    refine (number_any b g r1 1 _ HK1.out.rd).mono ?_
    rintro e w2 ⟨rfl, hr2, ht2⟩
    have HK2 := Lib.hid (HK1.out.call hr2 ht2)
    clear hr2 ht2 HK1
    generalize numJ 1 r1 = q2 at *
    obtain ⟨n2, r2⟩ := q2
    simp only at HK2 HF ⊢
    have c10 := HK2.out.box.c 10 _ H10.out
    have f10 := HK2.out.box.f 10
    have HK3 := Lib.hid (HK2.out.set 10 (.int .i64 n2))
    clear HK2
    go_wp2_with fail
    refine (wantOne_any b g r2 kBytes _ _ (by simp) HK3.out.rd).mono ?_
    rintro e w4 ⟨rfl, hr4, ht4⟩
    have HK4 := Lib.hid (HK3.out.call hr4 ht4)
    clear hr4 ht4 HK3
    generalize wantJ [kBytes] r2 = q4 at *
    obtain ⟨n4, r4⟩ := q4
    simp only at HK4 HF ⊢
    go_wp2_with fail
    refine (number_any b g r4 0 _ HK4.out.rd).mono ?_
    rintro e w5 ⟨rfl, hr5, ht5⟩
    have HK5 := Lib.hid (HK4.out.call hr5 ht5)
    clear hr5 ht5 HK4
    generalize numJ 0 r4 = q5 at *
    obtain ⟨n5, r5⟩ := q5
    simp only at HK5 HF ⊢
    have c11 := HK5.out.box.c 11 (.int .i64 0) (by simpa using H11.out)
    have f11 := HK5.out.box.f 11
    have HK6 := Lib.hid (HK5.out.set 11 (.int .i64 n5))
    clear HK5 c10 f10
    go_wp2_with fail
    refine (wantOne_any b g r5 kTypes _ _ (by simp) HK6.out.rd).mono ?_
    rintro e w7 ⟨rfl, hr7, ht7⟩
    have HK7 := Lib.hid (HK6.out.call hr7 ht7)
    clear hr7 ht7 HK6
    generalize wantJ [kTypes] r5 = q7 at *
    obtain ⟨n7, r7⟩ := q7
    simp only at HK7 HF ⊢
    clear c11 f11
    have c12 := HK7.out.box.c 12 (.slice none 0 0) (by simpa using H12.out)
    have f12 := HK7.out.box.f 12
    have hplt := HK7.out.box.lt
    have HO : Hid (OwnL w7 w.heap.size 9 1 strE none 0 ([] : List (List UInt8))) := Lib.hid OwnL.nil_
    go_wp2_with fail
    refine wp_region_J (S := fun w' => w'.cell? ⟨p, 12, none⟩ = some (.slice none (([] : List (List UInt8))).length 0)) (fun i => i == 11) (by kernel_rfl) (c12) (fun hHeld => ?_)
    refine wpAnyJ_take (i := 0) (v := ?_) rfl (by kernel_rfl) (by kernel_rfl) (by kernel_rfl) (by kernel_rfl) (fun _ _ _ h => h) (Or.inl ⟨by rfl, ?_⟩) hHeld ?_
    rotate_left
    · intro wq hSq
      skip
      go_simp
      try with_reducible rfl
    simp only [Act.put, List.setIfInBounds_toArray, List.set_cons_zero, List.set_cons_succ]
    refine wpAnyJ_take (i := 1) (v := ?_) rfl (by kernel_rfl) (by kernel_rfl) (by kernel_rfl) (by kernel_rfl) (fun _ _ _ h => h) (Or.inl ⟨by rfl, ?_⟩) hHeld ?_
    rotate_left
    · intro wq hSq
      skip
      go_simp
      try with_reducible rfl
    simp only [Act.put, List.setIfInBounds_toArray, List.set_cons_zero, List.set_cons_succ]
    refine wpAnyJ_take (i := 2) (v := ?_) rfl (by kernel_rfl) (by kernel_rfl) (by kernel_rfl) (by kernel_rfl) (fun _ _ _ h => h) (Or.inl ⟨by rfl, ?_⟩) hHeld ?_
    rotate_left
    · intro wq hSq
      skip
      go_simp
      try with_reducible rfl
    simp only [Act.put, List.setIfInBounds_toArray, List.set_cons_zero, List.set_cons_succ]
    refine wpAnyJ_take (i := 3) (v := ?_) rfl (by kernel_rfl) (by kernel_rfl) (by kernel_rfl) (by kernel_rfl) (fun _ _ _ h => h) (Or.inl ⟨by rfl, ?_⟩) hHeld ?_
    rotate_left
    · intro wq hSq
      skip
      go_simp
      try with_reducible rfl
    simp only [Act.put, List.setIfInBounds_toArray, List.set_cons_zero, List.set_cons_succ]
    refine wpAnyJ_take (i := 4) (v := ?_) rfl (by kernel_rfl) (by kernel_rfl) (by kernel_rfl) (by kernel_rfl) (fun _ _ _ h => h) (Or.inl ⟨by rfl, ?_⟩) hHeld ?_
    rotate_left
    · intro wq hSq
      have hcq : wq.cell? ⟨p, 12, none⟩ = some (.slice none (([] : List (List UInt8))).length 0) := hSq
      go_simp
      try with_reducible rfl
    simp only [Act.put, List.setIfInBounds_toArray, List.set_cons_zero, List.set_cons_succ]
    refine wpAnyJ_take (i := 5) (v := ?_) rfl (by kernel_rfl) (by kernel_rfl) (by kernel_rfl) (by kernel_rfl) (fun _ _ _ h => h) (Or.inl ⟨by rfl, ?_⟩) hHeld ?_
    rotate_left
    · intro wq hSq
      skip
      go_simp
      try with_reducible rfl
    simp only [Act.put, List.setIfInBounds_toArray, List.set_cons_zero, List.set_cons_succ]
    refine wpAnyJ_one (i := 6) rfl (by kernel_rfl) (fun K hK => ?_)
    go_simp
    refine (name_any b g r7 _ HK7.out.drew.rd).mono ?_
    rintro e wn ⟨rfl, hrn, htn⟩
    go_wp2_with fail
    refine hK.out _ _ (fun _ h => (World.cell?_of_block (htn.block p hplt (fun e => HK7.out.ne.1 e))).trans h) ?_
    clear hK K
    have HKn := Lib.hid (HK7.out.drew.call hrn htn)
    have HOn := Lib.hid (HO.out.turn (w' := wn) (fun i hi hlt => htn.block i hlt (fun e => by have := HO.out.blk_lt hi; have := hbl0; subst e; omega)))
    clear hrn htn
    refine wpAnyJ_one (i := 7) rfl (by kernel_rfl) (fun K hK => ?_)
    go_simp
    refine hK.out _ _ (fun _ h => (cell_old wn _ p 12 HKn.out.box.lt).trans h) ?_
    clear hK K
    refine wpAnyJ_one (i := 8) rfl (by kernel_rfl) (fun K hK => ?_)
    refine step_append_l rfl (.tmp 28) (.tmp 31) rfl slStr strELay w.heap.size (([] : List (List UInt8))) [(nameJ r7).1] rfl rfl (HOn.out.alloc _) rfl rfl ⟨_, RdL.one wn (nameJ r7).1 _ 9 rfl _ rfl⟩ (by first | (simp; done) | (simp; omega)) (by have := HKn.out.turn.size; simp; omega) ?_
    intro A2 c2 w5 hown hg hbl hat
    have HKa := Lib.hid ((HKn.out.alloc _).grown hg (fun k hk => by have := HOn.out.blk k hk; have h1 := hbl0; have h2 := hgl0; have h3 := hpl0; refine ⟨?_, ?_, ?_, ?_⟩ <;> omega))
    have HOr := Lib.hid hown
    clear hown hg hbl hat
    have e12 : w5.cell? ⟨p, 12, none⟩ = some (.slice none (([] : List (List UInt8))).length 0) := HKa.out.box.c 12 _ (by first | (simp; done) | (simpa using H12.out) | (simp [hcz]; done) | (simp; omega))
    have ez := HKa.out.box.f 12
    refine hK.out _ _ (fun _ _ => e12) ?_
    clear hK K
    refine wpAnyJ_pure (i := 9) (v := ?_) rfl (by kernel_rfl) (by kernel_rfl) (by kernel_rfl) (fun _ _ _ h => h) (Or.inl ⟨by rfl, ?_⟩) ?_
    rotate_left
    · intro wq _
      go_simp
      try with_reducible rfl
    simp only [Act.put, List.setIfInBounds_toArray, List.set_cons_zero, List.set_cons_succ]
    refine wpAnyJ_pure (i := 10) (v := ?_) rfl (by kernel_rfl) (by kernel_rfl) (by kernel_rfl) (fun _ _ _ h => h) (Or.inl ⟨by rfl, ?_⟩) ?_
    rotate_left
    · intro wq _
      go_simp
      try with_reducible rfl
    simp only [Act.put, List.setIfInBounds_toArray, List.set_cons_zero, List.set_cons_succ]
    refine wpAnyJ_one (i := 11) rfl (by kernel_rfl) (fun K hK => ?_)
    go_simp
    refine hK.out _ _ (fun h => nomatch h) ?_
    clear hK K
    refine wpAnyJ_done (by kernel_rfl) ?_ _
    have HKr := Lib.hid (HKa.out.set 12 (.slice A2 ((([] : List (List UInt8))) ++ [(nameJ r7).1]).length c2))
    clear HKa HKn HOn e12 ez
    have HF2 := Lib.hid ((HF.out).trans (files_tail n2 n5 (nameJ r7).1 (nameJ r7).2))
    clear HF HO HK7 c12 f12 H10 H11
    generalize hnq : nameJ r7 = q8 at *
    clear hnq
    obtain ⟨t8, r8⟩ := q8
    simp only at HF2 HKr HOr ⊢
    obtain ⟨cs1, hcs1⟩ : ∃ x, x = (cs.setIfInBounds 10 (.int .i64 n2)).setIfInBounds 11 (.int .i64 n5) := ⟨_, rfl⟩
    have hcz : 12 < cs1.size := by rw [hcs1]; simpa using hsz
    have HCS := Lib.hid hcs1
    have HKs : Hid (KW b g p w r8 (cs1.setIfInBounds 12 (.slice A2 1 c2)) _) := Lib.hid (by rw [hcs1]; simpa using HKr.out)
    clear hcs1 HKr
    go_wp2_with fail
    go_loopw [40] (fun _ wr => ∃ (A : Option Addr) (c : Nat) (acc : List (List UInt8)) (rj : St), acc.length ≤ 19 ∧ KW b g p w rj (cs1.setIfInBounds 12 (.slice A (acc.length + 1) c)) wr ∧ OwnL wr w.heap.size 9 1 strE A c (t8 :: acc) ∧
      moreJ 19 r8 = (acc ++ (moreJ (19 - acc.length) rj).1, (moreJ (19 - acc.length) rj).2)) (fun _ wr => capLeft p wr)
    case atStart => exact ⟨A2, c2, [], r8, by decide, HKs.out, by simpa using HOr.out.turn (fun i hi hlt => heap_setCell_other _ _ _ _ (fun e => by have := HOr.out.blk_lt hi; have := hpl0; subst e; omega)), by simp⟩
    case round =>
      obtain ⟨A, c, acc, rj, hj, hkw, how, hmo⟩ := hrel
      have HK10 := Lib.hid hkw
      have HO := Lib.hid how
      have HMo := Lib.hid hmo
      have c12 : wr.cell? ⟨p, 12, none⟩ = some (.slice A (acc.length + 1) c) := hkw.box.c 12 _ (by simp [hcz])
      have HCap : Hid (capLeft p wr = 21 - (acc.length + 1)) := Lib.hid (by unfold capLeft; rw [c12])
      have f12 := hkw.box.f 12
      have hplt := hkw.box.lt
      have hfi := hkw.rd.fine
      have hrd := hkw.rd
      have HRD := Lib.hid hkw.rd
      clear hkw how hmo
      have HNe := Lib.hid hfi.ne
      obtain ⟨toks, pos, err⟩ := rj
      cases toks with
      | nil => exact absurd rfl HNe.out
      | cons t0 l0 =>
        obtain ⟨off, c9, q1, q2, q3, hbl, q4, q5⟩ := hrd.open_
        obtain ⟨u0, _, _, _⟩ := q5.head
        have k0 := box_cell q4 0 _ rfl
        have k2 := box_cell q4 2 _ rfl
        clear q4 q5 hfi hrd HNe
        by_cases hwd : err = 0 ∧ (t0.sh.kind == 0) = true
        · obtain ⟨rfl, hk0⟩ := hwd
          have HW : Hid ((⟨t0 :: l0, pos, 0⟩ : St).err = 0 ∧ isWord (⟨t0 :: l0, pos, 0⟩ : St).toks = true) := Lib.hid ⟨rfl, by rw [isWord_kind]; exact hk0⟩
          by_cases h19 : acc.length = 19
          · have HFull : Hid (filesG opsJ r = ((n2, n5, t8 :: acc), failJ 6 ⟨t0 :: l0, pos, 0⟩)) := Lib.hid (by
              rw [HF2.out, HMo.out, h19, Nat.sub_self, more_full _ HW.out, List.append_nil, want_bad]
              show (failJ 6 ⟨t0 :: l0, pos, 0⟩).err ≠ 0
              simp [failJ])
            have d20 : ((acc.length : Int) + 1 == 20) = true := by rw [h19]; rfl
            clear h19
            go_wp2_with fail
            refine (fail_any b g _ 6 _ HRD.out).mono ?_
            rintro e w9 ⟨rfl, hr9, ht9⟩
            have HK9 := Lib.hid (HK10.out.call hr9 ht9)
            have HO9 := Lib.hid (HO.out.turn (w' := w9) (fun i hi hlt => ht9.block i hlt (fun e => by have := HO.out.blk_lt hi; have := hbl0; subst e; omega)))
            clear hr9 ht9
            go_wp2_with fail
            go_end0
            refine ⟨rfl, A, c, ?_⟩
            rw [HFull.out]
            refine ⟨HO9.out, ?_⟩
            rw [← HCS.out]
            exact HK9.out
          · have d20 : ((acc.length : Int) + 1 == 20) = false := by simp; omega
            have HNx := Lib.hid (more_next (18 - acc.length) ⟨t0 :: l0, pos, 0⟩ HW.out)
            have hlt19 : acc.length < 19 := by omega
            clear h19
            go_wp2_with fail
            refine wp_region_J (S := fun w' => w'.cell? ⟨p, 12, none⟩ = some (.slice A ((t8 :: acc)).length c)) (fun i => i == 11) (by kernel_rfl) (c12) (fun hHeld => ?_)
            refine wpAnyJ_take (i := 0) (v := ?_) rfl (by kernel_rfl) (by kernel_rfl) (by kernel_rfl) (by kernel_rfl) (fun _ _ _ h => h) (Or.inl ⟨by rfl, ?_⟩) hHeld ?_
            rotate_left
            · intro wq hSq
              skip
              go_simp
              try with_reducible rfl
            simp only [Act.put, List.setIfInBounds_toArray, List.set_cons_zero, List.set_cons_succ]
            refine wpAnyJ_take (i := 1) (v := ?_) rfl (by kernel_rfl) (by kernel_rfl) (by kernel_rfl) (by kernel_rfl) (fun _ _ _ h => h) (Or.inl ⟨by rfl, ?_⟩) hHeld ?_
            rotate_left
            · intro wq hSq
              skip
              go_simp
              try with_reducible rfl
            simp only [Act.put, List.setIfInBounds_toArray, List.set_cons_zero, List.set_cons_succ]
            refine wpAnyJ_take (i := 2) (v := ?_) rfl (by kernel_rfl) (by kernel_rfl) (by kernel_rfl) (by kernel_rfl) (fun _ _ _ h => h) (Or.inl ⟨by rfl, ?_⟩) hHeld ?_
            rotate_left
            · intro wq hSq
              skip
              go_simp
              try with_reducible rfl
            simp only [Act.put, List.setIfInBounds_toArray, List.set_cons_zero, List.set_cons_succ]
            refine wpAnyJ_take (i := 3) (v := ?_) rfl (by kernel_rfl) (by kernel_rfl) (by kernel_rfl) (by kernel_rfl) (fun _ _ _ h => h) (Or.inl ⟨by rfl, ?_⟩) hHeld ?_
            rotate_left
            · intro wq hSq
              skip
              go_simp
              try with_reducible rfl
            simp only [Act.put, List.setIfInBounds_toArray, List.set_cons_zero, List.set_cons_succ]
            refine wpAnyJ_take (i := 4) (v := ?_) rfl (by kernel_rfl) (by kernel_rfl) (by kernel_rfl) (by kernel_rfl) (fun _ _ _ h => h) (Or.inl ⟨by rfl, ?_⟩) hHeld ?_
            rotate_left
            · intro wq hSq
              have hcq : wq.cell? ⟨p, 12, none⟩ = some (.slice A ((t8 :: acc)).length c) := hSq
              go_simp
              try with_reducible rfl
            simp only [Act.put, List.setIfInBounds_toArray, List.set_cons_zero, List.set_cons_succ]
            refine wpAnyJ_take (i := 5) (v := ?_) rfl (by kernel_rfl) (by kernel_rfl) (by kernel_rfl) (by kernel_rfl) (fun _ _ _ h => h) (Or.inl ⟨by rfl, ?_⟩) hHeld ?_
            rotate_left
            · intro wq hSq
              skip
              go_simp
              try with_reducible rfl
            simp only [Act.put, List.setIfInBounds_toArray, List.set_cons_zero, List.set_cons_succ]
            refine wpAnyJ_one (i := 6) rfl (by kernel_rfl) (fun K hK => ?_)
            go_simp
            refine (name_any b g (⟨t0 :: l0, pos, 0⟩ : St) _ HK10.out.drew.rd).mono ?_
            rintro e wn ⟨rfl, hrn, htn⟩
            go_wp2_with fail
            refine hK.out _ _ (fun _ h => (World.cell?_of_block (htn.block p hplt (fun e => HK10.out.ne.1 e))).trans h) ?_
            clear hK K
            have HKn := Lib.hid (HK10.out.drew.call hrn htn)
            have HOn := Lib.hid (HO.out.turn (w' := wn) (fun i hi hlt => htn.block i hlt (fun e => by have := HO.out.blk_lt hi; have := hbl0; subst e; omega)))
            clear hrn htn
            refine wpAnyJ_one (i := 7) rfl (by kernel_rfl) (fun K hK => ?_)
            go_simp
            refine hK.out _ _ (fun _ h => (cell_old wn _ p 12 HKn.out.box.lt).trans h) ?_
            clear hK K
            refine wpAnyJ_one (i := 8) rfl (by kernel_rfl) (fun K hK => ?_)
            refine step_append_l rfl (.tmp 62) (.tmp 65) rfl slStr strELay w.heap.size ((t8 :: acc)) [(nameJ (⟨t0 :: l0, pos, 0⟩ : St)).1] rfl rfl (HOn.out.alloc _) rfl rfl ⟨_, RdL.one wn (nameJ (⟨t0 :: l0, pos, 0⟩ : St)).1 _ 9 rfl _ rfl⟩ (by first | (simp; done) | (simp; omega)) (by have := HKn.out.turn.size; simp; omega) ?_
            intro A2 c2 w5 hown hg hbl hat
            have HKa := Lib.hid ((HKn.out.alloc _).grown hg (fun k hk => by have := HOn.out.blk k hk; have h1 := hbl0; have h2 := hgl0; have h3 := hpl0; refine ⟨?_, ?_, ?_, ?_⟩ <;> omega))
            have HOr := Lib.hid hown
            clear hown hg hbl hat
            have e12 : w5.cell? ⟨p, 12, none⟩ = some (.slice A ((t8 :: acc)).length c) := HKa.out.box.c 12 _ (by first | (simp; done) | (simpa using H12.out) | (simp [hcz]; done) | (simp; omega))
            have ez := HKa.out.box.f 12
            refine hK.out _ _ (fun _ _ => e12) ?_
            clear hK K
            refine wpAnyJ_pure (i := 9) (v := ?_) rfl (by kernel_rfl) (by kernel_rfl) (by kernel_rfl) (fun _ _ _ h => h) (Or.inl ⟨by rfl, ?_⟩) ?_
            rotate_left
            · intro wq _
              go_simp
              try with_reducible rfl
            simp only [Act.put, List.setIfInBounds_toArray, List.set_cons_zero, List.set_cons_succ]
            refine wpAnyJ_pure (i := 10) (v := ?_) rfl (by kernel_rfl) (by kernel_rfl) (by kernel_rfl) (fun _ _ _ h => h) (Or.inl ⟨by rfl, ?_⟩) ?_
            rotate_left
            · intro wq _
              go_simp
              try with_reducible rfl
            simp only [Act.put, List.setIfInBounds_toArray, List.set_cons_zero, List.set_cons_succ]
            refine wpAnyJ_one (i := 11) rfl (by kernel_rfl) (fun K hK => ?_)
            go_simp
            refine hK.out _ _ (fun h => nomatch h) ?_
            clear hK K
            refine wpAnyJ_done (by kernel_rfl) ?_ _
            have HKr := Lib.hid (HKa.out.set 12 (.slice A2 (((t8 :: acc)) ++ [(nameJ (⟨t0 :: l0, pos, 0⟩ : St)).1]).length c2))
            clear HKa HKn HOn e12 ez
            go_wp2_with fail
            go_roundw
            case rel => exact ⟨A2, c2, acc ++ [(nameJ ⟨t0 :: l0, pos, 0⟩).1], (nameJ ⟨t0 :: l0, pos, 0⟩).2, by simp; omega, by simpa using HKr.out, by simpa using HOr.out.turn (fun i hi hlt => heap_setCell_other _ _ _ _ (fun e => by have := HOr.out.blk_lt hi; have := hpl0; subst e; omega)), by
              rw [HMo.out, show 19 - acc.length = (18 - acc.length) + 1 by omega, HNx.out, List.length_append, List.length_singleton, show 19 - (acc.length + 1) = 18 - acc.length by omega]
              simp⟩
            case measure =>
              have h12 := HKr.out.box.c 12 (.slice A2 ((t8 :: acc) ++ [(nameJ ⟨t0 :: l0, pos, 0⟩).1]).length c2) (by simp [hcz])
              rw [HCap.out]
              unfold capLeft
              simp only [List.length_append, List.length_cons, List.length_nil] at h12 ⊢
              first | rw [h12] | (simp only [Nat.zero_add] at h12 ⊢; rw [h12])
              simp only
              omega
        · have HNw : Hid (¬ ((⟨t0 :: l0, pos, err⟩ : St).err = 0 ∧ isWord (⟨t0 :: l0, pos, err⟩ : St).toks = true)) := Lib.hid (fun h => hwd ⟨h.1, by rw [← isWord_kind]; exact h.2⟩)
          have HEnd : Hid (filesG opsJ r = ((n2, n5, t8 :: acc), (wantJ [kSemi] ⟨t0 :: l0, pos, err⟩).2)) := Lib.hid (by rw [HF2.out, HMo.out, more_stop _ _ HNw.out, List.append_nil])
          by_cases he : err = 0
          · have hk0 : (t0.sh.kind == 0) = false := by cases h : (t0.sh.kind == 0) with | true => exact absurd ⟨he, h⟩ hwd | false => rfl
            subst he
            clear hwd
            go_wp2_with fail
            refine (wantOne_any b g _ kSemi _ _ rfl HRD.out).mono ?_
            rintro e w9 ⟨rfl, hr9, ht9⟩
            have HK9 := Lib.hid (HK10.out.call hr9 ht9)
            have HO9 := Lib.hid (HO.out.turn (w' := w9) (fun i hi hlt => ht9.block i hlt (fun e => by have := HO.out.blk_lt hi; have := hbl0; subst e; omega)))
            clear hr9 ht9
            go_wp2_with fail
            go_end0
            refine ⟨rfl, A, c, ?_⟩
            rw [HEnd.out]
            refine ⟨HO9.out, ?_⟩
            rw [← HCS.out]
            exact HK9.out
          · have he2 : (err == 0) = false := by simpa using he
            clear hwd he
            go_wp2_with fail
            refine (wantOne_any b g _ kSemi _ _ rfl HRD.out).mono ?_
            rintro e w9 ⟨rfl, hr9, ht9⟩
            have HK9 := Lib.hid (HK10.out.call hr9 ht9)
            have HO9 := Lib.hid (HO.out.turn (w' := w9) (fun i hi hlt => ht9.block i hlt (fun e => by have := HO.out.blk_lt hi; have := hbl0; subst e; omega)))
            clear hr9 ht9
            go_wp2_with fail
            go_end0
            refine ⟨rfl, A, c, ?_⟩
            rw [HEnd.out]
            refine ⟨HO9.out, ?_⟩
            rw [← HCS.out]
            exact HK9.out
end Go.Proofs.YtnaejabgkfhlbaaDoor
/- Contracts of package syntax: the tables, and the reader's rest. -/
set_option linter.unusedSimpArgs false
set_option linter.unusedVariables false
namespace Go.Proofs.YtnaejabgkfhlbaaDoor
open Go.RowKit

/-- Strings in a block that was just made. -/
theorem tabS (w : World) (xs : List (List UInt8)) (cs : Array Value) (n : Nat) (hn : n = w.heap.size) (h : cs.toList = xs.map (fun l => Value.string (bs l))) : RdL 1 strE (w.alloc (.cells cs 9)) (w.alloc (.cells cs 9)).heap.size (some ⟨n, 0, none⟩) xs := by
  subst hn
  intro k x hx
  refine ⟨_, _, rfl, by simp, fun j v hj => ?_⟩
  have hj0 : j = 0 := by
    have := (List.getElem?_eq_some_iff.1 hj).1
    simp [strE] at this
    exact this
  subst hj0
  simp only [strE, List.getElem?_cons_zero, Option.some.injEq] at hj
  subst hj
  unfold World.cell?
  simp only [heap_alloc_new]
  have : cs.toList[k]? = some (.string (bs x)) := by rw [h, List.getElem?_map, hx]; rfl
  simpa using this
/-- A table's slice. -/
def TabOut (ws : List (List UInt8)) (w : World) (e : Ending) (w' : World) : Prop := e = .returned (.slice (some ⟨w.heap.size, 0, none⟩) ws.length ws.length) ∧ RdL 1 strE w' w'.heap.size (some ⟨w.heap.size, 0, none⟩) ws ∧ Below w.heap.size w w'
theorem noYes_any (w : World) : Calls Tryd.prog 27 #[] w (TabOut wNoYes w) := by
  go_enter Tryd.func27, Tryd.ntmps27
  go_wp2_with fail
  go_ret
  exact ⟨rfl, tabS w wNoYes _ _ rfl rfl, (Below.refl _ _).alloc (Nat.le_refl _) _⟩
theorem deletes_any (w : World) : Calls Tryd.prog 31 #[] w (TabOut wDeletes w) := by
  go_enter Tryd.func31, Tryd.ntmps31
  go_wp2_with fail
  go_ret
  exact ⟨rfl, tabS w wDeletes _ _ rfl rfl, (Below.refl _ _).alloc (Nat.le_refl _) _⟩
theorem threads_any (w : World) : Calls Tryd.prog 32 #[] w (TabOut wThreads w) := by
  go_enter Tryd.func32, Tryd.ntmps32
  go_wp2_with fail
  go_ret
  exact ⟨rfl, tabS w wThreads _ _ rfl rfl, (Below.refl _ _).alloc (Nat.le_refl _) _⟩
theorem joins_any (w : World) : Calls Tryd.prog 52 #[] w (TabOut wJoins w) := by
  go_enter Tryd.func52, Tryd.ntmps52
  go_wp2_with fail
  go_ret
  exact ⟨rfl, tabS w wJoins _ _ rfl rfl, (Below.refl _ _).alloc (Nat.le_refl _) _⟩
theorem receipts_any (w : World) : Calls Tryd.prog 53 #[] w (TabOut wReceipts w) := by
  go_enter Tryd.func53, Tryd.ntmps53
  go_wp2_with fail
  go_ret
  exact ⟨rfl, tabS w wReceipts _ _ rfl rfl, (Below.refl _ _).alloc (Nat.le_refl _) _⟩
theorem rYes_any (w : World) : Calls Tryd.prog 40 #[] w (TabOut wNoYes w) := by
  go_enter Tryd.func40, Tryd.ntmps40
  go_wp2_with fail
  go_ret
  exact ⟨rfl, tabS w wNoYes _ _ rfl rfl, (Below.refl _ _).alloc (Nat.le_refl _) _⟩
theorem rLevels_any (w : World) : Calls Tryd.prog 45 #[] w (TabOut wReceipts w) := by
  go_enter Tryd.func45, Tryd.ntmps45
  go_wp2_with fail
  go_ret
  exact ⟨rfl, tabS w wReceipts _ _ rfl rfl, (Below.refl _ _).alloc (Nat.le_refl _) _⟩
theorem PBox.any {p : Nat} {cs : Array Value} {w : World} (h : PBox p cs w) (j : Nat) (hj : j < cs.size) : ∃ v, w.cell? ⟨p, j, none⟩ = some v := ⟨_, h.c j _ (Array.getElem?_eq_getElem hj)⟩
theorem bndJ {α β : Type} (x : Jd α) (k : α → Jd β) (r : St) : opsJ.bnd x k r = k (x r).1 (x r).2 := rfl
theorem opsJ_want (ws : List (List UInt8)) : opsJ.want ws = wantJ ws := rfl
theorem opsJ_skip (ws : List (List UInt8)) : opsJ.skip ws = skipJ ws := rfl
theorem opsJ_num (n : Int) : opsJ.num n = numJ n := rfl
theorem opsJ_name : opsJ.name = nameJ := rfl
theorem opsJ_stop : opsJ.stop = stopJ := rfl
theorem retJ {α : Type} (a : α) (r : St) : opsJ.ret a r = (a, r) := rfl
-- kq CONTRACT | TERM | k | k0 : a call of the reader's method; nk, rk what it leaves, HKk, HE what is still to do
-- kst j | VALUE | k : a store into the profile's box
-- ktab CONTRACT | k | k0 : a table
theorem blk_ne {n b : Nat} (h : n ≠ b) : ∀ i, slBlk (some ⟨n, 0, none⟩ : Option Addr) = some i → i ≠ b := fun i hi => by
  have : n = i := by simpa [slBlk] using hi
  rw [← this]; exact h
theorem partTwo_any (b g : Nat) (r : St) (s x y : List UInt8) (w : World) (n : Nat) (hn : n = w.heap.size) (h : RdrAt b g r w) :
    Calls Tryd.prog 30 #[.pointer (some ⟨b, 0, none⟩), .string (bs s), .slice (some ⟨n, 0, none⟩) 2 2] (w.alloc (.cells #[.string (bs x), .string (bs y)] 9)) (RdrOut b g (.int .i64 (partG opsJ s [x, y] r).1) (partG opsJ s [x, y] r).2 w) := by
  subst hn
  exact (part_any b g r s [x, y] _ 2 _ (h.now ((Below.refl _ _).alloc (Nat.le_refl _) _)) (tabS w [x, y] _ _ rfl rfl) (blk_ne (Nat.ne_of_gt h.lt)) (by simp)).mono fun e w' ⟨h1, h2, h3⟩ => ⟨h1, h2, turn_one ((Turn.refl _ _).alloc _) h3⟩
/-- The profile's box behind the rest. -/
def restCs (cs : Array Value) (q : Rest) : Array Value := ((((((((cs.setIfInBounds 13 (.int .i64 q.join)).setIfInBounds 14 (.int .i64 q.history)).setIfInBounds 15 (.int .i64 q.remove)).setIfInBounds 16 (.int .i64 q.level)).setIfInBounds 17 (.bool q.batch)).setIfInBounds 18 (.int .i64 q.rate)).setIfInBounds 19 (.int .i64 q.down)).setIfInBounds 20 (.int .i64 q.window)).setIfInBounds 21 (.int .i64 q.keep)
theorem edit_no (r : St) (h : ¬ (wantJ wNoYes r).1 = 1) : editG opsJ r = ((0, 0), (wantJ wNoYes r).2) := by
  show (if (wantJ wNoYes r).1 = 1 then _ else opsJ.ret (0, 0)) (wantJ wNoYes r).2 = _
  rw [if_neg h]
  rfl
theorem edit_yes (r : St) (h : (wantJ wNoYes r).1 = 1) : editG opsJ r = (if (skipJ [kWithin] (wantJ wNoYes r).2).1 = 0 then ((2, (numJ 1 (skipJ [kWithin] (wantJ wNoYes r).2).2).1), (numJ 1 (skipJ [kWithin] (wantJ wNoYes r).2).2).2) else ((2, 0), (skipJ [kWithin] (wantJ wNoYes r).2).2)) := by
  show (if (wantJ wNoYes r).1 = 1 then opsJ.bnd (opsJ.skip [kWithin]) (fun k => if k = 0 then opsJ.bnd (opsJ.num 1) fun n => opsJ.ret (2, n) else opsJ.ret (2, 0)) else opsJ.ret (0, 0)) (wantJ wNoYes r).2 = _
  rw [if_pos h]
  show (if (skipJ [kWithin] (wantJ wNoYes r).2).1 = 0 then opsJ.bnd (opsJ.num 1) fun n => opsJ.ret (2, n) else opsJ.ret (2, 0)) (skipJ [kWithin] (wantJ wNoYes r).2).2 = _
  split <;> rfl
theorem keep_none (r : St) (h : ¬ (skipJ [kKeep] r).1 = 0) : keepG opsJ r = (0, (skipJ [kKeep] r).2) := by
  show (if (skipJ [kKeep] r).1 = 0 then _ else opsJ.ret 0) (skipJ [kKeep] r).2 = _
  rw [if_neg h]
  rfl
theorem keep_some (r : St) (h : (skipJ [kKeep] r).1 = 0) : keepG opsJ r = ((numJ 1 (skipJ [kKeep] r).2).1, (wantJ [kSemi] (numJ 1 (skipJ [kKeep] r).2).2).2) := by
  show (if (skipJ [kKeep] r).1 = 0 then _ else opsJ.ret 0) (skipJ [kKeep] r).2 = _
  rw [if_pos h]
  rfl
set_option maxRecDepth 100000 in
set_option maxHeartbeats 4000000 in
theorem rest_any (b g p : Nat) (r : St) (cs : Array Value) (w : World) (h : RdrAt b g r w) (hp : PBox p cs w) (hne : p ≠ b ∧ p ≠ g) (hsz : cs.size = 22) (h21 : cs[21]? = some (.int .i64 0)) :
    Calls Tryd.prog 34 #[.pointer (some ⟨b, 0, none⟩), .pointer (some ⟨p, 0, none⟩)] w fun e w' => e = .returned (.tuple #[]) ∧ KW b g p w (restG opsJ r).2 (restCs cs (restG opsJ r).1) w' := by
  have HK0 : Hid (KW b g p w r cs w) := Lib.hid ⟨h, hp, hne, Turn.refl _ _⟩
  have H21 := Lib.hid h21
  have hE : restG opsJ r = restG opsJ r := rfl
  conv at hE => rhs; unfold restG; simp only [opsJ_want, opsJ_skip, opsJ_num]
  have HE := Lib.hid hE
  clear h hp h21 hE
  go_enter Tryd.func34, Tryd.ntmps34
  go_wp2_with fail
  refine (joins_any _).mono ?_
  rintro e w1 ⟨rfl, hs1, hb1⟩
  have HK1 := Lib.hid (HK0.out.now hb1)
  have HS1 := Lib.hid hs1
  have hA1 := Nat.ne_of_gt HK0.out.rd.lt
  clear hs1 hb1 HK0
  go_wp2_with fail
  refine (part_any b g r kJoin wJoins _ _ _ HK1.out.rd HS1.out (blk_ne hA1) (by decide)).mono ?_
  rintro e w2 ⟨rfl, hr2, ht2⟩
  have HK2 := Lib.hid (HK1.out.call hr2 ht2)
  clear hr2 ht2 HK1
  have hE := HE.out
  clear HE
  rw [bndJ] at hE
  generalize partG opsJ kJoin wJoins r = q at *
  obtain ⟨n2, r2⟩ := q
  dsimp only at hE HK2 ⊢
  have HE := Lib.hid hE
  clear hE
  obtain ⟨v13, c13⟩ := HK2.out.box.any 13 (by first | (simp only [Array.size_setIfInBounds]; omega) | omega | (simp; done))
  have f13 := HK2.out.box.f 13
  have HK2 := Lib.hid (HK2.out.set 13 (.int .i64 n2))
  clear HS1
  go_wp2_with fail
  clear c13 f13
  refine (partTwo_any b g r2 kHistory kSince kAll _ _ (by simp) HK2.out.rd).mono ?_
  rintro e w3 ⟨rfl, hr3, ht3⟩
  have HK3 := Lib.hid (HK2.out.call hr3 ht3)
  clear hr3 ht3 HK2
  have hE := HE.out
  clear HE
  rw [bndJ] at hE
  generalize partG opsJ kHistory wHistory r2 = q at *
  obtain ⟨n3, r3⟩ := q
  dsimp only at hE HK3 ⊢
  have HE := Lib.hid hE
  clear hE
  obtain ⟨v14, c14⟩ := HK3.out.box.any 14 (by first | (simp only [Array.size_setIfInBounds]; omega) | omega | (simp; done))
  have f14 := HK3.out.box.f 14
  have HK3 := Lib.hid (HK3.out.set 14 (.int .i64 n3))
  go_wp2_with fail
  clear c14 f14
  refine (partTwo_any b g r3 kRemove kNow kKey _ _ (by simp) HK3.out.rd).mono ?_
  rintro e w4 ⟨rfl, hr4, ht4⟩
  have HK4 := Lib.hid (HK3.out.call hr4 ht4)
  clear hr4 ht4 HK3
  have hE := HE.out
  clear HE
  rw [bndJ] at hE
  generalize partG opsJ kRemove wRemove r3 = q at *
  obtain ⟨n4, r4⟩ := q
  dsimp only at hE HK4 ⊢
  have HE := Lib.hid hE
  clear hE
  obtain ⟨v15, c15⟩ := HK4.out.box.any 15 (by first | (simp only [Array.size_setIfInBounds]; omega) | omega | (simp; done))
  have f15 := HK4.out.box.f 15
  have HK4 := Lib.hid (HK4.out.set 15 (.int .i64 n4))
  go_wp2_with fail
  clear c15 f15
  refine (wantOne_any b g r4 kReceipts _ _ (by simp) HK4.out.rd).mono ?_
  rintro e w5 ⟨rfl, hr5, ht5⟩
  have HK5 := Lib.hid (HK4.out.call hr5 ht5)
  clear hr5 ht5 HK4
  have hE := HE.out
  clear HE
  rw [bndJ] at hE
  generalize wantJ [kReceipts] r4 = q at *
  obtain ⟨n5, r5⟩ := q
  dsimp only at hE HK5 ⊢
  have HE := Lib.hid hE
  clear hE
  go_wp2_with fail
  refine (receipts_any _).mono ?_
  rintro e w6 ⟨rfl, hs6, hb6⟩
  have HK6 := Lib.hid (HK5.out.now hb6)
  have HS6 := Lib.hid hs6
  have hA6 := Nat.ne_of_gt HK5.out.rd.lt
  clear hs6 hb6 HK5
  go_wp2_with fail
  refine (want_any b g r5 wReceipts _ _ _ HK6.out.rd HS6.out (by decide)).mono ?_
  rintro e w7 ⟨rfl, hr7, ht7⟩
  have HK7 := Lib.hid (HK6.out.call hr7 ht7)
  clear hr7 ht7 HK6
  have hE := HE.out
  clear HE
  rw [bndJ] at hE
  generalize wantJ wReceipts r5 = q at *
  obtain ⟨n7, r7⟩ := q
  dsimp only at hE HK7 ⊢
  have HE := Lib.hid hE
  clear hE
  obtain ⟨v16, c16⟩ := HK7.out.box.any 16 (by first | (simp only [Array.size_setIfInBounds]; omega) | omega | (simp; done))
  have f16 := HK7.out.box.f 16
  have HK7 := Lib.hid (HK7.out.set 16 (.int .i64 n7))
  clear HS6
  go_wp2_with fail
  clear c16 f16
  refine (skipOne_any b g r7 kBatch _ _ (by simp) HK7.out.rd).mono ?_
  rintro e w8 ⟨rfl, hr8, ht8⟩
  have HK8 := Lib.hid (HK7.out.call hr8 ht8)
  clear hr8 ht8 HK7
  have hE := HE.out
  clear HE
  rw [bndJ] at hE
  generalize skipJ [kBatch] r7 = q at *
  obtain ⟨n8, r8⟩ := q
  dsimp only at hE HK8 ⊢
  have HE := Lib.hid hE
  clear hE
  obtain ⟨v17, c17⟩ := HK8.out.box.any 17 (by first | (simp only [Array.size_setIfInBounds]; omega) | omega | (simp; done))
  have f17 := HK8.out.box.f 17
  have HK8 := Lib.hid (HK8.out.set 17 (.bool (decide (n8 = 0))))
  have hbe : (n8 == 0) = decide (n8 = 0) := rfl
  go_wp2_with fail
  clear c17 f17
  clear hbe
  refine (wantOne_any b g r8 kSemi _ _ (by simp) HK8.out.rd).mono ?_
  rintro e w9 ⟨rfl, hr9, ht9⟩
  have HK9 := Lib.hid (HK8.out.call hr9 ht9)
  clear hr9 ht9 HK8
  have hE := HE.out
  clear HE
  rw [bndJ] at hE
  generalize wantJ [kSemi] r8 = q at *
  obtain ⟨n9, r9⟩ := q
  dsimp only at hE HK9 ⊢
  have HE := Lib.hid hE
  clear hE
  go_wp2_with fail
  refine (wantOne_any b g r9 kRate _ _ rfl HK9.out.rd).mono ?_
  rintro e w10 ⟨rfl, hr10, ht10⟩
  have HK10 := Lib.hid (HK9.out.call hr10 ht10)
  clear hr10 ht10 HK9
  have hE := HE.out
  clear HE
  rw [bndJ] at hE
  generalize wantJ [kRate] r9 = q at *
  obtain ⟨n10, r10⟩ := q
  dsimp only at hE HK10 ⊢
  have HE := Lib.hid hE
  clear hE
  go_wp2_with fail
  refine (number_any b g r10 0 _ HK10.out.rd).mono ?_
  rintro e w11 ⟨rfl, hr11, ht11⟩
  have HK11 := Lib.hid (HK10.out.call hr11 ht11)
  clear hr11 ht11 HK10
  have hE := HE.out
  clear HE
  rw [bndJ] at hE
  generalize numJ 0 r10 = q at *
  obtain ⟨n11, r11⟩ := q
  dsimp only at hE HK11 ⊢
  have HE := Lib.hid hE
  clear hE
  obtain ⟨v18, c18⟩ := HK11.out.box.any 18 (by first | (simp only [Array.size_setIfInBounds]; omega) | omega | (simp; done))
  have f18 := HK11.out.box.f 18
  have HK11 := Lib.hid (HK11.out.set 18 (.int .i64 n11))
  go_wp2_with fail
  clear c18 f18
  refine (wantOne_any b g r11 kDown _ _ (by simp) HK11.out.rd).mono ?_
  rintro e w12 ⟨rfl, hr12, ht12⟩
  have HK12 := Lib.hid (HK11.out.call hr12 ht12)
  clear hr12 ht12 HK11
  have hE := HE.out
  clear HE
  rw [bndJ] at hE
  generalize wantJ [kDown] r11 = q at *
  obtain ⟨n12, r12⟩ := q
  dsimp only at hE HK12 ⊢
  have HE := Lib.hid hE
  clear hE
  go_wp2_with fail
  refine (number_any b g r12 0 _ HK12.out.rd).mono ?_
  rintro e w13 ⟨rfl, hr13, ht13⟩
  have HK13 := Lib.hid (HK12.out.call hr13 ht13)
  clear hr13 ht13 HK12
  have hE := HE.out
  clear HE
  rw [bndJ] at hE
  generalize numJ 0 r12 = q at *
  obtain ⟨n13, r13⟩ := q
  dsimp only at hE HK13 ⊢
  have HE := Lib.hid hE
  clear hE
  obtain ⟨v19, c19⟩ := HK13.out.box.any 19 (by first | (simp only [Array.size_setIfInBounds]; omega) | omega | (simp; done))
  have f19 := HK13.out.box.f 19
  have HK13 := Lib.hid (HK13.out.set 19 (.int .i64 n13))
  go_wp2_with fail
  clear c19 f19
  refine (wantOne_any b g r13 kOf _ _ (by simp) HK13.out.rd).mono ?_
  rintro e w14 ⟨rfl, hr14, ht14⟩
  have HK14 := Lib.hid (HK13.out.call hr14 ht14)
  clear hr14 ht14 HK13
  have hE := HE.out
  clear HE
  rw [bndJ] at hE
  generalize wantJ [kOf] r13 = q at *
  obtain ⟨n14, r14⟩ := q
  dsimp only at hE HK14 ⊢
  have HE := Lib.hid hE
  clear hE
  go_wp2_with fail
  refine (number_any b g r14 0 _ HK14.out.rd).mono ?_
  rintro e w15 ⟨rfl, hr15, ht15⟩
  have HK15 := Lib.hid (HK14.out.call hr15 ht15)
  clear hr15 ht15 HK14
  have hE := HE.out
  clear HE
  rw [bndJ] at hE
  generalize numJ 0 r14 = q at *
  obtain ⟨n15, r15⟩ := q
  dsimp only at hE HK15 ⊢
  have HE := Lib.hid hE
  clear hE
  obtain ⟨v20, c20⟩ := HK15.out.box.any 20 (by first | (simp only [Array.size_setIfInBounds]; omega) | omega | (simp; done))
  have f20 := HK15.out.box.f 20
  have HK15 := Lib.hid (HK15.out.set 20 (.int .i64 n15))
  go_wp2_with fail
  clear c20 f20
  refine (wantOne_any b g r15 kSemi _ _ (by simp) HK15.out.rd).mono ?_
  rintro e w16 ⟨rfl, hr16, ht16⟩
  have HK16 := Lib.hid (HK15.out.call hr16 ht16)
  clear hr16 ht16 HK15
  have hE := HE.out
  clear HE
  rw [bndJ] at hE
  generalize wantJ [kSemi] r15 = q at *
  obtain ⟨n16, r16⟩ := q
  dsimp only at hE HK16 ⊢
  have HE := Lib.hid hE
  clear hE
  have hE := HE.out
  rw [bndJ, retJ] at hE
  have HE2 := Lib.hid hE
  have HNo := Lib.hid (keep_none r16)
  have HYes := Lib.hid (keep_some r16)
  clear HE hE
  go_wp2_with fail
  refine (skipOne_any b g r16 kKeep _ _ rfl HK16.out.rd).mono ?_
  rintro e w17 ⟨rfl, hr17, ht17⟩
  have HK17 := Lib.hid (HK16.out.call hr17 ht17)
  clear hr17 ht17 HK16
  generalize skipJ [kKeep] r16 = q at *
  obtain ⟨n17, r17⟩ := q
  dsimp only at HNo HYes HK17 ⊢
  by_cases h0 : n17 = 0
  · have HY := Lib.hid (HYes.out h0)
    subst h0
    clear HNo HYes
    go_wp2_with fail
    refine (number_any b g r17 1 _ HK17.out.rd).mono ?_
    rintro e w18 ⟨rfl, hr18, ht18⟩
    have HK18 := Lib.hid (HK17.out.call hr18 ht18)
    clear hr18 ht18 HK17
    generalize numJ 1 r17 = q at *
    obtain ⟨n18, r18⟩ := q
    dsimp only at HY HK18 ⊢
    obtain ⟨v21, c21⟩ := HK18.out.box.any 21 (by first | (simp only [Array.size_setIfInBounds]; omega) | omega | (simp; done))
    have f21 := HK18.out.box.f 21
    have HK18 := Lib.hid (HK18.out.set 21 (.int .i64 n18))
    go_wp2_with fail
    refine (wantOne_any b g r18 kSemi _ _ (by simp) HK18.out.rd).mono ?_
    rintro e w19 ⟨rfl, hr19, ht19⟩
    have HK19 := Lib.hid (HK18.out.call hr19 ht19)
    clear hr19 ht19 HK18
    go_wp2_with fail
    go_end0
    refine ⟨rfl, ?_⟩
    rw [HE2.out, HY.out]
    exact HK19.out
  · have HN := Lib.hid (HNo.out h0)
    have hne0 : (n17 == 0) = false := by simpa using h0
    clear HNo HYes
    go_wp2_with fail
    go_end0
    refine ⟨rfl, ?_⟩
    rw [HE2.out, HN.out]
    unfold restCs
    rw [set_same _ 21 _ (by simpa using H21.out)]
    exact HK17.out
end Go.Proofs.YtnaejabgkfhlbaaDoor
/- Contract of syntax.Parse. -/
set_option linter.unusedSimpArgs false
set_option linter.unusedVariables false
namespace Go.Proofs.YtnaejabgkfhlbaaDoor
open Go.RowKit

theorem ret_box3 {P : Program} {fn : Func} {R : Ending → World → Prop} {a : Act} {w : World} (s t u : Nat) (ty : TypeId) (hf : fn.results = #[.cell s ty, .tmp t, .tmp u]) (b : Nat) (cs : List Value) (d : TypeDesc) (v x : Value)
    (hs : a.tmps.getD s undef = .pointer (some ⟨b, 0, none⟩)) (hv : a.tmps.getD t undef = v) (hx : a.tmps.getD u undef = x) (hc : w.rangeAt b 0 cs) (hu : P.underlying ty = some d) (hd : d.isRow = true) (hi : (P.info? ty).map (·.size) = some cs.length)
    (hdf : a.defers = []) (hR : R (.returned (.tuple #[.agg cs.toArray, v, x])) w) : bodyPost P fn R .ret a w := by
  refine bodyPost_ret (v := .tuple #[.agg cs.toArray, v, x]) ?_ hdf hR
  unfold results
  rw [hf]
  simp only [List.mapM_toArray, List.mapM_cons, List.mapM_nil, hs, hv, hx, asAddr, Sem.run_bind, Sem.run_pure, Result.andThen_ok, Sem.run_map, run_loadVar_mid w b 0 ty cs d hc hu hd hi]
  simp
/-- A whole struct is read, also where a guard has let it. -/
theorem wpList_load_w {P : Program} {ops : Array Oper} {rest : List Oper} {op : Oper} {a : Act} {w : World} {Q : Exit → Act → World → Prop} (hgd : Region.wanted op (yielded ops a.tmps) = true) (ty : TypeId) (x : Operand) (ho : op.op = .load ty x)
    (b o : Nat) (hx : a.eval x = .pointer (some ⟨b, o, none⟩)) (cs : List Value) (d : TypeDesc) (hc : w.rangeAt b o cs)
    (hu : P.underlying ty = some d) (hd : d.isRow = true) (hi : (P.info? ty).map (·.size) = some cs.length)
    (h : wpList P ops Q rest (a.put op.dst (.agg cs.toArray)) w) : wpList P ops Q (op :: rest) a w :=
  BigFrame.wpList_want hgd fun _ hK => wp_load_mid ty x ho b o hx cs d hc hu hd hi (hK _ _ h)
theorem own_cap {T : Type} {w : World} {base : Nat} {e : TypeId} {sz : Nat} {enc : T → List Value} {A : Option Addr} {c : Nat} {xs : List T} (h : OwnL w base e sz enc A c xs) : xs.length ≤ c := by
  cases xs with
  | nil => exact Nat.zero_le _
  | cons x r =>
    rcases h.2 with ⟨hv, hz⟩ | ⟨g, cap, cur, hv, hg, hh, rest⟩
    · injection hv with h1 h2 h3
      simp at h2
    · injection hv with h1 h2 h3
      subst h1
      exact h.cap_le.1
theorem PBox.range {p : Nat} {cs : Array Value} {w : World} (h : PBox p cs w) : w.rangeAt p 0 cs.toList := fun j v hj => by
  rw [Nat.zero_add]
  exact box_cell h j v (by simpa using hj)
theorem PBox.there {p : Nat} {cs : Array Value} {w : World} (h : PBox p cs w) : w.there p 0 cs.size := fun j hj => by
  rw [Nat.zero_add]
  refine ⟨?_, box_free h j⟩
  rw [box_cell h j cs[j] (Array.getElem?_eq_getElem hj)]
  rfl
abbrev zeroCs : Array Value := #[.string ⟨#[]⟩, .int .i64 0, .int .i64 0, .int .i64 0, .bool false, .int .i64 0, .bool false, .bool false, .int .i64 0, .int .i64 0, .int .i64 0, .int .i64 0, .slice none 0 0, .int .i64 0, .int .i64 0, .int .i64 0, .int .i64 0, .bool false, .int .i64 0, .int .i64 0, .int .i64 0, .int .i64 0]
theorem zeroOne : zeroCs.all (·.oneCell') = true := by simp [Value.oneCell']
theorem own_some {T : Type} {w : World} {base : Nat} {e : TypeId} {sz : Nat} {enc : T → List Value} {A : Option Addr} {c : Nat} {xs : List T} (h : OwnL w base e sz enc A c xs) (hne : xs ≠ []) : ∃ g, A = some ⟨g, 0, none⟩ ∧ base ≤ g ∧ g < w.heap.size ∧ xs.length ≤ c := by
  have h2 := h.2
  rcases h2 with ⟨hv, hz⟩ | ⟨g, cap, cur, hv, hg, hh, rest⟩
  · exfalso
    injection hv with h1 h2 h3
    exact hne (List.eq_nil_of_length_eq_zero h2)
  · injection hv with h1 h2 h3
    subst h1
    exact ⟨g, rfl, hg, box_lt hh, h.cap_le.1⟩
/-- What Parse leaves. -/
theorem cs_eq (name : List UInt8) (e1 e2 de re th qu me sz pa f1 f2 : Int) (f3 : List (List UInt8)) (q : Rest) (A : Option Addr) (c : Nat) :
    restCs (((((((((((((zeroCs.setIfInBounds 0 (.string (bs name))).setIfInBounds 1 (.int .i64 e1)).setIfInBounds 2 (.int .i64 e2)).setIfInBounds 3 (.int .i64 de)).setIfInBounds 4 (.bool (decide (re = 1)))).setIfInBounds 5 (.int .i64 th)).setIfInBounds 6 (.bool (decide (qu = 1)))).setIfInBounds 7 (.bool (decide (me = 1)))).setIfInBounds 8 (.int .i64 sz)).setIfInBounds 9 (.int .i64 pa)).setIfInBounds 10 (.int .i64 f1)).setIfInBounds 11 (.int .i64 f2)).setIfInBounds 12 (.slice A f3.length c)) q =
    (profOf name (e1, e2) de re th qu me sz pa (f1, f2, f3) q).cs A c := by
  simp [restCs, profOf]
theorem stop_bad (r : St) (h : r.err ≠ 0) : (stopJ r).2 = r := by unfold stopJ; simp [h]
theorem stop_fin (t : Tok) (l : List Tok) (pos : Int) (h : (t.sh.kind != 3) = false) : (stopJ ⟨t :: l, pos, 0⟩).2 = ⟨t :: l, pos, 0⟩ := by
  obtain ⟨sh, p⟩ := t
  cases sh with
  | fin => rfl
  | word s => simp [Sh.kind] at h
  | num s n => simp [Sh.kind] at h
  | sign => simp [Sh.kind] at h
theorem stop_else (t : Tok) (l : List Tok) (pos : Int) (h : (t.sh.kind != 3) = true) : (stopJ ⟨t :: l, pos, 0⟩).2 = failJ 12 ⟨t :: l, pos, 0⟩ := by
  obtain ⟨sh, p⟩ := t
  cases sh with
  | fin => simp [Sh.kind] at h
  | word s => rfl
  | num s n => rfl
  | sign => rfl
def stopB (r : St) : Bool := match r.toks with
  | t :: _ => decide (r.err = 0) && (t.sh.kind != 3)
  | [] => false
theorem stop_eq (r : St) (h : r.toks ≠ []) : (stopJ r).2 = if stopB r = true then failJ 12 r else r := by
  obtain ⟨toks, pos, err⟩ := r
  cases toks with
  | nil => exact absurd rfl h
  | cons t l =>
    by_cases he : err = 0
    · subst he
      cases hk : (t.sh.kind != 3) with
      | true => rw [stop_else t l pos hk]; simp [stopB, hk]
      | false => rw [stop_fin t l pos hk]; simp [stopB, hk]
    · rw [stop_bad _ he]; simp [stopB, he]
theorem KW.onto {b g p : Nat} {w0 w1 w2 : World} {r r' : St} {cs cs' : Array Value} (h : KW b g p w0 r cs w1) (k : KW b g p w1 r' cs' w2) : KW b g p w0 r' cs' w2 := ⟨k.rd, k.box, k.ne, h.turn.trans k.turn fun _ hi => .inl hi⟩
def ParseOut (l : List UInt8) (w : World) (e : Ending) (w' : World) : Prop := Below w.heap.size w w' ∧ ∃ A c, e = .returned (.tuple #[(parseL l).1.v A c, .int .i64 (parseL l).2.1, .int .i64 (parseL l).2.2]) ∧ ProfOk w' w'.heap.size A (parseL l).1 ∧ (∀ j, slBlk A = some j → w.heap.size ≤ j) ∧ (parseL l).1.types.length ≤ c
theorem parse_err {l : List UInt8} {a : Nat} {x : Int} (h : lexL l = .error (a, x)) : parseL l = (zeroProf, (a : Int), x) := by unfold parseL; rw [h]
theorem parse_ok {l : List UInt8} {ts : List Tok} (h : lexL l = .ok ts) : parseL l = if (parseG opsJ ⟨ts, 0, 0⟩).2.err = 0 then ((parseG opsJ ⟨ts, 0, 0⟩).1, 0, 0) else (zeroProf, (parseG opsJ ⟨ts, 0, 0⟩).2.pos, (parseG opsJ ⟨ts, 0, 0⟩).2.err) := by
  have hf : Fine ts := by
    unfold lexL at h
    split at h
    · cases h
    · exact (lex_fine h).1
  unfold parseL
  rw [h]
  exact parseT_J ts hf
abbrev zeroSz : zeroCs.size = 22 := rfl
theorem okZero (w : World) : ProfOk w w.heap.size none zeroProf := ⟨RdL.nil_, by decide, by decide, by simp⟩
set_option maxRecDepth 100000 in
set_option maxHeartbeats 8000000 in
theorem parse_any (l : List UInt8) (w : World) (hs : l.length ≤ 1000000) : Calls Tryd.prog 11 #[.string (bs l)] w (ParseOut l w) := by
  have HZ0 : Hid (PBox w.heap.size zeroCs (w.alloc (.cells zeroCs 24))) := Lib.hid (MapKept.heap_alloc w _).1
  have HBa := Lib.hid ((Below.refl w.heap.size w).alloc (Nat.le_refl _) (.cells zeroCs 24))
  go_enter Tryd.func11, Tryd.ntmps11
  go_wp2_with fail
  refine (lexLex_any l _ hs).mono ?_
  rintro e w1 ⟨hb1, hout⟩
  have HB1 := Lib.hid (HBa.out.trans (hb1.mono HBa.out.size))
  have HZ1 := Lib.hid (HZ0.out.now hb1)
  have hsz1 : w.heap.size < w1.heap.size := by have := hb1.size; simp at this; omega
  clear hb1 HBa HZ0
  cases hlx : lexL l with
  | error q =>
    obtain ⟨a, x⟩ := q
    rw [hlx] at hout
    simp only at hout
    subst hout
    have HP := Lib.hid (parse_err hlx)
    have hx0 : (x != 0) = true := by simpa using (lexL_err hlx).1
    clear hlx
    go_wp2_with (first
      | ((with_reducible show wpList _ _ _ (Oper.mk _ (Op.store 24 _ _) _ _ _ _ :: _) _ _); refine wpList_store_box rfl 24 _ _ rfl w.heap.size zeroCs rfl rfl HZ1.out.there (by kernel_rfl) zeroOne ?_; intro wS hrS htS hgS; have HRS := Lib.hid hrS; have HGS := Lib.hid hgS; clear hrS htS hgS)
      | fail)
    refine ret_box3 2 3 4 24 rfl w.heap.size zeroCs.toList _ (.int .i64 a) (.int .i64 x) rfl rfl rfl HRS.out Tryd.underlying24 rfl (by kernel_rfl) rfl ?_
    refine ⟨HB1.out.grown HGS.out (by omega) (fun k hk => by injection hk with hk; omega), none, 0, by rw [HP.out]; rfl, by rw [HP.out]; exact okZero _, by simp [slBlk], by rw [HP.out]; exact Nat.le_refl _⟩
  | ok ts =>
    rw [hlx] at hout
    simp only at hout
    obtain ⟨At, ct, rfl, hown⟩ := hout
    have HP := Lib.hid (parse_ok hlx)
    have hfl : Fine ts ∧ ts.length ≤ 3000 := by
      have h1 := lexL_ok hlx
      have h2 := lex_count h1.2
      exact ⟨(lex_fine h1.2).1, by omega⟩
    have HRt : Hid ((parseG opsJ ⟨ts, 0, 0⟩).2.err = 0 → profRight (parseG opsJ ⟨ts, 0, 0⟩).1 = true) := Lib.hid (parseJ_right (lex_fine (lexL_ok hlx).2).1 (lex_fine (lexL_ok hlx).2).2.1)
    obtain ⟨g, rfl, hg1, hg2, hct⟩ := own_some hown hfl.1.ne
    have htok : TokAt w1 g 0 ts := fun k t hk j v hv => by
      obtain ⟨b2, off2, e2, _, h2⟩ := hown.rd tokLay k t hk
      injection e2 with e2
      injection e2 with e3 e4
      subst e3 e4
      exact h2 j v hv
    have HTk := Lib.hid htok
    have HFl := Lib.hid hfl
    clear hown hfl htok hlx
    have hE : parseG opsJ ⟨ts, 0, 0⟩ = parseG opsJ ⟨ts, 0, 0⟩ := rfl
    conv at hE => rhs; unfold parseG; simp only [opsJ_want, opsJ_skip, opsJ_num, opsJ_name, opsJ_stop]
    have HE := Lib.hid hE
    clear hE
    have HK2 : Hid (KW w1.heap.size g (w1.heap.size + 1) w1 ⟨ts, 0, 0⟩ zeroCs ((w1.alloc (.cells #[.slice (some ⟨g, 0, none⟩) ts.length ct, .int .i64 0, .int .i64 0] 51)).alloc (.cells zeroCs 24))) := Lib.hid (by
      have hb2 := ((Below.refl w1.heap.size w1).alloc (Nat.le_refl _) (.cells #[.slice (some ⟨g, 0, none⟩) ts.length ct, .int .i64 0, .int .i64 0] 51)).alloc (by simp) (.cells zeroCs 24)
      refine ⟨⟨⟨0, ct, hct, by omega, Nat.lt_of_lt_of_le hg2 hb2.size, ?_, HTk.out.keep (hb2.block g hg2)⟩, HFl.out.1, HFl.out.2⟩, ?_, ⟨by omega, by omega⟩, Turn.below hb2⟩
      · exact (Below.heap_alloc _ _ _ (by simp)).trans (MapKept.heap_alloc w1 _).1
      · have := (MapKept.heap_alloc (w1.alloc (.cells #[.slice (some ⟨g, 0, none⟩) ts.length ct, .int .i64 0, .int .i64 0] 51)) (.cells zeroCs 24)).1
        rwa [show (w1.alloc (.cells #[.slice (some ⟨g, 0, none⟩) ts.length ct, .int .i64 0, .int .i64 0] 51)).heap.size = w1.heap.size + 1 by simp] at this)
    clear HTk HFl
    have hr0 : (⟨ts, 0, 0⟩ : St) = ⟨ts, 0, 0⟩ := rfl
    generalize (⟨ts, 0, 0⟩ : St) = r0 at HK2 HE HP HRt
    clear hr0
    obtain ⟨b, hbe⟩ : ∃ b, b = w1.heap.size := ⟨_, rfl⟩
    obtain ⟨p, hpe⟩ : ∃ p, p = w1.heap.size + 1 := ⟨_, rfl⟩
    go_wp2_with fail
    refine (wantOne_any w1.heap.size g r0 kNetwork _ _ (by simp) HK2.out.rd).mono ?_
    rintro e w3 ⟨rfl, hr3, ht3⟩
    have HK3 := Lib.hid (HK2.out.call hr3 ht3)
    clear hr3 ht3 HK2
    have hE := HE.out
    clear HE
    rw [bndJ] at hE
    generalize wantJ [kNetwork] r0 = q at *
    obtain ⟨n3, r3⟩ := q
    dsimp only at hE HK3 ⊢
    have HE := Lib.hid hE
    clear hE
    have hlb : w.heap.size < b := by omega
    have hlp : w.heap.size < p := by omega
    have HPB := Lib.hid (show w1.heap.size ≤ b ∧ w1.heap.size ≤ p by omega)
    rw [← hpe, ← hbe] at *
    clear hpe hbe hg1 hg2 hct
    go_wp2_with fail
    refine (name_any b g r3 _ HK3.out.rd).mono ?_
    rintro e w4 ⟨rfl, hr4, ht4⟩
    have HK4 := Lib.hid (HK3.out.call hr4 ht4)
    clear hr4 ht4 HK3
    have hE := HE.out
    clear HE
    rw [bndJ] at hE
    generalize nameJ r3 = q at *
    obtain ⟨n4, r4⟩ := q
    dsimp only at hE HK4 ⊢
    have HE := Lib.hid hE
    clear hE
    obtain ⟨v0, c0⟩ := HK4.out.box.any 0 (by first | (simp only [Array.size_setIfInBounds]; omega) | omega | (simp; done))
    have f0 := HK4.out.box.f 0
    have HK4 := Lib.hid (HK4.out.set 0 (.string (bs n4)))
    go_wp2_with fail
    clear c0 f0
    refine (wantOne_any b g r4 kSemi _ _ (by simp) HK4.out.rd).mono ?_
    rintro e w5 ⟨rfl, hr5, ht5⟩
    have HK5 := Lib.hid (HK4.out.call hr5 ht5)
    clear hr5 ht5 HK4
    have hE := HE.out
    clear HE
    rw [bndJ] at hE
    generalize wantJ [kSemi] r4 = q at *
    obtain ⟨n5, r5⟩ := q
    dsimp only at hE HK5 ⊢
    have HE := Lib.hid hE
    clear hE
    go_wp2_with fail
    refine (wantOne_any b g r5 kEdit _ _ rfl HK5.out.rd).mono ?_
    rintro e w6 ⟨rfl, hr6, ht6⟩
    have HK6 := Lib.hid (HK5.out.call hr6 ht6)
    clear hr6 ht6 HK5
    have hE := HE.out
    clear HE
    rw [bndJ] at hE
    generalize wantJ [kEdit] r5 = q at *
    obtain ⟨n6, r6⟩ := q
    dsimp only at hE HK6 ⊢
    have HE := Lib.hid hE
    clear hE
    have hE := HE.out
    rw [bndJ] at hE
    have HNo := Lib.hid (edit_no r6)
    have HYes := Lib.hid (edit_yes r6)
    generalize editG opsJ r6 = qe at *
    have HE := Lib.hid hE
    clear hE
    go_wp2_with fail
    refine (noYes_any _).mono ?_
    rintro e w7 ⟨rfl, hs7, hb7⟩
    have HK7 := Lib.hid (HK6.out.now hb7)
    have HS7 := Lib.hid hs7
    have hA7 := Nat.ne_of_gt HK6.out.rd.lt
    clear hs7 hb7 HK6
    go_upto_if 39 with fail
    refine (want_any b g r6 wNoYes _ _ _ HK7.out.rd HS7.out (by decide)).mono ?_
    rintro e w8 ⟨rfl, hr8, ht8⟩
    have HK8 := Lib.hid (HK7.out.call hr8 ht8)
    clear hr8 ht8 HK7 HS7
    generalize wantJ wNoYes r6 = q at *
    obtain ⟨n8, r8⟩ := q
    dsimp only at HNo HYes HK8 ⊢
    go_upto_if 39 with fail
    have hp8 := HK8.out.box.lt
    go_cut [] (fun wx => KW b g p w1 qe.2 (((zeroCs.setIfInBounds 0 (.string (bs n4))).setIfInBounds 1 (.int .i64 qe.1.1)).setIfInBounds 2 (.int .i64 qe.1.2)) wx)
    case first =>
      by_cases h1 : n8 = 1
      · have HY := Lib.hid (HYes.out h1)
        subst h1
        clear HYes HNo
        obtain ⟨v1, c1⟩ := HK8.out.box.any 1 (by first | (simp only [Array.size_setIfInBounds]; omega) | omega | (simp; done))
        have f1 := HK8.out.box.f 1
        have HK8 := Lib.hid (HK8.out.set 1 (.int .i64 2))
        go_wp2_with fail
        refine (skipOne_any b g r8 kWithin _ _ (by simp) HK8.out.rd).mono ?_
        rintro e w9 ⟨rfl, hr9, ht9⟩
        have HK9 := Lib.hid (HK8.out.call hr9 ht9)
        clear hr9 ht9 HK8 c1 f1
        generalize skipJ [kWithin] r8 = q at *
        obtain ⟨n9, r9⟩ := q
        dsimp only at HY HK9 ⊢
        by_cases h0 : n9 = 0
        · have HY2 : Hid (qe = ((2, (numJ 1 r9).1), (numJ 1 r9).2)) := Lib.hid (by rw [HY.out, if_pos h0])
          subst h0
          clear HY
          go_wp2_with fail
          refine (number_any b g r9 1 _ HK9.out.rd).mono ?_
          rintro e w10 ⟨rfl, hr10, ht10⟩
          have HK10 := Lib.hid (HK9.out.call hr10 ht10)
          clear hr10 ht10 HK9
          generalize numJ 1 r9 = q at *
          obtain ⟨n10, r10⟩ := q
          dsimp only at HY2 HK10 ⊢
          obtain ⟨v2, c2⟩ := HK10.out.box.any 2 (by first | (simp only [Array.size_setIfInBounds]; omega) | omega | (simp; done))
          have f2 := HK10.out.box.f 2
          have HK10 := Lib.hid (HK10.out.set 2 (.int .i64 n10))
          go_wp2_with fail
          go_meet
          rw [HY2.out]
          exact HK10.out
        · have HY2 : Hid (qe = ((2, 0), r9)) := Lib.hid (by rw [HY.out, if_neg h0])
          have hne0 : (n9 == 0) = false := by simpa using h0
          clear HY h0
          go_wp2_with fail
          go_meet
          rw [HY2.out]
          show KW b g p w1 r9 (((zeroCs.setIfInBounds 0 (.string (bs n4))).setIfInBounds 1 (.int .i64 2)).setIfInBounds 2 (.int .i64 0)) _
          rw [set_same _ 2 _ rfl]
          exact HK9.out
      · have HN := Lib.hid (HNo.out h1)
        have hne1 : (n8 == 1) = false := by simpa using h1
        clear HYes HNo h1
        go_wp2_with fail
        go_meet
        rw [HN.out]
        show KW b g p w1 r8 (((zeroCs.setIfInBounds 0 (.string (bs n4))).setIfInBounds 1 (.int .i64 0)).setIfInBounds 2 (.int .i64 0)) _
        rw [set_same _ 1 _ rfl, set_same _ 2 _ rfl]
        exact HK8.out
    case rest =>
      have HK10 := Lib.hid hcut
      clear hcut HK8 HNo HYes hp8
      obtain ⟨⟨e1, e2⟩, r10⟩ := qe
      dsimp only at HE HK10 ⊢
      go_wp2_with fail
      refine (wantOne_any b g r10 kSemi _ _ rfl HK10.out.rd).mono ?_
      rintro e w11 ⟨rfl, hr11, ht11⟩
      have HK11 := Lib.hid (HK10.out.call hr11 ht11)
      clear hr11 ht11 HK10
      have hE := HE.out
      clear HE
      rw [bndJ] at hE
      generalize wantJ [kSemi] r10 = q at *
      obtain ⟨n11, r11⟩ := q
      dsimp only at hE HK11 ⊢
      have HE := Lib.hid hE
      clear hE
      go_wp2_with fail
      refine (deletes_any _).mono ?_
      rintro e w12 ⟨rfl, hs12, hb12⟩
      have HK12 := Lib.hid (HK11.out.now hb12)
      have HS12 := Lib.hid hs12
      have hA12 := Nat.ne_of_gt HK11.out.rd.lt
      clear hs12 hb12 HK11
      go_wp2_with fail
      refine (part_any b g r11 kDelete wDeletes _ _ _ HK12.out.rd HS12.out (blk_ne hA12) (by decide)).mono ?_
      rintro e w13 ⟨rfl, hr13, ht13⟩
      have HK13 := Lib.hid (HK12.out.call hr13 ht13)
      clear hr13 ht13 HK12
      have hE := HE.out
      clear HE
      rw [bndJ] at hE
      generalize partG opsJ kDelete wDeletes r11 = q at *
      obtain ⟨n13, r13⟩ := q
      dsimp only at hE HK13 ⊢
      have HE := Lib.hid hE
      clear hE
      obtain ⟨v3, c3⟩ := HK13.out.box.any 3 (by first | (simp only [Array.size_setIfInBounds]; omega) | omega | (simp; done))
      have f3 := HK13.out.box.f 3
      have HK13 := Lib.hid (HK13.out.set 3 (.int .i64 n13))
      clear HS12
      go_wp2_with fail
      clear c3 f3
      generalize World.setCell w13 _ _ = w13 at *
      refine (noYes_any _).mono ?_
      rintro e w14 ⟨rfl, hs14, hb14⟩
      have HK14 := Lib.hid (HK13.out.now hb14)
      have HS14 := Lib.hid hs14
      have hA14 := Nat.ne_of_gt HK13.out.rd.lt
      clear hs14 hb14 HK13
      go_wp2_with fail
      refine (part_any b g r13 kReact wNoYes _ _ _ HK14.out.rd HS14.out (blk_ne hA14) (by decide)).mono ?_
      rintro e w15 ⟨rfl, hr15, ht15⟩
      have HK15 := Lib.hid (HK14.out.call hr15 ht15)
      clear hr15 ht15 HK14
      have hE := HE.out
      clear HE
      rw [bndJ] at hE
      generalize partG opsJ kReact wNoYes r13 = q at *
      obtain ⟨n15, r15⟩ := q
      dsimp only at hE HK15 ⊢
      have HE := Lib.hid hE
      clear hE
      obtain ⟨v4, c4⟩ := HK15.out.box.any 4 (by first | (simp only [Array.size_setIfInBounds]; omega) | omega | (simp; done))
      have f4 := HK15.out.box.f 4
      have HK15 := Lib.hid (HK15.out.set 4 (.bool (decide (n15 = 1))))
      clear HS14
      go_wp2_with fail
      clear c4 f4
      generalize World.setCell w15 _ _ = w15 at *
      refine (threads_any _).mono ?_
      rintro e w16 ⟨rfl, hs16, hb16⟩
      have HK16 := Lib.hid (HK15.out.now hb16)
      have HS16 := Lib.hid hs16
      have hA16 := Nat.ne_of_gt HK15.out.rd.lt
      clear hs16 hb16 HK15
      go_wp2_with fail
      refine (part_any b g r15 kThread wThreads _ _ _ HK16.out.rd HS16.out (blk_ne hA16) (by decide)).mono ?_
      rintro e w17 ⟨rfl, hr17, ht17⟩
      have HK17 := Lib.hid (HK16.out.call hr17 ht17)
      clear hr17 ht17 HK16
      have hE := HE.out
      clear HE
      rw [bndJ] at hE
      generalize partG opsJ kThread wThreads r15 = q at *
      obtain ⟨n17, r17⟩ := q
      dsimp only at hE HK17 ⊢
      have HE := Lib.hid hE
      clear hE
      obtain ⟨v5, c5⟩ := HK17.out.box.any 5 (by first | (simp only [Array.size_setIfInBounds]; omega) | omega | (simp; done))
      have f5 := HK17.out.box.f 5
      have HK17 := Lib.hid (HK17.out.set 5 (.int .i64 n17))
      clear HS16
      go_wp2_with fail
      clear c5 f5
      generalize World.setCell w17 _ _ = w17 at *
      refine (noYes_any _).mono ?_
      rintro e w18 ⟨rfl, hs18, hb18⟩
      have HK18 := Lib.hid (HK17.out.now hb18)
      have HS18 := Lib.hid hs18
      have hA18 := Nat.ne_of_gt HK17.out.rd.lt
      clear hs18 hb18 HK17
      go_wp2_with fail
      refine (part_any b g r17 kQuote wNoYes _ _ _ HK18.out.rd HS18.out (blk_ne hA18) (by decide)).mono ?_
      rintro e w19 ⟨rfl, hr19, ht19⟩
      have HK19 := Lib.hid (HK18.out.call hr19 ht19)
      clear hr19 ht19 HK18
      have hE := HE.out
      clear HE
      rw [bndJ] at hE
      generalize partG opsJ kQuote wNoYes r17 = q at *
      obtain ⟨n19, r19⟩ := q
      dsimp only at hE HK19 ⊢
      have HE := Lib.hid hE
      clear hE
      obtain ⟨v6, c6⟩ := HK19.out.box.any 6 (by first | (simp only [Array.size_setIfInBounds]; omega) | omega | (simp; done))
      have f6 := HK19.out.box.f 6
      have HK19 := Lib.hid (HK19.out.set 6 (.bool (decide (n19 = 1))))
      clear HS18
      go_wp2_with fail
      clear c6 f6
      generalize World.setCell w19 _ _ = w19 at *
      refine (noYes_any _).mono ?_
      rintro e w20 ⟨rfl, hs20, hb20⟩
      have HK20 := Lib.hid (HK19.out.now hb20)
      have HS20 := Lib.hid hs20
      have hA20 := Nat.ne_of_gt HK19.out.rd.lt
      clear hs20 hb20 HK19
      go_wp2_with fail
      refine (part_any b g r19 kMention wNoYes _ _ _ HK20.out.rd HS20.out (blk_ne hA20) (by decide)).mono ?_
      rintro e w21 ⟨rfl, hr21, ht21⟩
      have HK21 := Lib.hid (HK20.out.call hr21 ht21)
      clear hr21 ht21 HK20
      have hE := HE.out
      clear HE
      rw [bndJ] at hE
      generalize partG opsJ kMention wNoYes r19 = q at *
      obtain ⟨n21, r21⟩ := q
      dsimp only at hE HK21 ⊢
      have HE := Lib.hid hE
      clear hE
      obtain ⟨v7, c7⟩ := HK21.out.box.any 7 (by first | (simp only [Array.size_setIfInBounds]; omega) | omega | (simp; done))
      have f7 := HK21.out.box.f 7
      have HK21 := Lib.hid (HK21.out.set 7 (.bool (decide (n21 = 1))))
      clear HS20
      go_wp2_with fail
      clear c7 f7
      refine (wantOne_any b g r21 kSize _ _ (by simp) HK21.out.rd).mono ?_
      rintro e w22 ⟨rfl, hr22, ht22⟩
      have HK22 := Lib.hid (HK21.out.call hr22 ht22)
      clear hr22 ht22 HK21
      have hE := HE.out
      clear HE
      rw [bndJ] at hE
      generalize wantJ [kSize] r21 = q at *
      obtain ⟨n22, r22⟩ := q
      dsimp only at hE HK22 ⊢
      have HE := Lib.hid hE
      clear hE
      go_wp2_with fail
      refine (number_any b g r22 0 _ HK22.out.rd).mono ?_
      rintro e w23 ⟨rfl, hr23, ht23⟩
      have HK23 := Lib.hid (HK22.out.call hr23 ht23)
      clear hr23 ht23 HK22
      have hE := HE.out
      clear HE
      rw [bndJ] at hE
      generalize numJ 0 r22 = q at *
      obtain ⟨n23, r23⟩ := q
      dsimp only at hE HK23 ⊢
      have HE := Lib.hid hE
      clear hE
      obtain ⟨v8, c8⟩ := HK23.out.box.any 8 (by first | (simp only [Array.size_setIfInBounds]; omega) | omega | (simp; done))
      have f8 := HK23.out.box.f 8
      have HK23 := Lib.hid (HK23.out.set 8 (.int .i64 n23))
      go_wp2_with fail
      clear c8 f8
      refine (wantOne_any b g r23 kParts _ _ (by simp) HK23.out.rd).mono ?_
      rintro e w24 ⟨rfl, hr24, ht24⟩
      have HK24 := Lib.hid (HK23.out.call hr24 ht24)
      clear hr24 ht24 HK23
      have hE := HE.out
      clear HE
      rw [bndJ] at hE
      generalize wantJ [kParts] r23 = q at *
      obtain ⟨n24, r24⟩ := q
      dsimp only at hE HK24 ⊢
      have HE := Lib.hid hE
      clear hE
      go_wp2_with fail
      refine (number_any b g r24 0 _ HK24.out.rd).mono ?_
      rintro e w25 ⟨rfl, hr25, ht25⟩
      have HK25 := Lib.hid (HK24.out.call hr25 ht25)
      clear hr25 ht25 HK24
      have hE := HE.out
      clear HE
      rw [bndJ] at hE
      generalize numJ 0 r24 = q at *
      obtain ⟨n25, r25⟩ := q
      dsimp only at hE HK25 ⊢
      have HE := Lib.hid hE
      clear hE
      obtain ⟨v9, c9⟩ := HK25.out.box.any 9 (by first | (simp only [Array.size_setIfInBounds]; omega) | omega | (simp; done))
      have f9 := HK25.out.box.f 9
      have HK25 := Lib.hid (HK25.out.set 9 (.int .i64 n25))
      go_wp2_with fail
      clear c9 f9
      refine (wantOne_any b g r25 kSemi _ _ (by simp) HK25.out.rd).mono ?_
      rintro e w26 ⟨rfl, hr26, ht26⟩
      have HK26 := Lib.hid (HK25.out.call hr26 ht26)
      clear hr26 ht26 HK25
      have hE := HE.out
      clear HE
      rw [bndJ] at hE
      generalize wantJ [kSemi] r25 = q at *
      obtain ⟨n26, r26⟩ := q
      dsimp only at hE HK26 ⊢
      have HE := Lib.hid hE
      clear hE
      go_wp2_with fail
      have hE := HE.out
      clear HE
      rw [bndJ] at hE
      refine (files_any b g p r26 _ _ HK26.out.rd HK26.out.box HK26.out.ne (by simp) (by simp) (by simp)).mono ?_
      rintro e w27 ⟨rfl, Af, cf, how, hkw⟩
      have hbl26 := HK26.out.rd.lt
      have hpl26 := HK26.out.box.lt
      have HK27 := Lib.hid (HK26.out.onto hkw)
      have HO27 := Lib.hid how
      clear how hkw HK26
      generalize filesG opsJ r26 = q at *
      obtain ⟨⟨f1, f2, f3⟩, r27⟩ := q
      dsimp only at hE HK27 HO27 ⊢
      rw [bndJ] at hE
      go_wp2_with fail
      refine (rest_any b g p r27 _ _ HK27.out.rd HK27.out.box HK27.out.ne (by simp) (by simp)).mono ?_
      rintro e w28 ⟨rfl, hkw⟩
      have HO28 := Lib.hid (HO27.out.turn (w' := w28) (fun i hi hlt => hkw.turn.block i hlt (fun hf => by have := HO27.out.blk_lt hi; rcases hf with hf | hf <;> omega)))
      have HK28 := Lib.hid (HK27.out.onto hkw)
      clear hkw HK27 HO27
      generalize restG opsJ r27 = q at *
      obtain ⟨qr, r28⟩ := q
      dsimp only at hE HK28 ⊢
      rw [bndJ, retJ] at hE
      have HE := Lib.hid hE
      clear hE
      have hk28 := HK28.out
      rw [cs_eq n4 e1 e2 n13 n15 n17 n19 n21 n23 n25 f1 f2 f3 qr Af cf] at hk28
      obtain ⟨P, hP⟩ : ∃ P, P = profOf n4 (e1, e2) n13 n15 n17 n19 n21 n23 n25 (f1, f2, f3) qr := ⟨_, rfl⟩
      have HT : Hid (P.types = f3.map bs) := Lib.hid (by rw [hP]; rfl)
      rw [← hP] at hk28 HE
      have HK28 := Lib.hid hk28
      clear hk28 hP
      have HStop := Lib.hid (stop_eq r28 HK28.out.rd.fine.ne)
      go_upto_region 27 with fail
      go_cut [107] (fun v wx => v = .bool (stopB r28) ∧ w28 = wx)
      case first =>
        have hrd := HK28.out.rd
        have HFi := Lib.hid hrd.fine.ne
        have HSB : Hid (∀ t l, r28.toks = t :: l → stopB r28 = (decide (r28.err = 0) && (t.sh.kind != 3))) := Lib.hid (fun t l h => by unfold stopB; rw [h])
        generalize stopB r28 = sb at *
        clear HStop HE HK28
        obtain ⟨toks, pos, err⟩ := r28
        cases toks with
        | nil => exact absurd rfl HFi.out
        | cons t0 l0 =>
          obtain ⟨off, c9, q1, q2, q3, hbl, q4, q5⟩ := hrd.open_
          obtain ⟨u0, _, _, _⟩ := q5.head
          have k0 := box_cell q4 0 _ rfl
          have k2 := box_cell q4 2 _ rfl
          clear q4 q5 hrd HFi
          have hsb := HSB.out t0 l0 rfl
          dsimp only at hsb
          by_cases he : err = 0
          · subst he
            cases hk : (t0.sh.kind != 3) with
            | true =>
              obtain rfl : sb = true := by rw [hsb, hk]; rfl
              clear hsb
              go_wp2_with fail
              go_meet
              exact ⟨rfl, rfl⟩
            | false =>
              obtain rfl : sb = false := by rw [hsb, hk]; rfl
              clear hsb
              go_wp2_with fail
              go_meet
              exact ⟨rfl, rfl⟩
          · obtain rfl : sb = false := by rw [hsb]; simp [he]
            have he2 : (err == 0) = false := by simpa using he
            clear hsb he
            go_wp2_with fail
            go_meet
            exact ⟨rfl, rfl⟩
      case rest =>
        obtain ⟨rfl, rfl⟩ := hcut
        generalize stopB r28 = sb at *
        generalize (stopJ r28).2 = rs at *
        go_upto_if 107 with fail
        go_cut [] (fun wx => KW b g p w1 rs (P.cs Af cf) wx ∧ Turn (One b) w28 wx)
        case first =>
          cases sb with
          | true =>
            have HS := Lib.hid (HStop.out.trans (if_pos rfl))
            clear HStop
            go_wp2_with fail
            refine (fail_any b g r28 12 _ HK28.out.rd).mono ?_
            rintro e w29 ⟨rfl, hr29, ht29⟩
            have HK29 := Lib.hid (HK28.out.call hr29 ht29)
            have HT29 := Lib.hid ht29
            clear hr29 ht29
            go_wp2_with fail
            go_meet
            exact ⟨by rw [HS.out]; exact HK29.out, HT29.out⟩
          | false =>
            have HS := Lib.hid (HStop.out.trans (if_neg (by decide)))
            clear HStop
            go_wp2_with fail
            go_meet
            exact ⟨by rw [HS.out]; exact HK28.out, Turn.refl _ _⟩
        case rest =>
          obtain ⟨hk, ht⟩ := hcut
          have HO29 := Lib.hid (HO28.out.turn (w' := wc) (fun i hi hlt => ht.block i hlt (fun e => by have := HO28.out.blk_lt hi; omega)))
          have HK29 := Lib.hid hk
          clear hk ht HK28 HO28 HStop
          obtain ⟨off, c9, q1, q2, q3, q4, q5⟩ := HK29.out.rd.box
          have k1 := box_cell q4 1 _ rfl
          have k2 := box_cell q4 2 _ rfl
          clear q4 q5 q1 q2 q3
          obtain ⟨toks, pos, err⟩ := rs
          dsimp only at k1 k2
          have HBx : Hid (Below w.heap.size w wc) := Lib.hid (HB1.out.trans (HK29.out.turn.to_below HB1.out.size (fun i hi => by rcases hi with hi | hi <;> omega)))
          have HZx : Hid (PBox w.heap.size zeroCs wc) := Lib.hid (HZ1.out.turn HK29.out.turn (fun hi => by rcases hi with hi | hi <;> omega))
          have hqlt := HZx.out.lt
          by_cases he : err = 0
          · have HPL : Hid (parseL l = (P, 0, 0)) := Lib.hid (by rw [HP.out, HE.out, if_pos he])
            have HSz : Hid (P.name.size ≤ 20 ∧ P.types.length ≤ 20 ∧ ∀ s ∈ P.types, s.size ≤ 20) := Lib.hid (by have := right_sizes (HRt.out (by rw [HE.out]; exact he)); rw [HE.out] at this; exact this)
            subst he
            go_wp2_with (first
              | ((with_reducible show wpList _ _ _ (Oper.mk _ (Op.load 24 _) _ _ _ _ :: _) _ _); refine wpList_load_w rfl 24 (.tmp 9) rfl p 0 rfl (P.cs Af cf).toList _ HK29.out.box.range Tryd.underlying24 rfl (by kernel_rfl) ?_)
              | ((with_reducible show wpList _ _ _ (Oper.mk _ (Op.store 24 _ _) _ _ _ _ :: _) _ _); refine wpList_store_box rfl 24 _ _ rfl w.heap.size (P.cs Af cf) rfl rfl HZx.out.there (by kernel_rfl) (by simp [Value.oneCell']) ?_; intro wS hrS htS hgS; have HRS := Lib.hid hrS; have HGS := Lib.hid hgS; clear hrS htS hgS)
              | fail)
            refine ret_box3 2 3 4 24 rfl w.heap.size (P.cs Af cf).toList _ (.int .i64 0) (.int .i64 0) rfl rfl rfl HRS.out Tryd.underlying24 rfl (by kernel_rfl) rfl ?_
            have hgs := HGS.out
            have hsz := HSz.out
            have hoS := HO29.out.turn (w' := wS) (fun i hi hlt => hgs.block i hlt (fun e => by injection e with e; have := HO29.out.blk_lt hi; omega))
            refine ⟨HBx.out.grown hgs (by omega) (fun k hk => by injection hk with hk; omega), Af, cf, by rw [HPL.out], ?_, fun j hj => by have := HO29.out.blk_lt hj; omega, ?_⟩
            · rw [HPL.out]
              refine ⟨?_, by show P.name.size ≤ _; omega, by show P.types.length ≤ _; omega, fun s hs => by have := hsz.2.2 s hs; omega⟩
              show RdS wS wS.heap.size Af P.types
              rw [HT.out]
              exact strE_rd (hoS.rd strELay)
            · rw [HPL.out]
              show P.types.length ≤ cf
              rw [HT.out, List.length_map]
              exact own_cap HO29.out
          · have HPL : Hid (parseL l = (zeroProf, pos, err)) := Lib.hid (by rw [HP.out, HE.out, if_neg he])
            have he2 : (err != 0) = true := by simpa using he
            have hqb : w.heap.size ≠ b := by omega
            clear he
            go_wp2_with fail
            refine wp_region_J (S := fun w' => w'.cell? ⟨b, 1, none⟩ = some (.int .i64 pos) ∧ w'.cell? ⟨b, 2, none⟩ = some (.int .i64 err)) (fun _ => false) (by kernel_rfl) (⟨k1, k2⟩) (fun hHeld => ?_)
            clear k1 k2
            refine wpAnyJ_pure (i := 0) (v := ?_) rfl (by kernel_rfl) (by kernel_rfl) (by kernel_rfl) (fun _ _ _ h => h) (Or.inl ⟨by rfl, ?_⟩) ?_
            rotate_left
            · intro wq _
              go_simp
              try with_reducible rfl
            simp only [Act.put, List.setIfInBounds_toArray, List.set_cons_zero, List.set_cons_succ]
            refine wpAnyJ_take (i := 1) (v := ?_) rfl (by kernel_rfl) (by kernel_rfl) (by kernel_rfl) (by kernel_rfl) (fun _ _ _ h => h) (Or.inl ⟨by rfl, ?_⟩) hHeld ?_
            rotate_left
            · intro wq hSq
              skip
              go_simp
              try with_reducible rfl
            simp only [Act.put, List.setIfInBounds_toArray, List.set_cons_zero, List.set_cons_succ]
            refine wpAnyJ_take (i := 2) (v := ?_) rfl (by kernel_rfl) (by kernel_rfl) (by kernel_rfl) (by kernel_rfl) (fun _ _ _ h => h) (Or.inl ⟨by rfl, ?_⟩) hHeld ?_
            rotate_left
            · intro wq hSq
              skip
              go_simp
              try with_reducible rfl
            simp only [Act.put, List.setIfInBounds_toArray, List.set_cons_zero, List.set_cons_succ]
            refine wpAnyJ_take (i := 3) (v := ?_) rfl (by kernel_rfl) (by kernel_rfl) (by kernel_rfl) (by kernel_rfl) (fun _ _ _ h => h) (Or.inl ⟨by rfl, ?_⟩) hHeld ?_
            rotate_left
            · intro wq hSq
              skip
              go_simp
              try with_reducible rfl
            simp only [Act.put, List.setIfInBounds_toArray, List.set_cons_zero, List.set_cons_succ]
            refine wpAnyJ_take (i := 4) (v := ?_) rfl (by kernel_rfl) (by kernel_rfl) (by kernel_rfl) (by kernel_rfl) (fun _ _ _ h => h) (Or.inl ⟨by rfl, ?_⟩) hHeld ?_
            rotate_left
            · intro wq hSq
              obtain ⟨h1, h2⟩ := hSq
              go_simp
              try with_reducible rfl
            simp only [Act.put, List.setIfInBounds_toArray, List.set_cons_zero, List.set_cons_succ]
            refine wpAnyJ_take (i := 5) (v := ?_) rfl (by kernel_rfl) (by kernel_rfl) (by kernel_rfl) (by kernel_rfl) (fun _ _ _ h => h) (Or.inl ⟨by rfl, ?_⟩) hHeld ?_
            rotate_left
            · intro wq hSq
              skip
              go_simp
              try with_reducible rfl
            simp only [Act.put, List.setIfInBounds_toArray, List.set_cons_zero, List.set_cons_succ]
            refine wpAnyJ_take (i := 6) (v := ?_) rfl (by kernel_rfl) (by kernel_rfl) (by kernel_rfl) (by kernel_rfl) (fun _ _ _ h => h) (Or.inl ⟨by rfl, ?_⟩) hHeld ?_
            rotate_left
            · intro wq hSq
              skip
              go_simp
              try with_reducible rfl
            simp only [Act.put, List.setIfInBounds_toArray, List.set_cons_zero, List.set_cons_succ]
            refine wpAnyJ_take (i := 7) (v := ?_) rfl (by kernel_rfl) (by kernel_rfl) (by kernel_rfl) (by kernel_rfl) (fun _ _ _ h => h) (Or.inl ⟨by rfl, ?_⟩) hHeld ?_
            rotate_left
            · intro wq hSq
              skip
              go_simp
              try with_reducible rfl
            simp only [Act.put, List.setIfInBounds_toArray, List.set_cons_zero, List.set_cons_succ]
            refine wpAnyJ_take (i := 8) (v := ?_) rfl (by kernel_rfl) (by kernel_rfl) (by kernel_rfl) (by kernel_rfl) (fun _ _ _ h => h) (Or.inl ⟨by rfl, ?_⟩) hHeld ?_
            rotate_left
            · intro wq hSq
              obtain ⟨h1, h2⟩ := hSq
              go_simp
              try with_reducible rfl
            simp only [Act.put, List.setIfInBounds_toArray, List.set_cons_zero, List.set_cons_succ]
            refine wpAnyJ_one (i := 9) rfl (by kernel_rfl) (fun K hK => ?_)
            have HTh := Lib.hid (show wc.drew.there w.heap.size 0 zeroCs.size from HZx.out.there)
            simp only [List.getElem_toArray, List.getElem_cons_succ, List.getElem_cons_zero, Region.wanted, if_true]
            have key := fun (K : Act → World → Prop) (Q : Exit → Act → World → Prop) (a : Act) (op : Oper) (ho : op.op = .store 24 (.tmp 2) (.tmp 115)) (hx : a.eval (.tmp 2) = .pointer (some ⟨w.heap.size, 0, none⟩)) (hy : a.eval (.tmp 115) = .agg zeroCs) (h : K (a.put op.dst undef) (wc.drew.setCells w.heap.size 0 zeroCs.toList)) => wp_store_mid (P := Tryd.prog) (op := op) (a := a) (w := wc.drew) (K := K) (Q := Q) 24 (.tmp 2) (.tmp 115) ho w.heap.size 0 zeroCs hx hy HTh.out (by kernel_rfl) zeroOne h
            refine key _ _ _ _ ?kho ?khx ?khy ?_
            case kho => rfl
            case khx => simp [Act.eval]
            case khy => simp [Act.eval]
            clear key
            simp only [List.setIfInBounds_toArray]
            have HGs := Lib.hid (grown_setCells wc.drew w.heap.size 0 zeroCs.toList)
            have HRs := Lib.hid (World.rangeAt_setCells_same wc.drew w.heap.size 0 zeroCs.toList HTh.out)
            generalize World.setCells wc.drew w.heap.size 0 zeroCs.toList = wS at HGs HRs ⊢
            refine hK.out _ _ (fun _ h => ⟨(World.cell?_of_block (HGs.out.block b HK29.out.rd.lt (fun e => by injection e with e; exact hqb e.symm))).trans h.1, (World.cell?_of_block (HGs.out.block b HK29.out.rd.lt (fun e => by injection e with e; exact hqb e.symm))).trans h.2⟩) ?_
            clear hK K
            refine wpAnyJ_pure (i := 10) (v := ?_) rfl (by kernel_rfl) (by kernel_rfl) (by kernel_rfl) (fun _ _ _ h => h) (Or.inl ⟨by rfl, ?_⟩) ?_
            rotate_left
            · intro wq _
              go_simp
              try with_reducible rfl
            simp only [Act.put, List.setIfInBounds_toArray, List.set_cons_zero, List.set_cons_succ]
            refine wpAnyJ_pure (i := 11) (v := ?_) rfl (by kernel_rfl) (by kernel_rfl) (by kernel_rfl) (fun _ _ _ h => h) (Or.inl ⟨by rfl, ?_⟩) ?_
            rotate_left
            · intro wq _
              go_simp
              try with_reducible rfl
            simp only [Act.put, List.setIfInBounds_toArray, List.set_cons_zero, List.set_cons_succ]
            refine wpAnyJ_done (by kernel_rfl) ?_ _
            go_wp2
            refine ret_box3 2 3 4 24 rfl w.heap.size zeroCs.toList _ (.int .i64 pos) (.int .i64 err) rfl rfl rfl HRs.out Tryd.underlying24 rfl (by kernel_rfl) rfl ?_
            refine ⟨HBx.out.drew.grown HGs.out (by show w.heap.size ≤ wc.heap.size; omega) (fun k hk => by injection hk with hk; omega), none, 0, by rw [HPL.out]; rfl, by rw [HPL.out]; exact okZero _, by simp [slBlk], by rw [HPL.out]; exact Nat.le_refl _⟩
end Go.Proofs.YtnaejabgkfhlbaaDoor
