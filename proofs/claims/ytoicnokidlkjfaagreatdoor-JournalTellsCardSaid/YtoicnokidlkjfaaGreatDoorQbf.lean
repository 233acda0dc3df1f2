/- Contracts and plain laws, joined: JrB, JrC, JrD, JrE, JrF. -/
import Derived.Test.YtoicnokidlkjfaaGreatDoorQbb
import Derived.Test.YtoicnokidlkjfaaGreatDoorQbe
import Derived.Test.YtoicnokidlkjfaaGreatDoorQau
import Derived.Test.YtoicnokidlkjfaaGreatDoorQae
import Derived.Test.YtoicnokidlkjfaaGreatDoorQad
import Derived.Deep.CutBlock
/- The reference's disk and journal as objects; contracts of linguaref03.Open, Append, Sync. -/
namespace Go.Proofs.YtoicnokidlkjfaaGreatDoor
open Go.RowKit
set_option maxRecDepth 100000

/-- The reference's disk at p, S, that lies at L. -/
def rOb (p : Nat) (S : DS) (L : RL) : Ob where
  own := L.own p
  see i := slBlk L.kA = some i
  ok w := RK w p S L
  lt w h i hi := hi.elim (h.lt i) (h.kl i)
  frame w w' h hb hs := h.turn hb hs
theorem RUpd.ob {p : Nat} {S S' : DS} {L : RL} {w w' : World} (u : RUpd p S' L w w') : ∃ L', OUpd (rOb p S L) (rOb p S' L') w w' := by
  obtain ⟨L', d, t, o, k⟩ := u
  exact ⟨L', d, t, o, k⟩
def rjBox (p : Nat) (J : JS) (L : JL) : Array Value := #[.pointer (some ⟨p, 0, none⟩), .int .i64 J.file, .slice L.A J.recs.length L.c, .bool J.bad]
structure RJK (w : World) (q p : Nat) (J : JS) (L : JL) : Prop where
  box : w.heap[q]? = some (.cells (rjBox p J L) 49 (0, 0))
  recs : OwnL w 0 9 1 strE L.A L.c J.recs
  qa : ∀ i, slBlk L.A = some i → i ≠ q
/-- The reference's journal at q over the disk at p. -/
def rjOb (q p : Nat) (J : JS) (L : JL) : Ob where
  own i := i = q ∨ slBlk L.A = some i
  see _ := False
  ok w := RJK w q p J L
  lt w h i hi := by
    rcases hi with (rfl | hi) | hi
    · exact box_lt h.box
    · exact (h.recs.blk_lt hi).2
    · exact hi.elim
  frame w w' h hb hs := ⟨(hb q (.inl (.inl rfl))).trans h.box, h.recs.turn (fun i hi _ => hb i (.inl (.inr hi))), h.qa⟩
def IsRJ (p : Nat) (v : Value) (X : Ob) : Option JS → Prop
  | none => v = .pointer none ∧ X = Ob.nil
  | some J => ∃ q M, v = .pointer (some ⟨q, 0, none⟩) ∧ X = rjOb q p J M
def ROpenPost (p : Nat) (S : DS) (L : RL) (f : Int) (w : World) (e : Ending) (w' : World) : Prop :=
  ∃ L' X v, e = .returned (.tuple #[v, .int .i64 (openC S f)]) ∧ OUpd (rOb p S L) ((rOb p (openS S f) L').sep X) w w' ∧ IsRJ p v X (openO S f)
section
variable {w w' : World} {q p : Nat} {J : JS} {L : JL}
theorem RJK.c0 (h : RJK w q p J L) : w.cell? ⟨q, 0, none⟩ = some (.pointer (some ⟨p, 0, none⟩)) := box_cell h.box 0 _ rfl
theorem RJK.c1 (h : RJK w q p J L) : w.cell? ⟨q, 1, none⟩ = some (.int .i64 J.file) := box_cell h.box 1 _ rfl
theorem RJK.c2 (h : RJK w q p J L) : w.cell? ⟨q, 2, none⟩ = some (.slice L.A J.recs.length L.c) := box_cell h.box 2 _ rfl
theorem RJK.c3 (h : RJK w q p J L) : w.cell? ⟨q, 3, none⟩ = some (.bool J.bad) := box_cell h.box 3 _ rfl
theorem RJK.free (h : RJK w q p J L) (j : Nat) : w.frozen? ⟨q, j, none⟩ = false := box_free h.box j
theorem RJK.mark (h : RJK w q p J L) (b : Bool) : OUpd (rjOb q p J L) (rjOb q p { J with bad := b } L) w (w.setCell ⟨q, 3, none⟩ (.bool b)) :=
  ⟨⟨heap_setCell_same w q 3 _ _ _ h.box, h.recs.turn (fun i hi _ => heap_setCell_other w ⟨q, 3, none⟩ i _ (h.qa i hi)), h.qa⟩, (Turn.refl _ _).set q 3 _ (.inl (.inl rfl)), fun i hi => .inl hi, fun i hi => .inl hi⟩
/-- One more record, in a list of its own. -/
theorem RJK.add {w5 : World} (h : RJK w q p J L) (s : List UInt8) {A2 : Option Addr} {c2 : Nat} (hb : Below w.heap.size w w5) (hown : OwnL w5 w.heap.size 9 1 strE A2 c2 (J.recs ++ [s])) {k : Nat} (hk : k = (J.recs ++ [s]).length) :
    OUpd (rjOb q p J L) (rjOb q p { J with recs := J.recs ++ [s] } ⟨A2, c2⟩) w (w5.setCell ⟨q, 2, none⟩ (.slice A2 k c2)) := by
  subst hk
  have hq := box_lt h.box
  have hA : ∀ i, slBlk A2 = some i → w.heap.size ≤ i := fun i hi => (hown.blk_lt hi).1
  have hA2 : ∀ i, slBlk A2 = some i → i ≠ q := fun i hi e => by have := hA i hi; omega
  have hbox : w5.heap[q]? = some (.cells (rjBox p J L) 49 (0, 0)) := (hb.block q hq).trans h.box
  have hb2 := heap_setCell_same w5 q 2 _ _ (.slice A2 (J.recs ++ [s]).length c2) hbox
  refine ⟨⟨hb2, (hown.mono (Nat.zero_le _)).turn (fun i hi _ => heap_setCell_other _ ⟨q, 2, none⟩ i _ (hA2 i hi)), hA2⟩, (Turn.below hb).set q 2 _ (.inl (.inl rfl)), fun i hi => ?_, fun i hi => .inl hi⟩
  rcases hi with hi | hi
  · exact .inl (.inl hi)
  · exact .inr (hA i hi)
def rBoth (p q : Nat) (S : DS) (L : RL) (J : JS) (M : JL) : Ob := (rOb p S L).sep (rjOb q p J M)
end
section
variable {w w1 w' : World} {q p : Nat} {J J2 : JS} {L : JL} {S S2 : DS} {D : RL}
theorem rBoth.j (h : (rBoth p q S D J L).ok w) : RJK w q p J L := h.1.2
theorem rBoth.d (h : (rBoth p q S D J L).ok w) : RK w p S D := h.1.1
theorem rBoth.disk (h : (rBoth p q S D J L).ok w) (u : RUpd p S2 D w w') : ∃ D2, OUpd (rBoth p q S D J L) (rBoth p q S2 D2 J L) w w' := by
  obtain ⟨D2, v⟩ := u.ob (S := S)
  exact ⟨D2, OUpd.left h v⟩
theorem rBoth.jour {L2 : JL} (h : (rBoth p q S D J L).ok w) (u : OUpd (rjOb q p J L) (rjOb q p J2 L2) w w') : OUpd (rBoth p q S D J L) (rBoth p q S D J2 L2) w w' := OUpd.right h u
def RJUpd (p q : Nat) (S : DS) (D : RL) (J : JS) (L : JL) (S2 : DS) (J2 : JS) (w w' : World) : Prop := ∃ D2 L2, OUpd (rBoth p q S D J L) (rBoth p q S2 D2 J2 L2) w w'
theorem RJUpd.same (h : (rBoth p q S D J L).ok w) (hb : Below w.heap.size w w') : RJUpd p q S D J L S J w w' := ⟨D, L, OUpd.of_below h hb⟩
end
set_option maxHeartbeats 4000000 in
theorem sSync_any (p q : Nat) (S : DS) (D : RL) (J : JS) (L : JL) (w : World) (hk : S.keep.length ≤ 4194320) (h : (rBoth p q S D J L).ok w) :
    Calls Tryz.prog 15 #[.pointer (some ⟨q, 0, none⟩)] w fun e w' => e = .returned (.int .i64 (synC S J)) ∧ RJUpd p q S D J L (synS S J) (synJ S J) w w' := by
  have H := Lib.hid h
  have c0 := (rBoth.j h).c0
  have c1 := (rBoth.j h).c1
  have c3 := (rBoth.j h).c3
  cases hb : J.bad with
  | true =>
    have HQ : Hid (synC S J = 7 ∧ RJUpd p q S D J L (synS S J) (synJ S J) w w) := Lib.hid ⟨by unfold synC; rw [hb]; rfl, by unfold synS synJ; rw [hb]; exact RJUpd.same h (Below.refl _ _)⟩
    rw [hb] at c3
    clear h hb
    go_enter Tryz.func15, Tryz.ntmps15
    go_wp2_with fail
    go_ret
    exact ⟨by rw [HQ.out.1]; rfl, HQ.out.2⟩
  | false =>
    have HE : Hid (synC S J = S.syncC J.file ∧ synS S J = S.sync J.file ∧ synJ S J = { J with bad := S.syncC J.file != 0 }) := Lib.hid (by unfold synC synS synJ; rw [hb]; exact ⟨rfl, rfl, rfl⟩)
    rw [hb] at c3
    clear h hb
    go_enter Tryz.func15, Tryz.ntmps15
    go_wp2_with fail
    go_still_tail 8, (by kernel_rfl)
    change wpList _ _ _ _ _ w.drew
    have HD := Lib.hid (Below.drew (Below.refl w.heap.size w))
    have H1 := Lib.hid (Ob.below H.out HD.out)
    clear c0 c1 c3
    generalize w.drew = wd at *
    go_wp2_with fail
    refine (rSync_any p S D _ J.file hk (rBoth.d H1.out)).mono ?_
    rintro e w1 ⟨rfl, hu⟩
    obtain ⟨D1, u0⟩ := rBoth.disk H1.out hu
    have u1 := (OUpd.of_below H.out HD.out).trans u0
    have HU := Lib.hid u1
    have cz := (rBoth.j u1.ok).free
    have d4 := (rBoth.j u1.ok).c3
    clear hu u1 u0
    go_wp2_with fail
    go_ret
    refine ⟨by rw [HE.out.1]; rfl, D1, L, ?_⟩
    rw [HE.out.2.1, HE.out.2.2]
    exact HU.out.trans (rBoth.jour HU.out.ok ((rBoth.j HU.out.ok).mark _))
end Go.Proofs.YtoicnokidlkjfaaGreatDoor
/- Contract of linguaref03's Append. -/
namespace Go.Proofs.YtoicnokidlkjfaaGreatDoor
open Go.RowKit
set_option maxRecDepth 100000
set_option maxHeartbeats 4000000 in
theorem sAppend_any (p q : Nat) (S : DS) (D : RL) (J : JS) (L : JL) (s : List UInt8) (w : World) (hs : s.length ≤ 1000000) (ha : J.at_ ≤ 100000000) (hf : inI64 J.file) (hk : S.keep.length ≤ 4194320) (h : (rBoth p q S D J L).ok w) :
    Calls Tryz.prog 13 #[.pointer (some ⟨q, 0, none⟩), .string (bs s)] w fun e w' => e = .returned (.int .i64 (appC S J s)) ∧ RJUpd p q S D J L (appS S J s) (appJ S J s) w w' := by
  have H := Lib.hid h
  have HF := Lib.hid hf
  have hsz : (bs s).size = s.length := bs_size s
  have hfl := formF_len s (by omega)
  have c2 := (rBoth.j h).c2
  have c3 := (rBoth.j h).c3
  have HX : Hid (∀ t ∈ J.recs, t.length ≤ 1000000000) := Lib.hid (fun t ht => by
    have h1 := formF_ge t
    obtain ⟨a, b, e⟩ := List.append_of_mem ht
    have h2 : (formsF J.recs).length = (formsF a).length + ((formF t).length + (formsF b).length) := by rw [e]; simp [formsF]
    have h3 : (formsF J.recs).length ≤ 100000000 := ha
    omega)
  clear h hf
  go_enter Tryz.func13, Tryz.ntmps13
  cases hb : J.bad with
  | true =>
    have hp : J.pre s = 7 := by unfold JS.pre; rw [hb]; rfl
    have HQ := Lib.hid (appS_pre (S := S) hp (by decide))
    rw [hb] at c3
    clear hb hp
    go_wp2_with fail
    go_ret
    exact ⟨by rw [HQ.out.1]; rfl, by rw [HQ.out.2.1, HQ.out.2.2]; exact RJUpd.same H.out (Below.refl _ _)⟩
  | false =>
    rw [hb] at c3
    by_cases g1 : 20000 < s.length
    · have hp : J.pre s = 3 := by unfold JS.pre; rw [hb, if_neg (by decide), if_pos g1]
      have HQ := Lib.hid (appS_pre (S := S) hp (by decide))
      have d1 : decide (20000 < s.length) = true := by simpa using g1
      have d1' : decide ((20000 : Int) < s.length) = true := by simp; omega
      clear hb hp g1
      go_wp2_with fail
      go_ret
      exact ⟨by rw [HQ.out.1]; rfl, by rw [HQ.out.2.1, HQ.out.2.2]; exact RJUpd.same H.out (Below.refl _ _)⟩
    have d1 : decide (20000 < s.length) = false := by simpa using g1
    have d1' : decide ((20000 : Int) < s.length) = false := by simp; omega
    have hrl : J.recs.length ≤ J.at_ := enc_len formF formF_pos J.recs
    go_wp2_with fail
    refine (sForms_any J.recs L.A L.c w ((rBoth.j H.out).recs.rd strLayJ) HX.out (by omega) (show J.at_ ≤ _ by omega)).mono ?_
    rintro e w1 ⟨rfl, hb1⟩
    have HB1 := Lib.hid hb1
    clear hb1
    have hfs0 : (bs (formsF J.recs)).size = J.at_ := bs_size _
    go_wp2_with fail
    refine (sForm_any s w1 (by omega)).mono ?_
    rintro e w2 ⟨rfl, hb2⟩
    have HB2 := Lib.hid (HB1.out.trans (hb2.mono HB1.out.size))
    have H2 := Lib.hid (Ob.below H.out HB2.out)
    clear hb2
    have hfs : (bs (formF s)).size = (formF s).length := bs_size _
    have HFm := Lib.hid (fun wq => sForm_any s wq (by omega))
    generalize hft : formF s = ft at *
    have HFt := Lib.hid hft
    clear hft c2 c3
    by_cases g2 : 1048576 < J.at_ + ft.length
    · have hp : J.pre s = 6 := by unfold JS.pre; rw [hb, if_neg (by decide), if_neg g1, HFt.out, if_pos g2]
      have HQ := Lib.hid (appS_pre (S := S) hp (by decide))
      have d2 : decide (1048576 < J.at_ + ft.length) = true := by simpa using g2
      have d2' : decide ((1048576 : Int) < (J.at_ : Int) + ft.length) = true := by simp; omega
      clear hb hp g1 g2
      go_wp2_with fail
      go_ret
      exact ⟨by rw [HQ.out.1]; rfl, by rw [HQ.out.2.1, HQ.out.2.2]; exact RJUpd.same H.out HB2.out⟩
    have d2 : decide (1048576 < J.at_ + ft.length) = false := by simpa using g2
    have d2' : decide ((1048576 : Int) < (J.at_ : Int) + ft.length) = false := by simp; omega
    have hp : J.pre s = 0 := by unfold JS.pre; rw [hb, if_neg (by decide), if_neg g1, HFt.out, if_neg g2]
    have HQ := Lib.hid (appS_rec (S := S) hp)
    have HG : Hid (J.at_ + ft.length ≤ 1048576) := Lib.hid (by omega)
    have hat : inI64 (J.at_ : Int) := by unfold inI64; omega
    rw [HFt.out] at HQ
    clear hb hp g1 g2
    have c0 := (rBoth.j H2.out).c0
    have c1 := (rBoth.j H2.out).c1
    have hq := box_lt (rBoth.j H2.out).box
    go_wp2_with fail
    refine wp_region_J (S := fun w' => w'.cell? ⟨q, 0, none⟩ = some (.pointer (some ⟨p, 0, none⟩)) ∧ w'.cell? ⟨q, 1, none⟩ = some (.int .i64 J.file)) (fun i => [11].contains i) (by kernel_rfl) (⟨c0, c1⟩) (fun hHeld => ?_)
    clear c0 c1
    refine wpAnyJ_pure (i := 0) (v := ?_) rfl (by kernel_rfl) (by kernel_rfl) (by kernel_rfl) (fun _ _ _ h => h) (Or.inl ⟨by rfl, ?_⟩) ?_
    rotate_left
    · intro wq _
      go_simp
      try with_reducible rfl
    simp only [Act.put, List.setIfInBounds_toArray, List.set_cons_zero, List.set_cons_succ]
    refine wpAnyJ_pure (i := 1) (v := ?_) rfl (by kernel_rfl) (by kernel_rfl) (by kernel_rfl) (fun _ _ _ h => h) (Or.inl ⟨by rfl, ?_⟩) ?_
    rotate_left
    · intro wq _
      go_simp
      try with_reducible rfl
    simp only [Act.put, List.setIfInBounds_toArray, List.set_cons_zero, List.set_cons_succ]
    refine wpAnyJ_pure (i := 2) (v := ?_) rfl (by kernel_rfl) (by kernel_rfl) (by kernel_rfl) (fun _ _ _ h => h) (Or.inl ⟨by rfl, ?_⟩) ?_
    rotate_left
    · intro wq _
      go_simp
      try with_reducible rfl
    simp only [Act.put, List.setIfInBounds_toArray, List.set_cons_zero, List.set_cons_succ]
    refine wpAnyJ_take (i := 3) (v := ?_) rfl (by kernel_rfl) (by kernel_rfl) (by kernel_rfl) (by kernel_rfl) (fun _ _ _ h => h) (Or.inl ⟨by rfl, ?_⟩) hHeld ?_
    rotate_left
    · intro wq hSq
      obtain ⟨h2, h3⟩ := hSq
      go_simp
      try with_reducible rfl
    simp only [Act.put, List.setIfInBounds_toArray, List.set_cons_zero, List.set_cons_succ]
    refine wpAnyJ_pure (i := 4) (v := ?_) rfl (by kernel_rfl) (by kernel_rfl) (by kernel_rfl) (fun _ _ _ h => h) (Or.inl ⟨by rfl, ?_⟩) ?_
    rotate_left
    · intro wq _
      go_simp
      try with_reducible rfl
    simp only [Act.put, List.setIfInBounds_toArray, List.set_cons_zero, List.set_cons_succ]
    refine wpAnyJ_pure (i := 5) (v := ?_) rfl (by kernel_rfl) (by kernel_rfl) (by kernel_rfl) (fun _ _ _ h => h) (Or.inl ⟨by rfl, ?_⟩) ?_
    rotate_left
    · intro wq _
      go_simp
      try with_reducible rfl
    simp only [Act.put, List.setIfInBounds_toArray, List.set_cons_zero, List.set_cons_succ]
    refine wpAnyJ_pure (i := 6) (v := ?_) rfl (by kernel_rfl) (by kernel_rfl) (by kernel_rfl) (fun _ _ _ h => h) (Or.inl ⟨by rfl, ?_⟩) ?_
    rotate_left
    · intro wq _
      go_simp
      try with_reducible rfl
    simp only [Act.put, List.setIfInBounds_toArray, List.set_cons_zero, List.set_cons_succ]
    refine wpAnyJ_take (i := 7) (v := ?_) rfl (by kernel_rfl) (by kernel_rfl) (by kernel_rfl) (by kernel_rfl) (fun _ _ _ h => h) (Or.inl ⟨by rfl, ?_⟩) hHeld ?_
    rotate_left
    · intro wq hSq
      obtain ⟨h2, h3⟩ := hSq
      go_simp
      try with_reducible rfl
    simp only [Act.put, List.setIfInBounds_toArray, List.set_cons_zero, List.set_cons_succ]
    refine wpAnyJ_pure (i := 8) (v := ?_) rfl (by kernel_rfl) (by kernel_rfl) (by kernel_rfl) (fun _ _ _ h => h) (Or.inl ⟨by rfl, ?_⟩) ?_
    rotate_left
    · intro wq _
      go_simp
      try with_reducible rfl
    simp only [Act.put, List.setIfInBounds_toArray, List.set_cons_zero, List.set_cons_succ]
    refine wpAnyJ_pure (i := 9) (v := ?_) rfl (by kernel_rfl) (by kernel_rfl) (by kernel_rfl) (fun _ _ _ h => h) (Or.inl ⟨by rfl, ?_⟩) ?_
    rotate_left
    · intro wq _
      go_simp
      try with_reducible rfl
    simp only [Act.put, List.setIfInBounds_toArray, List.set_cons_zero, List.set_cons_succ]
    refine wpAnyJ_one (i := 10) rfl (by kernel_rfl) (fun K hK => ?_)
    go_simp
    refine (HFm.out _).mono ?_
    rintro e w3 ⟨rfl, hb3⟩
    have HB3 : Hid (Below w2.heap.size w2 w3) := Lib.hid (Below.trans (Below.refl _ _).drew hb3)
    go_wp2_with fail
    refine hK.out _ _ (fun _ h => ⟨(HB3.out.cell (p := ⟨q, 0, none⟩) hq).trans h.1, (HB3.out.cell (p := ⟨q, 1, none⟩) hq).trans h.2⟩) ?_
    clear hK K
    clear hb3
    have H3 := Lib.hid (Ob.below H2.out HB3.out)
    refine wpAnyJ_one (i := 11) rfl (by kernel_rfl) (fun K hK => ?_)
    go_simp
    refine (rWrite_any p S D w3 J.file J.at_ (bs ft) hat (by omega) hk (rBoth.d H3.out)).mono ?_
    rintro e w4 ⟨rfl, hu⟩
    obtain ⟨D1, u0⟩ := rBoth.disk H3.out hu
    have HU : Hid (OUpd (rBoth p q S D J L) (rBoth p q (S.write J.file J.at_ (bs ft)) D1 J L) w w4) := Lib.hid ((OUpd.of_below H.out (HB2.out.trans (HB3.out.mono HB2.out.size))).trans u0)
    go_wp2_with fail
    refine hK.out _ _ (fun h => nomatch h) ?_
    clear hK K
    refine wpAnyJ_pure (i := 12) (v := ?_) rfl (by kernel_rfl) (by kernel_rfl) (by kernel_rfl) (fun _ _ _ h => h) (Or.inl ⟨by rfl, ?_⟩) ?_
    rotate_left
    · intro wq _
      go_simp
      try with_reducible rfl
    simp only [Act.put, List.setIfInBounds_toArray, List.set_cons_zero, List.set_cons_succ]
    refine wpAnyJ_done (by kernel_rfl) ?_ _
    have cz := (rBoth.j HU.out.ok).free
    have c2 := (rBoth.j HU.out.ok).c2
    have c3 := (rBoth.j HU.out.ok).c3
    clear hu u0 hHeld
    by_cases g3 : S.writeC J.file J.at_ (bs ft) = 0
    rotate_left
    · have d3 : (S.writeC J.file J.at_ (bs ft) != 0) = true := by simpa using g3
      have HE := Lib.hid (HQ.out.2.2.1 g3)
      clear g3
      go_wp2_with fail
      go_ret
      refine ⟨by rw [HQ.out.1]; rfl, D1, L, ?_⟩
      rw [HQ.out.2.1, HE.out]
      exact HU.out.trans (rBoth.jour HU.out.ok ((rBoth.j HU.out.ok).mark _))
    have d3 : (S.writeC J.file J.at_ (bs ft) != 0) = false := by simpa using g3
    have HE := Lib.hid (HQ.out.2.2.2 g3)
    have HG3 := Lib.hid g3
    have HJ4 := Lib.hid (rBoth.j HU.out.ok)
    have HBa := Lib.hid ((Below.refl w4.heap.size w4).alloc (Nat.le_refl _) (.cells #[] 9))
    have HRa := Lib.hid ((HJ4.out.recs.rd strLayJ).now HBa.out)
    have HOa : Hid (OwnL (w4.alloc (.cells #[] 9)) w4.heap.size 9 1 strE (some ⟨w4.heap.size, 0, none⟩) 0 ([] : List (List UInt8))) := Lib.hid (OwnL.empty w4 9 w4.heap.size (Nat.le_refl _) _ rfl)
    have hat1 : J.at_ ≤ 1048576 := by have := HG.out; omega
    have hq4 := box_lt HJ4.out.box
    clear g3
    go_wp2_with (first
      | ((with_reducible show wpList _ _ _ (Oper.mk (some 50) _ _ _ _ _ :: _) _ _); refine wp_append_l rfl (.tmp 45) (.tmp 49) rfl slStrJ strLayJ w4.heap.size (xs := []) (ys := J.recs) rfl rfl HOa.out rfl rfl HRa.out (by simp; omega) (by simp) ?_; intro A2 k2 w5 ho5 hg5 hb5 hat5; have HO5 := Lib.hid (show OwnL w5 w4.heap.size 9 1 strE A2 k2 J.recs from ho5); have HB5 := Lib.hid (HBa.out.trans hb5); clear ho5 hg5 hb5 hat5)
      | ((with_reducible show wpList _ _ _ (Oper.mk (some 53) _ _ _ _ _ :: _) _ _); refine wp_append_l rfl (.tmp 50) (.tmp 52) rfl slStrJ strLayJ w4.heap.size (xs := J.recs) (ys := [s]) rfl rfl (HO5.out.alloc _) rfl rfl (RdL.one w5 s _ _ rfl _ rfl) (by simp; omega) (by have := HB5.out.size; simp; omega) ?_; intro A3 k3 w6 ho6 hg6 hb6 hat6; have HO6 := Lib.hid ho6; have HB6 := Lib.hid ((HB5.out.alloc HB5.out.size _).trans hb6); have e2 := (HB6.out.cell (p := ⟨q, 2, none⟩) hq4).trans c2; have ez := (HB6.out.frozen (p := ⟨q, 2, none⟩) hq4).trans (cz 2); clear ho6 hg6 hb6 hat6)
      | fail)
    have HFin := Lib.hid (HJ4.out.add s HB6.out HO6.out (k := J.recs.length + 1) (by simp))
    go_ret
    refine ⟨by rw [HQ.out.1, HG3.out]; rfl, D1, ⟨A3, k3⟩, ?_⟩
    rw [HQ.out.2.1, HE.out]
    exact HU.out.trans (rBoth.jour HU.out.ok HFin.out)
end Go.Proofs.YtoicnokidlkjfaaGreatDoor
/- Contract of linguaref03.Open. -/
namespace Go.Proofs.YtoicnokidlkjfaaGreatDoor
open Go.RowKit
set_option maxRecDepth 100000
theorem OUpd.with_nil2 {a b : Ob} {w w' : World} (u : OUpd a b w w') : OUpd a (b.sep Ob.nil) w w' := u.with_nil
set_option maxHeartbeats 4000000 in
theorem sOpen_any (p : Nat) (S : DS) (L : RL) (f : Int) (w : World) (hf : inI64 f) (hk : S.keep.length ≤ 4194320) (h : RK w p S L) :
    Calls Tryz.prog 9 #[.pointer (some ⟨p, 0, none⟩), .int .i64 f] w (ROpenPost p S L f w) := by
  have H := Lib.hid h
  have HF := Lib.hid hf
  clear h
  go_enter Tryz.func9, Tryz.ntmps9
  by_cases g1 : f < 0 ∨ 15 < f
  · have hc : openC S f = 1 := by unfold openC; rw [if_pos g1]
    have hs : openS S f = S := by unfold openS; rw [if_pos g1]
    have ho : openO S f = none := by unfold openO; rw [hc]; rfl
    have HQ : Hid (ROpenPost p S L f w (.returned (.tuple #[.pointer none, .int .i64 1])) w) := Lib.hid ⟨L, Ob.nil, .pointer none, by rw [hc], by rw [hs]; exact (OUpd.refl (a := rOb p S L) H.out).with_nil, by rw [ho]; exact ⟨rfl, rfl⟩⟩
    clear hc hs ho
    by_cases g2 : f < 0
    · have d1 : decide (f < 0) = true := by simpa using g2
      clear g1 g2
      go_wp2_with fail
      go_ret2
      exact HQ.out
    · have d1 : decide (f < 0) = false := by simpa using g2
      have d2 : decide (15 < f) = true := by simp; omega
      clear g1 g2
      go_wp2_with fail
      go_ret2
      exact HQ.out
  have hf16 : 0 ≤ f ∧ f < 16 := by omega
  have d1 : decide (f < 0) = false := by simp; omega
  have d2 : decide (15 < f) = false := by simp; omega
  have HC : Hid (openC S f = if S.syncC f ≠ 0 then S.syncC f else if (formsF (recs ((S.sync f).now f))).length < ((S.sync f).now f).length then (S.sync f).truncC f (formsF (recs ((S.sync f).now f))).length else 0) := Lib.hid (by unfold openC; rw [if_neg g1])
  have HS : Hid (openS S f = if S.syncC f ≠ 0 then S.sync f else if (formsF (recs ((S.sync f).now f))).length < ((S.sync f).now f).length then (S.sync f).trunc f (formsF (recs ((S.sync f).now f))).length else S.sync f) := Lib.hid (by unfold openS; rw [if_neg g1])
  have HG := Lib.hid hf16
  clear g1
  go_wp2_with fail
  refine (rSync_any p S L w f hk H.out).mono ?_
  rintro e w1 ⟨rfl, hu⟩
  obtain ⟨L1, u1⟩ := hu.ob (S := S)
  have HU1 := Lib.hid u1
  clear hu u1
  by_cases g2 : S.syncC f = 0
  rotate_left
  · have d3 : (S.syncC f != 0) = true := by simpa using g2
    have hc : openC S f = S.syncC f := by rw [HC.out, if_pos g2]
    have hs : openS S f = S.sync f := by rw [HS.out, if_pos g2]
    have ho : openO S f = none := by unfold openO; rw [if_neg (by rw [hc]; exact g2)]
    have HQ : Hid (ROpenPost p S L f w (.returned (.tuple #[.pointer none, .int .i64 (S.syncC f)])) w1) := Lib.hid ⟨L1, Ob.nil, .pointer none, by rw [hc], by rw [hs]; exact HU1.out.with_nil, by rw [ho]; exact ⟨rfl, rfl⟩⟩
    clear hc hs ho g2
    go_wp2_with fail
    go_ret2
    exact HQ.out
  rw [if_neg (by simpa using g2)] at HC HS
  rw [g2]
  have HSy := Lib.hid (syncC_ok g2)
  have hdn : (S.sync f).down = false := by
    rw [HSy.out.2.2.2.2]
    exact (tick_same S).2.2.1.trans HSy.out.1
  have HRw := Lib.hid (readS_whole (S := S.sync f) HG.out.1 HG.out.2 hdn)
  have HSk : Hid ((S.sync f).keep = S.keep) := Lib.hid (by rw [HSy.out.2.2.2.2]; exact DS.tick_keep S)
  have HWf := Lib.hid ((show RK w1 p (S.sync f) L1 from HU1.out.ok).wf)
  have HD1 := Lib.hid (show RK w1 p (S.sync f) L1 from HU1.out.ok)
  clear HSy
  clear g2 hdn
  generalize hT : S.sync f = T at *
  have HJ : Hid (openJ S f = ⟨f, recs (T.now f), false⟩) := Lib.hid (by unfold openJ; rw [hT])
  clear hT
  go_wp2_with fail
  refine (rSize_any p T L1 w1 f HD1.out).mono ?_
  rintro e w2 ⟨rfl, hb2⟩
  have HU2 := Lib.hid (HU1.out.below hb2)
  have HD2 := Lib.hid (show RK w2 p T L1 from HU2.out.ok)
  have hwf := HWf.out.now f
  clear hb2 HU1 HD1
  go_wp2_with fail
  refine (rRead_any p T L1 w2 f 0 _ HD2.out (by unfold inI64; omega) (by unfold inI64; omega)).mono ?_
  rintro e w3 ⟨rfl, hb3⟩
  have HU3 := Lib.hid (HU2.out.below hb3)
  clear hb3 HU2 HD2
  rw [HRw.out.1, HRw.out.2]
  have hnl : (T.now f).length ≤ 16777216 := by
    have h1 := HWf.out.now f
    have h2 := dlen (T.files f).1
    show (T.files f).1.data.toList.length ≤ _
    omega
  have HPr := Lib.hid (recs_prefix (T.now f)).length_le
  have HSm := Lib.hid (recs_small (T.now f))
  clear HRw
  generalize hs : T.now f = s at *
  clear hs
  have hsz : (bs s).size = s.length := bs_size s
  go_wp2_with fail
  refine (sRecords_any s w3 (by omega)).mono ?_
  rintro e w4 ⟨A, c, rfl, ho, hb4⟩
  have HU4 : Hid (OUpd (rOb p S L) ((rOb p T L1).sep (slOb A c (recs s))) w w4) := Lib.hid (HU3.out.trans (OUpd.more HU3.out.ok hb4 (c := slOb A c (recs s)) (ho.mono (Nat.zero_le _)) (fun i hi => (ho.blk_lt hi).1) (fun _ h => h.elim)))
  clear ho hb4 HU3
  have hpl := HPr.out
  have hrl := enc_len formF formF_pos (recs s)
  have HFm : Hid (formsF (recs s) = (recs s).flatMap formF) := Lib.hid rfl
  generalize recs s = rs at *
  rw [← HFm.out] at hrl
  go_wp2_with fail
  have HU5 : Hid (OUpd (rOb p S L) ((rOb p T L1).sep (rjOb w4.heap.size p ⟨f, rs, false⟩ ⟨A, c⟩)) w (w4.alloc (.cells #[.pointer (some ⟨p, 0, none⟩), .int .i64 f, .slice A rs.length c, .bool false] 49))) := Lib.hid (by
    refine HU4.out.boxed _ ⟨heap_alloc_new _ _, (show OwnL w4 0 9 1 strE A c rs from HU4.out.ok.1.2).alloc _, fun i hi e => ?_⟩ (fun i hi => hi) (fun _ h => h)
    have := ((show OwnL w4 0 9 1 strE A c rs from HU4.out.ok.1.2).blk_lt hi).2
    omega)
  clear HU4
  generalize w4.heap.size = q at *
  generalize w4.alloc (.cells #[.pointer (some ⟨p, 0, none⟩), .int .i64 f, .slice A rs.length c, .bool false] 49) = w5 at *
  have HJ5 := Lib.hid (show RJK w5 q p ⟨f, rs, false⟩ ⟨A, c⟩ from HU5.out.ok.1.2)
  refine (sForms_any rs A c w5 (HJ5.out.recs.rd strLayJ) (fun t ht => by have := HSm.out t ht; omega) (by omega) (by omega)).mono ?_
  rintro e w6 ⟨rfl, hb6⟩
  have HU6 := Lib.hid (HU5.out.below hb6)
  clear hb6 HU5 HJ5
  have hfs : (bs (formsF rs)).size = (formsF rs).length := bs_size _
  generalize formsF rs = F at *
  by_cases g3 : F.length < s.length
  · have HC2 := Lib.hid (HC.out.trans (if_pos g3))
    have HS2 := Lib.hid (HS.out.trans (if_pos g3))
    have d4 : decide (F.length < s.length) = true := by simpa using g3
    clear HC HS
    go_wp2_with fail
    refine (rTrunc_any p T L1 w6 f F.length (by unfold inI64; omega) (by rw [HSk.out]; exact hk) HU6.out.ok.1.1).mono ?_
    rintro e w7 ⟨rfl, hu⟩
    obtain ⟨L7, u7⟩ := hu.ob (S := T)
    have HU7 := Lib.hid (HU6.out.trans (OUpd.left HU6.out.ok u7))
    clear hu u7
    by_cases g4 : T.truncC f F.length = 0
    · have d5 : (T.truncC f F.length != 0) = false := by simpa using g4
      have hc : openC S f = 0 := HC2.out.trans g4
      have HQ : Hid (ROpenPost p S L f w (.returned (.tuple #[.pointer (some ⟨q, 0, none⟩), .int .i64 0])) w7) :=
        Lib.hid ⟨L7, rjOb q p ⟨f, rs, false⟩ ⟨A, c⟩, _, by rw [hc], by rw [HS2.out]; exact HU7.out, by rw [openO, if_pos hc, HJ.out]; exact ⟨_, _, rfl, rfl⟩⟩
      clear hc g4
      go_wp2_with fail
      go_ret2
      exact HQ.out
    · have d5 : (T.truncC f F.length != 0) = true := by simpa using g4
      have HQ : Hid (ROpenPost p S L f w (.returned (.tuple #[.pointer none, .int .i64 (T.truncC f F.length)])) w7) := Lib.hid ⟨L7, Ob.nil, .pointer none, by rw [HC2.out], by rw [HS2.out]; exact HU7.out.forget.with_nil, by rw [openO, if_neg (by rw [HC2.out]; exact g4)]; exact ⟨rfl, rfl⟩⟩
      clear g4
      go_wp2_with fail
      go_ret2
      exact HQ.out
  · have HC2 := Lib.hid (HC.out.trans (if_neg g3))
    have HS2 := Lib.hid (HS.out.trans (if_neg g3))
    have d4 : decide (F.length < s.length) = false := by simpa using g3
    have HQ : Hid (ROpenPost p S L f w (.returned (.tuple #[.pointer (some ⟨q, 0, none⟩), .int .i64 0])) w6) :=
      Lib.hid ⟨L1, rjOb q p ⟨f, rs, false⟩ ⟨A, c⟩, _, by rw [HC2.out], by rw [HS2.out]; exact HU6.out, by rw [openO, if_pos HC2.out, HJ.out]; exact ⟨_, _, rfl, rfl⟩⟩
    clear HC HS
    go_wp2_with fail
    go_ret2
    exact HQ.out
end Go.Proofs.YtoicnokidlkjfaaGreatDoor
/- The walk of JournalTells: states. -/
namespace Go.Proofs.YtoicnokidlkjfaaGreatDoor
open Go.RowKit
set_option maxRecDepth 100000
/-- What the walk knows of a journal. -/
def JFit (J : Option JS) : Prop := ∀ j, J = some j → j.file = 3 ∧ j.at_ ≤ 16777216
theorem JFit.append {S : DS} {j : JS} (h : JFit (some j)) (s : List UInt8) : JFit (some (appJ S j s)) := fun j' e => by
  obtain ⟨h1, h2⟩ := h j rfl
  cases e
  unfold appJ
  split
  · exact ⟨h1, h2⟩
  · rename_i hp
    split
    · exact ⟨h1, h2⟩
    · refine ⟨h1, ?_⟩
      show (formsF (j.recs ++ [s])).length ≤ _
      rw [formsF_snoc, List.length_append]
      have hq : ¬ 1048576 < j.at_ + (formF s).length := fun hlt => by
        unfold JS.pre at hp
        split at hp
        · simp at hp
        · split at hp
          · simp at hp
          · simp at hp
      have e : j.at_ = (formsF j.recs).length := rfl
      omega
theorem JFit.sync {S : DS} {j : JS} (h : JFit (some j)) : JFit (some (synJ S j)) := fun j' e => by
  obtain ⟨h1, h2⟩ := h j rfl
  cases e
  unfold synJ
  split
  · exact ⟨h1, h2⟩
  · exact ⟨h1, h2⟩
theorem JFit.open {S : DS} (h : S.wf) : JFit (openO S 3) := fun j e => by
  unfold openO at e
  split at e
  · cases e
    refine ⟨rfl, ?_⟩
    show (formsF (recs ((S.sync 3).now 3))).length ≤ _
    have h1 := (recs_prefix ((S.sync 3).now 3)).length_le
    have h2 : ((S.sync 3).now 3).length ≤ 16777216 := by
      rw [now_len]
      have hw : (S.sync 3).wf := DS.sync0_wf (DS.come_wf h) 3
      have := hw.now 3
      omega
    omega
  · cases e
/-- Between two operations: the program's disk and journal, and the reference's. -/
structure TellR (w : World) (p q : Nat) (v u : Value) (S : DS) (D : DL) (E : RL) (J : Option JS) (X Y : Ob) (wr : World) : Prop where
  isj : IsJ p v X J
  isr : IsRJ q u Y J
  st : St w (((dOb p S D).sep X).sep ((rOb q S E).sep Y)) wr
  keep : S.keep.length ≤ 50
  fit : JFit J
def tOb (p q : Nat) (S : DS) (D : DL) (S' : DS) (E : RL) (X Y : Ob) : Ob := ((dOb p S D).sep X).sep ((rOb q S' E).sep Y)
section
variable {w wr w' : World} {p q : Nat} {v u : Value} {S S' S2 : DS} {D : DL} {E : RL} {J : Option JS} {X Y : Ob} {b : Nat} {a : OpM}
/-- Objects and the box, in a round. -/
structure TSt (w : World) (O : Ob) (b : Nat) (a : OpM) (wr : World) : Prop where
  st : St w O wr
  box : BoxK O wr b a
theorem TSt.upd {O O2 : Ob} (h : TSt w O b a wr) (t : OUpd O O2 wr w') : TSt w O2 b a w' := ⟨h.st.upd t, h.box.upd t⟩
theorem TSt.on {O : Ob} (h : TSt w O b a wr) (hb : Below wr.heap.size wr w') : TSt w O b a w' := ⟨h.st.on hb, h.box.on hb⟩
theorem TSt.dk (h : TSt w (tOb p q S D S' E X Y) b a wr) : DK wr p S D := h.st.ok.1.1.1.1
theorem TSt.rk (h : TSt w (tOb p q S D S' E X Y) b a wr) : RK wr q S' E := h.st.ok.1.2.1.1
theorem TSt.left (h : TSt w (tOb p q S D S' E X Y) b a wr) (t : Upd p S2 D wr w') : ∃ D2, TSt w (tOb p q S2 D2 S' E X Y) b a w' := by
  obtain ⟨D2, t1⟩ := t.ob (S := S)
  exact ⟨D2, h.upd (OUpd.left h.st.ok (OUpd.left h.st.ok.1.1 t1))⟩
theorem TSt.right (h : TSt w (tOb p q S D S' E X Y) b a wr) (t : RUpd q S2 E wr w') : ∃ E2, TSt w (tOb p q S D S2 E2 X Y) b a w' := by
  obtain ⟨E2, t1⟩ := t.ob (S := S')
  exact ⟨E2, h.upd (OUpd.right h.st.ok (OUpd.left h.st.ok.1.2 t1))⟩
theorem TSt.own (h : TSt w (tOb p q S D S' E X Y) b a wr) : (∀ i, D.own p i → w.heap.size ≤ i) ∧ (∀ i, E.own q i → w.heap.size ≤ i) := ⟨fun i hi => h.st.own i (.inl (.inl hi)), fun i hi => h.st.own i (.inr (.inl hi))⟩
/-- The journals are forgotten. -/
theorem TSt.gone (h : TSt w (tOb p q S D S' E X Y) b a wr) : TSt w (tOb p q S D S' E Ob.nil Ob.nil) b a wr := by
  obtain ⟨⟨⟨⟨hd, hx⟩, _⟩, ⟨⟨hr, hy⟩, _⟩⟩, k1, k2, k3⟩ := h.st.ok
  have hok : (tOb p q S D S' E Ob.nil Ob.nil).ok wr := ⟨⟨⟨⟨hd, trivial⟩, fun _ _ h => h.elim, fun _ _ h => h.elim, fun _ h => h.elim⟩, ⟨⟨hr, trivial⟩, fun _ _ h => h.elim, fun _ _ h => h.elim, fun _ h => h.elim⟩⟩,
    fun i h1 h2 => h1.elim (fun h1 => h2.elim (fun h2 => k1 i (.inl h1) (.inl h2)) (fun h => h.elim)) (fun h => h.elim), fun i h1 h2 => h1.elim (fun h1 => h2.elim (fun h2 => k2 i (.inl h1) (.inl h2)) (fun h => h.elim)) (fun h => h.elim),
    fun i h1 h2 => h1.elim (fun h1 => h2.elim (fun h2 => k3 i (.inl h1) (.inl h2)) (fun h => h.elim)) (fun h => h.elim)⟩
  have hsub : ∀ i, (tOb p q S D S' E Ob.nil Ob.nil).own i → (tOb p q S D S' E X Y).own i := fun i hi => hi.elim (fun h => h.elim (fun h => .inl (.inl h)) (fun h => h.elim)) (fun h => h.elim (fun h => .inr (.inl h)) (fun h => h.elim))
  exact ⟨⟨hok, h.st.bl, fun i hi => h.st.own i (hsub i hi)⟩, h.box.less hsub⟩
/-- The two disks alone. -/
theorem TSt.bare (h : TSt w (tOb p q S D S' E X Y) b a wr) : TSt w ((dOb p S D).sep (rOb q S' E)) b a wr := by
  obtain ⟨⟨⟨⟨hd, _⟩, _⟩, ⟨⟨hr, _⟩, _⟩⟩, k1, k2, k3⟩ := h.st.ok
  have hsub : ∀ i, ((dOb p S D).sep (rOb q S' E)).own i → (tOb p q S D S' E X Y).own i := fun i hi => hi.elim (fun h => .inl (.inl h)) (fun h => .inr (.inl h))
  exact ⟨⟨⟨⟨hd, hr⟩, fun i h1 h2 => k1 i (.inl h1) (.inl h2), fun i h1 h2 => k2 i (.inl h1) (.inl h2), fun i h1 h2 => k3 i (.inl h1) (.inl h2)⟩, h.st.bl, fun i hi => h.st.own i (hsub i hi)⟩, h.box.less hsub⟩
theorem TSt.bl (h : TSt w ((dOb p S D).sep (rOb q S' E)) b a wr) (t : Upd p S2 D wr w') : ∃ D2, TSt w ((dOb p S2 D2).sep (rOb q S' E)) b a w' := by
  obtain ⟨D2, t1⟩ := t.ob (S := S)
  exact ⟨D2, h.upd (OUpd.left h.st.ok t1)⟩
theorem TSt.br (h : TSt w ((dOb p S D).sep (rOb q S' E)) b a wr) (t : RUpd q S2 E wr w') : ∃ E2, TSt w ((dOb p S D).sep (rOb q S2 E2)) b a w' := by
  obtain ⟨E2, t1⟩ := t.ob (S := S')
  exact ⟨E2, h.upd (OUpd.right h.st.ok t1)⟩
end
end Go.Proofs.YtoicnokidlkjfaaGreatDoor
/- The walk of JournalTells. -/
namespace Go.Proofs.YtoicnokidlkjfaaGreatDoor
open Go.RowKit
set_option maxRecDepth 100000

theorem JFit.bound {j : JS} (h : JFit (some j)) : j.recs.length ≤ 16777216 := by
  obtain ⟨_, h2⟩ := h j rfl
  have h1 := enc_len formF formF_pos j.recs
  have e : j.at_ = (j.recs.flatMap formF).length := rfl
  omega
-- tellBoth CC : .. with journals or without (HT5, HKe5 at w5; J, X, Y; HIj, HIr, HFt)
-- tellNone CC : the end of a round without journals (HT, HKe)
-- tellSome CC | j | $3 | M | $5 | N | w : .. with journals (HT at w; HKe, HFt)
-- tellOpen S | D | E | w : start, and open again (HG5, HKe5)
set_option maxHeartbeats 8000000 in
theorem tells_any (l : List OpM) (A : Option Addr) (c : Nat) (w : World) (hV : Vs w.heap.size w)
    (hr : RdL 4 opC w w.heap.size A l) (hl : ∀ a ∈ l, OpOk w a) (hm : l.length ≤ 9223372036854775807) :
    Calls Tryz.prog 3 #[.slice A l.length c] w fun e w' => e = .returned (.bool true) ∧ Below w.heap.size w w' := by
  have HV := Lib.hid hV
  have HR := Lib.hid hr
  have HL := Lib.hid hl
  clear hV hr hl
  go_enter Tryz.func3, Tryz.ntmps3
  go_wp2_with fail
  refine (small_any w HV.out).mono ?_
  rintro e w1 ⟨rfl, hb1⟩
  have HB1 := Lib.hid hb1
  have HF1 := Lib.hid (lFewO_any l A c w1 (HR.out.now hb1) hm (fun a ha => (HL.out a ha).now hb1))
  clear hb1
  cases hf1 : fewO l with
  | false =>
    rw [hf1] at HF1
    go_wp2_with fail
    refine HF1.out.mono ?_
    rintro e wx ⟨rfl, hw⟩
    obtain rfl := hw
    go_wp2_with fail
    go_ret
    exact ⟨rfl, HB1.out⟩
  | true =>
  rw [hf1] at HF1
  have HFew := Lib.hid (fewO_ok hf1)
  have h25 := HFew.out.1
  clear hf1
  go_wp2_with fail
  refine HF1.out.mono ?_
  rintro e wx ⟨rfl, hw⟩
  obtain rfl := hw
  clear HF1
  go_wp2_with fail
  refine (dNew_any w1).mono ?_
  rintro e w2 ⟨rfl, hb2, D0, hd0, ho0, -⟩
  have hz1 := HB1.out.size
  have H0 : Hid (St w (dOb (w1.heap.size + 2) DS.new D0) w2) := Lib.hid ⟨hd0, HB1.out.trans (hb2.mono hz1), fun i hi => Nat.le_trans hz1 (ho0 i hi)⟩
  generalize w1.heap.size + 2 = p at *
  clear hb2 hd0 ho0 HB1 hz1
  go_wp2_with fail
  refine (rNew_any w2).mono ?_
  rintro e w3 ⟨rfl, hb3, E0, he0, hoe0, hke0⟩
  have H1 : Hid (St w ((dOb p DS.new D0).sep (rOb w2.heap.size DS.new E0)) w3) := Lib.hid (H0.out.more hb3 he0 (fun i hi => hoe0 i hi) (fun i hi => by have h : slBlk E0.kA = some i := hi; rw [hke0] at h; cases h))
  generalize w2.heap.size = q at *
  clear hb3 he0 hoe0 hke0 H0
  have hk0 : (openS DS.new 3).keep.length = 0 := by rw [openS_keep]; rfl
  go_wp2_with fail
  refine (jOpen_any p DS.new D0 3 w3 (H1.out.vs HV.out) (fun i hi => H1.out.own i (.inl hi)) (by unfold inI64; omega) (by decide) H1.out.ok.1.1).mono ?_
  rintro e w4 ⟨D1, X1, v1, rfl, hu, hj⟩
  have H2 := Lib.hid (H1.out.upd (OUpd.left H1.out.ok hu))
  have HJ := Lib.hid hj
  clear hu hj H1
  go_wp2_with fail
  refine (sOpen_any q DS.new E0 3 w4 (by unfold inI64; omega) (by decide) H2.out.ok.1.2).mono ?_
  rintro e w5 ⟨E1, Y1, u1, rfl, hu, hj⟩
  have HR1 : Hid (TellR w p q v1 u1 (openS DS.new 3) D1 E1 (openO DS.new 3) X1 Y1 w5) := Lib.hid ⟨HJ.out, hj, H2.out.upd (OUpd.right H2.out.ok hu), by omega, JFit.open DS.new_wf⟩
  clear hu hj H2 HJ hk0
  generalize openS DS.new 3 = S1 at *
  generalize openO DS.new 3 = J1 at *
  generalize openC DS.new 3 = C1 at *
  go_wp2_with fail
  go_loopw [6, 7, 8, 9, 10] (fun v e u f i wr => ∃ (k : Nat) (cc : Int) (S : DS) (D : DL) (E : RL) (J : Option JS) (X Y : Ob), k ≤ l.length ∧ i = .int .i64 k ∧ e = .int .i64 cc ∧ f = .int .i64 cc ∧ TellR w p q v u S D E J X Y wr) (fun _ _ _ _ i _ => l.length - (intOf i).toNat)
  case atStart => exact ⟨0, C1, S1, D1, E1, J1, X1, Y1, Nat.zero_le _, rfl, rfl, rfl, HR1.out⟩
  case round =>
    clear HR1
    obtain ⟨k, cc, S, D, E, J, X, Y, hk, rfl, rfl, rfl, hst⟩ := hrel
    have HSt := Lib.hid hst
    clear hst
    by_cases hlt : k < l.length
    rotate_left
    · have HD := Lib.hid (show St w (((dOb p S D).sep X).sep ((rOb q S E).sep Y)) wr from HSt.out.st)
      go_wp2_with fail
      refine (dStart_any p S D wr HD.out.ok.1.1.1.1).mono ?_
      rintro e w4 ⟨rfl, hu⟩
      obtain ⟨D4, u4⟩ := hu.ob (S := S)
      have H4 := Lib.hid (HD.out.upd (OUpd.left HD.out.ok (OUpd.left HD.out.ok.1.1 u4)))
      clear hu u4 HD HSt
      go_wp2_with fail
      refine (rStart_any q S E w4 H4.out.ok.1.2.1.1).mono ?_
      rintro e w5 ⟨rfl, hu⟩
      obtain ⟨E5, u5⟩ := hu.ob (S := S)
      have H5 := Lib.hid (H4.out.upd (OUpd.right H4.out.ok (OUpd.left H4.out.ok.1.2 u5)))
      clear hu u5 H4
      generalize S.start = S5 at *
      have HW := Lib.hid ((show DK w5 p S5 D4 from H5.out.ok.1.1.1.1).wf.now 3)
      go_wp2_with fail
      refine (dSize_any p S5 D4 w5 3 (by unfold inI64; omega) H5.out.ok.1.1.1.1).mono ?_
      rintro e wx ⟨rfl, hw⟩
      obtain rfl := hw
      go_wp2_with fail
      refine (dRead_any p S5 D4 _ 3 0 _ (by unfold inI64; omega) H5.out.ok.1.1.1.1).mono ?_
      rintro e wx2 ⟨rfl, hw⟩
      obtain rfl := hw
      go_wp2_with fail
      refine (rSize_any q S5 E5 _ 3 H5.out.ok.1.2.1.1).mono ?_
      rintro e w6 ⟨rfl, hb6⟩
      have H6 := Lib.hid (H5.out.on hb6)
      clear hb6 H5
      go_wp2_with fail
      refine (rRead_any q S5 E5 w6 3 0 _ H6.out.ok.1.2.1.1 (by unfold inI64; omega) (by have := HW.out; unfold inI64; omega)).mono ?_
      rintro e w7 ⟨rfl, hb7⟩
      have H7 := Lib.hid (H6.out.on hb7)
      clear hb7 H6
      generalize S5.readS 3 0 _ = x at *
      generalize S5.readC 3 0 _ = y at *
      have hxx : (x.toList == x.toList) = true := by simp
      go_wp2_with fail
      go_ret
      exact ⟨rfl, H7.out.bl⟩
    obtain ⟨b0, off, hA, hb0, c0, c1, c2, c3⟩ := (HR.out.now HSt.out.st.bl).op hlt
    have hok := HL.out l[k] (List.getElem_mem hlt)
    have hfew := HFew.out.2 l[k] (List.getElem_mem hlt)
    subst hA
    have HOk := Lib.hid hok
    have HKl : Hid (l[k].keep ≠ [] → ∀ i, slBlk l[k].kA = some i → i < w.heap.size) := Lib.hid (fun hne i hi => rd_low2 hok.rd hne hi)
    have hi0 : (0 : Int) ≤ (k : Int) := by omega
    have hi1 : (k : Int) < (l.length : Int) := by omega
    have HFw := Lib.hid hfew
    have hfs := hfew.s
    have hfk := hfew.k
    clear hok hfew
    generalize l[k] = a at *
    go_wp2_with fail
    have hbA := (Below.refl wr.heap.size wr).alloc (Nat.le_refl _) (.cells #[.int .i64 a.kind, .string (bs a.s), .int .i64 a.n, .slice a.kA a.keep.length a.kc] 38)
    have HTa : Hid (TSt w (tOb p q S D S E X Y) wr.heap.size a (wr.alloc (.cells #[.int .i64 a.kind, .string (bs a.s), .int .i64 a.n, .slice a.kA a.keep.length a.kc] 38))) := Lib.hid ⟨HSt.out.st.on hbA, fun j v hj => box_cell (heap_alloc_new wr _) j v (by simpa [opC] using hj), by simp, fun h => by have := (tOb p q S D S E X Y).lt wr HSt.out.st.ok _ (.inl h); omega⟩
    have HKe := Lib.hid HSt.out.keep
    have HFt := Lib.hid HSt.out.fit
    have HIj := Lib.hid HSt.out.isj
    have HIr := Lib.hid HSt.out.isr
    clear hbA HSt c0 c1 c2 c3
    generalize wr.heap.size = b at *
    generalize wr.alloc (.cells #[.int .i64 a.kind, .string (bs a.s), .int .i64 a.n, .slice a.kA a.keep.length a.kc] 38) = wa at *
    have hblt := HTa.out.box.lt
    have hbc := HTa.out.box.c1
    have hxx : (sumF a.s != sumF a.s) = false := by simp
    refine wp_region_below [(2, fun _ => .int .i64 (sumF a.s), fun (_ : Option Addr × Nat) _ => True), (5, fun _ => .int .i64 (sumF a.s), fun _ _ => True)] (by kernel_rfl) (by kernel_rfl) (by repeat (first | exact trivial | refine ⟨fun g wa wb hs hs' ht h => by first | exact trivial | exact h.now ht | exact h.below ht | exact ht.cell h | exact h, ?_⟩)) ?_
    rw [List.toList_toArray]
    repeat (first
      | (refine DetE.skip (by rfl) ?_; simp only [Act.put, List.setIfInBounds_toArray, List.set_cons_zero, List.set_cons_succ])
      | (refine DetE.read (v := ?_) (by rfl) (by rfl) ?_ ?_; rotate_left; (· (intro wq hSq hkq; have hcq := (hSq.cell (p := ⟨b, 1, none⟩) hblt).trans hbc; go_simp; try with_reducible rfl)); simp only [Act.put, List.setIfInBounds_toArray, List.set_cons_zero, List.set_cons_succ])
      | fail)
    refine DetE.eff _ _ (by rfl) (by rfl) (fun wq hSq hkq K hK => ?_) (fun g2 => ?_)
    · go_simp
      refine ((jSum_any a.s wq (by omega))).mono ?_
      rintro e4 w4 ⟨rfl, rfl⟩
      go_wp2_with fail
      exact hK.out ((none, 0)) _ hSq (Below.refl _ _) (trivial) _ rfl
    simp only [Act.put, List.setIfInBounds_toArray, List.set_cons_zero, List.set_cons_succ]
    repeat (first
      | (refine DetE.skip (by rfl) ?_; simp only [Act.put, List.setIfInBounds_toArray, List.set_cons_zero, List.set_cons_succ])
      | (refine DetE.read (v := ?_) (by rfl) (by rfl) ?_ ?_; rotate_left; (· (intro wq hSq hkq; have hcq := (hSq.cell (p := ⟨b, 1, none⟩) hblt).trans hbc; go_simp; try with_reducible rfl)); simp only [Act.put, List.setIfInBounds_toArray, List.set_cons_zero, List.set_cons_succ])
      | fail)
    refine DetE.eff _ _ (by rfl) (by rfl) (fun wq hSq hkq K hK => ?_) (fun g2 => ?_)
    · go_simp
      refine ((sSum_any a.s wq (by omega))).mono ?_
      rintro e4 w4 ⟨rfl, rfl⟩
      go_wp2_with fail
      exact hK.out ((none, 0)) _ hSq (Below.refl _ _) (trivial) _ rfl
    simp only [Act.put, List.setIfInBounds_toArray, List.set_cons_zero, List.set_cons_succ]
    repeat (first
      | (refine DetE.skip (by rfl) ?_; simp only [Act.put, List.setIfInBounds_toArray, List.set_cons_zero, List.set_cons_succ])
      | (refine DetE.read (v := ?_) (by rfl) (by rfl) ?_ ?_; rotate_left; (· (intro wq hSq hkq; skip; go_simp; try with_reducible rfl)); simp only [Act.put, List.setIfInBounds_toArray, List.set_cons_zero, List.set_cons_succ])
      | fail)
    refine DetE.done fun wz hz hkz => ?_
    have HT := Lib.hid (HTa.out.on hz)
    clear hkz hz hblt hbc HTa
    have c0 := HT.out.box.c0
    have hkk := HOk.out.kind
    by_cases k0 : a.kind = 0
    · have e0 : (a.kind == 0) = true := by simpa using k0
      cases J with
      | none =>
        obtain ⟨rfl, rfl⟩ := HIj.out
        obtain ⟨rfl, rfl⟩ := HIr.out
        go_wp2_with fail
        go_roundw
        case rel => exact ⟨k + 1, cc, _, _, _, none, Ob.nil, Ob.nil, by omega, by go_num, rfl, rfl, ⟨⟨rfl, rfl⟩, ⟨rfl, rfl⟩, HT.out.st, HKe.out, fun _ e => nomatch e⟩⟩
        case measure => simp [intOf]; omega
      | some j =>
        obtain ⟨q1, M, rfl, rfl⟩ := HIj.out
        obtain ⟨q2, N, rfl, rfl⟩ := HIr.out
        have c1 := HT.out.box.c1
        have HApp := Lib.hid (jAppend_any p q1 S D j M a.s wz (HT.out.st.vs HV.out) (by omega) (by have := (HFt.out j rfl).2; omega) (by rw [(HFt.out j rfl).1]; unfold inI64; omega) (by have := HKe.out; omega) HT.out.st.ok.1.1)
        go_wp2_with fail
        refine HApp.out.mono ?_
        rintro e w4 ⟨rfl, D4, M4, hu⟩
        have HT4 := Lib.hid (show TSt w (((dOb p (appS S j a.s) D4).sep (jOb q1 p (appJ S j a.s) M4)).sep ((rOb q S E).sep (rjOb q2 q j N))) b a w4 from HT.out.upd (OUpd.left HT.out.st.ok hu))
        clear hu HT HApp c0 c1
        have c1 := HT4.out.box.c1
        have HApp := Lib.hid (sAppend_any q q2 S E j N a.s w4 (by omega) (by have := (HFt.out j rfl).2; omega) (by rw [(HFt.out j rfl).1]; unfold inI64; omega) (by have := HKe.out; omega) HT4.out.st.ok.1.2)
        go_wp2_with fail
        refine HApp.out.mono ?_
        rintro e w5 ⟨rfl, E5, N5, hu⟩
        have HT5 := Lib.hid (show TSt w (tOb p q (appS S j a.s) D4 (appS S j a.s) E5 (jOb q1 p (appJ S j a.s) M4) (rjOb q2 q (appJ S j a.s) N5)) b a w5 from HT4.out.upd (OUpd.right HT4.out.st.ok hu))
        have HKe5 : Hid ((appS S j a.s).keep.length ≤ 50) := Lib.hid (by rw [appS_keep]; exact HKe.out)
        have HFt5 := Lib.hid (HFt.out.append (S := S) a.s)
        clear hu HT4 HApp c1 HKe HFt
        generalize appS S j a.s = S5 at *
        generalize appJ S j a.s = j5 at *
        generalize appC S j a.s = c5 at *
        have HT := HT5
        have HKe := HKe5
        have HFt := HFt5
        clear HT5 HKe5 HFt5
        go_wp2_with fail
        have HJq := Lib.hid (show JK w5 q1 p j5 M4 from HT.out.st.ok.1.1.1.2)
        have HRq := Lib.hid (show RJK w5 q2 q j5 N5 from HT.out.st.ok.1.2.1.2)
        have hqq := box_lt HRq.out.box
        have hc2 := HRq.out.c2
        have HAllq : Hid (∀ wq : World, Below w5.heap.size w5 wq → Calls Tryz.prog 25 #[.pointer (some ⟨q1, 0, none⟩)] wq fun e w' => ∃ A, e = .returned (.slice A j5.recs.length j5.recs.length) ∧ RdL 1 strE w' w'.heap.size A j5.recs ∧ OwnL w' wq.heap.size 9 1 strE A j5.recs.length j5.recs ∧ Below wq.heap.size wq w') := Lib.hid (fun wq hq => all_as ((jOb q1 p j5 M4).below HJq.out hq) rfl (by have := HFt.out.bound; omega))
        have HSmq : Hid (∀ (wq : World) (A4 : Option Addr), Below w5.heap.size w5 wq → RdL 1 strE wq wq.heap.size A4 j5.recs → Calls Tryz.prog 24 #[.slice A4 j5.recs.length j5.recs.length, .slice N5.A j5.recs.length N5.c] wq fun e w' => e = .returned (.bool true) ∧ Below wq.heap.size wq w') := Lib.hid (fun wq A4 hq h4 => same_refl j5.recs A4 N5.A j5.recs.length N5.c wq h4 ((HRq.out.recs.rd strLayJ).now hq) (by have := HFt.out.bound; omega))
        refine wp_region_below [(8, fun g => .slice g.1 j5.recs.length j5.recs.length, fun g w' => RdL 1 strE w' w'.heap.size g.1 j5.recs), (13, fun _ => .bool true, fun (_ : Option Addr × Nat) _ => True)] (by kernel_rfl) (by kernel_rfl) (by repeat (first | exact trivial | refine ⟨fun g wa wb hs hs' ht h => by first | exact trivial | exact h.now ht | exact h.below ht | exact ht.cell h | exact h, ?_⟩)) ?_
        rw [List.toList_toArray]
        repeat (first
          | (refine DetE.skip (by rfl) ?_; simp only [Act.put, List.setIfInBounds_toArray, List.set_cons_zero, List.set_cons_succ])
          | (refine DetE.read (v := ?_) (by rfl) (by rfl) ?_ ?_; rotate_left; (· (intro wq hSq hkq; skip; go_simp; try with_reducible rfl)); simp only [Act.put, List.setIfInBounds_toArray, List.set_cons_zero, List.set_cons_succ])
          | fail)
        refine DetE.eff _ _ (by rfl) (by rfl) (fun wq hSq hkq K hK => ?_) (fun g1 => ?_)
        · go_simp
          refine (HAllq.out wq hSq).mono ?_
          rintro e4 w4 ⟨A4, rfl, ho4, -, hb4⟩
          go_wp2_with fail
          exact hK.out ((A4, 0)) _ (hSq.trans (hb4.mono hSq.size)) hb4 (ho4) _ rfl
        simp only [Act.put, List.setIfInBounds_toArray, List.set_cons_zero, List.set_cons_succ]
        repeat (first
          | (refine DetE.skip (by rfl) ?_; simp only [Act.put, List.setIfInBounds_toArray, List.set_cons_zero, List.set_cons_succ])
          | (refine DetE.read (v := ?_) (by rfl) (by rfl) ?_ ?_; rotate_left; (· (intro wq hSq hkq; have hcq := (hSq.cell (p := ⟨q2, 2, none⟩) hqq).trans hc2; go_simp; try with_reducible rfl)); simp only [Act.put, List.setIfInBounds_toArray, List.set_cons_zero, List.set_cons_succ])
          | fail)
        refine DetE.eff _ _ (by rfl) (by rfl) (fun wq hSq hkq K hK => ?_) (fun g2 => ?_)
        · go_simp
          refine (HSmq.out wq g1.1 hSq (hkq 8 _ rfl (by kernel_rfl))).mono ?_
          rintro e4 w4 ⟨rfl, hb4⟩
          go_wp2_with fail
          exact hK.out ((none, 0)) _ (hSq.trans (hb4.mono hSq.size)) hb4 (trivial) _ rfl
        simp only [Act.put, List.setIfInBounds_toArray, List.set_cons_zero, List.set_cons_succ]
        repeat (first
          | (refine DetE.skip (by rfl) ?_; simp only [Act.put, List.setIfInBounds_toArray, List.set_cons_zero, List.set_cons_succ])
          | (refine DetE.read (v := ?_) (by rfl) (by rfl) ?_ ?_; rotate_left; (· (intro wq hSq hkq; skip; go_simp; try with_reducible rfl)); simp only [Act.put, List.setIfInBounds_toArray, List.set_cons_zero, List.set_cons_succ])
          | fail)
        refine DetE.done fun wz hz hkz => ?_
        have HT2 := Lib.hid (HT.out.on hz)
        clear hkz hz HAllq HSmq HJq HRq hc2 HT
        go_wp2_with fail
        go_roundw
        case rel => exact ⟨k + 1, c5, _, _, _, some j5, jOb q1 p j5 M4, rjOb q2 q j5 N5, by omega, by go_num, rfl, rfl, ⟨⟨q1, M4, rfl, rfl⟩, ⟨q2, N5, rfl, rfl⟩, HT2.out.st, HKe.out, HFt.out⟩⟩
        case measure => simp [intOf]; omega
    have e0 : (a.kind == 0) = false := by simpa using k0
    by_cases k1 : a.kind = 1
    · have e1 : (a.kind == 1) = true := by simpa using k1
      cases J with
      | none =>
        obtain ⟨rfl, rfl⟩ := HIj.out
        obtain ⟨rfl, rfl⟩ := HIr.out
        go_wp2_with fail
        go_roundw
        case rel => exact ⟨k + 1, cc, _, _, _, none, Ob.nil, Ob.nil, by omega, by go_num, rfl, rfl, ⟨⟨rfl, rfl⟩, ⟨rfl, rfl⟩, HT.out.st, HKe.out, fun _ e => nomatch e⟩⟩
        case measure => simp [intOf]; omega
      | some j =>
        obtain ⟨q1, M, rfl, rfl⟩ := HIj.out
        obtain ⟨q2, N, rfl, rfl⟩ := HIr.out
        have HApp := Lib.hid (jSync_any p q1 S D j M wz (by rw [(HFt.out j rfl).1]; unfold inI64; omega) (by have := HKe.out; omega) HT.out.st.ok.1.1)
        go_wp2_with fail
        refine HApp.out.mono ?_
        rintro e w4 ⟨rfl, D4, M4, hu⟩
        have HT4 := Lib.hid (show TSt w (((dOb p (synS S j) D4).sep (jOb q1 p (synJ S j) M4)).sep ((rOb q S E).sep (rjOb q2 q j N))) b a w4 from HT.out.upd (OUpd.left HT.out.st.ok hu))
        clear hu HT HApp c0
        have HApp := Lib.hid (sSync_any q q2 S E j N w4 (by have := HKe.out; omega) HT4.out.st.ok.1.2)
        go_wp2_with fail
        refine HApp.out.mono ?_
        rintro e w5 ⟨rfl, E5, N5, hu⟩
        have HT5 := Lib.hid (show TSt w (tOb p q (synS S j) D4 (synS S j) E5 (jOb q1 p (synJ S j) M4) (rjOb q2 q (synJ S j) N5)) b a w5 from HT4.out.upd (OUpd.right HT4.out.st.ok hu))
        have HKe5 : Hid ((synS S j).keep.length ≤ 50) := Lib.hid (by rw [synS_keep]; exact HKe.out)
        have HFt5 := Lib.hid (HFt.out.sync (S := S))
        clear hu HT4 HApp HKe HFt
        generalize synS S j = S5 at *
        generalize synJ S j = j5 at *
        generalize synC S j = c5 at *
        have HT := HT5
        have HKe := HKe5
        have HFt := HFt5
        clear HT5 HKe5 HFt5
        go_wp2_with fail
        have HJq := Lib.hid (show JK w5 q1 p j5 M4 from HT.out.st.ok.1.1.1.2)
        have HRq := Lib.hid (show RJK w5 q2 q j5 N5 from HT.out.st.ok.1.2.1.2)
        have hqq := box_lt HRq.out.box
        have hc2 := HRq.out.c2
        have HAllq : Hid (∀ wq : World, Below w5.heap.size w5 wq → Calls Tryz.prog 25 #[.pointer (some ⟨q1, 0, none⟩)] wq fun e w' => ∃ A, e = .returned (.slice A j5.recs.length j5.recs.length) ∧ RdL 1 strE w' w'.heap.size A j5.recs ∧ OwnL w' wq.heap.size 9 1 strE A j5.recs.length j5.recs ∧ Below wq.heap.size wq w') := Lib.hid (fun wq hq => all_as ((jOb q1 p j5 M4).below HJq.out hq) rfl (by have := HFt.out.bound; omega))
        have HSmq : Hid (∀ (wq : World) (A4 : Option Addr), Below w5.heap.size w5 wq → RdL 1 strE wq wq.heap.size A4 j5.recs → Calls Tryz.prog 24 #[.slice A4 j5.recs.length j5.recs.length, .slice N5.A j5.recs.length N5.c] wq fun e w' => e = .returned (.bool true) ∧ Below wq.heap.size wq w') := Lib.hid (fun wq A4 hq h4 => same_refl j5.recs A4 N5.A j5.recs.length N5.c wq h4 ((HRq.out.recs.rd strLayJ).now hq) (by have := HFt.out.bound; omega))
        refine wp_region_below [(8, fun g => .slice g.1 j5.recs.length j5.recs.length, fun g w' => RdL 1 strE w' w'.heap.size g.1 j5.recs), (13, fun _ => .bool true, fun (_ : Option Addr × Nat) _ => True)] (by kernel_rfl) (by kernel_rfl) (by repeat (first | exact trivial | refine ⟨fun g wa wb hs hs' ht h => by first | exact trivial | exact h.now ht | exact h.below ht | exact ht.cell h | exact h, ?_⟩)) ?_
        rw [List.toList_toArray]
        repeat (first
          | (refine DetE.skip (by rfl) ?_; simp only [Act.put, List.setIfInBounds_toArray, List.set_cons_zero, List.set_cons_succ])
          | (refine DetE.read (v := ?_) (by rfl) (by rfl) ?_ ?_; rotate_left; (· (intro wq hSq hkq; skip; go_simp; try with_reducible rfl)); simp only [Act.put, List.setIfInBounds_toArray, List.set_cons_zero, List.set_cons_succ])
          | fail)
        refine DetE.eff _ _ (by rfl) (by rfl) (fun wq hSq hkq K hK => ?_) (fun g1 => ?_)
        · go_simp
          refine (HAllq.out wq hSq).mono ?_
          rintro e4 w4 ⟨A4, rfl, ho4, -, hb4⟩
          go_wp2_with fail
          exact hK.out ((A4, 0)) _ (hSq.trans (hb4.mono hSq.size)) hb4 (ho4) _ rfl
        simp only [Act.put, List.setIfInBounds_toArray, List.set_cons_zero, List.set_cons_succ]
        repeat (first
          | (refine DetE.skip (by rfl) ?_; simp only [Act.put, List.setIfInBounds_toArray, List.set_cons_zero, List.set_cons_succ])
          | (refine DetE.read (v := ?_) (by rfl) (by rfl) ?_ ?_; rotate_left; (· (intro wq hSq hkq; have hcq := (hSq.cell (p := ⟨q2, 2, none⟩) hqq).trans hc2; go_simp; try with_reducible rfl)); simp only [Act.put, List.setIfInBounds_toArray, List.set_cons_zero, List.set_cons_succ])
          | fail)
        refine DetE.eff _ _ (by rfl) (by rfl) (fun wq hSq hkq K hK => ?_) (fun g2 => ?_)
        · go_simp
          refine (HSmq.out wq g1.1 hSq (hkq 8 _ rfl (by kernel_rfl))).mono ?_
          rintro e4 w4 ⟨rfl, hb4⟩
          go_wp2_with fail
          exact hK.out ((none, 0)) _ (hSq.trans (hb4.mono hSq.size)) hb4 (trivial) _ rfl
        simp only [Act.put, List.setIfInBounds_toArray, List.set_cons_zero, List.set_cons_succ]
        repeat (first
          | (refine DetE.skip (by rfl) ?_; simp only [Act.put, List.setIfInBounds_toArray, List.set_cons_zero, List.set_cons_succ])
          | (refine DetE.read (v := ?_) (by rfl) (by rfl) ?_ ?_; rotate_left; (· (intro wq hSq hkq; skip; go_simp; try with_reducible rfl)); simp only [Act.put, List.setIfInBounds_toArray, List.set_cons_zero, List.set_cons_succ])
          | fail)
        refine DetE.done fun wz hz hkz => ?_
        have HT2 := Lib.hid (HT.out.on hz)
        clear hkz hz HAllq HSmq HJq HRq hc2 HT
        go_wp2_with fail
        go_roundw
        case rel => exact ⟨k + 1, c5, _, _, _, some j5, jOb q1 p j5 M4, rjOb q2 q j5 N5, by omega, by go_num, rfl, rfl, ⟨⟨q1, M4, rfl, rfl⟩, ⟨q2, N5, rfl, rfl⟩, HT2.out.st, HKe.out, HFt.out⟩⟩
        case measure => simp [intOf]; omega
    have e1 : (a.kind == 1) = false := by simpa using k1
    by_cases k2 : a.kind = 2
    · have e2 : (a.kind == 2) = true := by simpa using k2
      have c2 := HT.out.box.c2
      go_wp2_with fail
      refine (dLose_any p S D wz a.n HOk.out.n HT.out.dk).mono ?_
      rintro e w4 ⟨rfl, hu⟩
      obtain ⟨D4, ht4⟩ := HT.out.left hu
      have HT4 := Lib.hid ht4
      clear hu ht4 HT c0 c2
      have c2 := HT4.out.box.c2
      go_wp2_with fail
      refine (rLose_any q S E w4 a.n HOk.out.n HT4.out.rk).mono ?_
      rintro e w5 ⟨rfl, hu⟩
      obtain ⟨E5, ht5⟩ := HT4.out.right hu
      have HT5 := Lib.hid ht5
      have HKe5 : Hid ((S.lose a.n).keep.length ≤ 50) := Lib.hid HKe.out
      clear hu ht5 HT4 c2 HKe
      generalize S.lose a.n = S5 at *
      cases J with
      | none =>
        obtain ⟨rfl, rfl⟩ := HIj.out
        obtain ⟨rfl, rfl⟩ := HIr.out
        have HT := HT5
        have HKe := HKe5
        clear HT5 HKe5
        go_wp2_with fail
        go_quiet (fail)
        go_wp2_with fail
        go_roundw
        case rel => exact ⟨k + 1, cc, _, _, _, none, Ob.nil, Ob.nil, by omega, by go_num, rfl, rfl, ⟨⟨rfl, rfl⟩, ⟨rfl, rfl⟩, (HT.out.on (below_drewN (Below.refl _ _) _)).st, HKe.out, fun _ e => nomatch e⟩⟩
        case measure => simp [intOf]; omega
      | some j5 =>
        obtain ⟨q1, M4, rfl, rfl⟩ := HIj.out
        obtain ⟨q2, N5, rfl, rfl⟩ := HIr.out
        have HT := HT5
        have HKe := HKe5
        clear HT5 HKe5
        go_wp2_with fail
        have HJq := Lib.hid (show JK w5 q1 p j5 M4 from HT.out.st.ok.1.1.1.2)
        have HRq := Lib.hid (show RJK w5 q2 q j5 N5 from HT.out.st.ok.1.2.1.2)
        have hqq := box_lt HRq.out.box
        have hc2 := HRq.out.c2
        have HAllq : Hid (∀ wq : World, Below w5.heap.size w5 wq → Calls Tryz.prog 25 #[.pointer (some ⟨q1, 0, none⟩)] wq fun e w' => ∃ A, e = .returned (.slice A j5.recs.length j5.recs.length) ∧ RdL 1 strE w' w'.heap.size A j5.recs ∧ OwnL w' wq.heap.size 9 1 strE A j5.recs.length j5.recs ∧ Below wq.heap.size wq w') := Lib.hid (fun wq hq => all_as ((jOb q1 p j5 M4).below HJq.out hq) rfl (by have := HFt.out.bound; omega))
        have HSmq : Hid (∀ (wq : World) (A4 : Option Addr), Below w5.heap.size w5 wq → RdL 1 strE wq wq.heap.size A4 j5.recs → Calls Tryz.prog 24 #[.slice A4 j5.recs.length j5.recs.length, .slice N5.A j5.recs.length N5.c] wq fun e w' => e = .returned (.bool true) ∧ Below wq.heap.size wq w') := Lib.hid (fun wq A4 hq h4 => same_refl j5.recs A4 N5.A j5.recs.length N5.c wq h4 ((HRq.out.recs.rd strLayJ).now hq) (by have := HFt.out.bound; omega))
        refine wp_region_below [(8, fun g => .slice g.1 j5.recs.length j5.recs.length, fun g w' => RdL 1 strE w' w'.heap.size g.1 j5.recs), (13, fun _ => .bool true, fun (_ : Option Addr × Nat) _ => True)] (by kernel_rfl) (by kernel_rfl) (by repeat (first | exact trivial | refine ⟨fun g wa wb hs hs' ht h => by first | exact trivial | exact h.now ht | exact h.below ht | exact ht.cell h | exact h, ?_⟩)) ?_
        rw [List.toList_toArray]
        repeat (first
          | (refine DetE.skip (by rfl) ?_; simp only [Act.put, List.setIfInBounds_toArray, List.set_cons_zero, List.set_cons_succ])
          | (refine DetE.read (v := ?_) (by rfl) (by rfl) ?_ ?_; rotate_left; (· (intro wq hSq hkq; skip; go_simp; try with_reducible rfl)); simp only [Act.put, List.setIfInBounds_toArray, List.set_cons_zero, List.set_cons_succ])
          | fail)
        refine DetE.eff _ _ (by rfl) (by rfl) (fun wq hSq hkq K hK => ?_) (fun g1 => ?_)
        · go_simp
          refine (HAllq.out wq hSq).mono ?_
          rintro e4 w4 ⟨A4, rfl, ho4, -, hb4⟩
          go_wp2_with fail
          exact hK.out ((A4, 0)) _ (hSq.trans (hb4.mono hSq.size)) hb4 (ho4) _ rfl
        simp only [Act.put, List.setIfInBounds_toArray, List.set_cons_zero, List.set_cons_succ]
        repeat (first
          | (refine DetE.skip (by rfl) ?_; simp only [Act.put, List.setIfInBounds_toArray, List.set_cons_zero, List.set_cons_succ])
          | (refine DetE.read (v := ?_) (by rfl) (by rfl) ?_ ?_; rotate_left; (· (intro wq hSq hkq; have hcq := (hSq.cell (p := ⟨q2, 2, none⟩) hqq).trans hc2; go_simp; try with_reducible rfl)); simp only [Act.put, List.setIfInBounds_toArray, List.set_cons_zero, List.set_cons_succ])
          | fail)
        refine DetE.eff _ _ (by rfl) (by rfl) (fun wq hSq hkq K hK => ?_) (fun g2 => ?_)
        · go_simp
          refine (HSmq.out wq g1.1 hSq (hkq 8 _ rfl (by kernel_rfl))).mono ?_
          rintro e4 w4 ⟨rfl, hb4⟩
          go_wp2_with fail
          exact hK.out ((none, 0)) _ (hSq.trans (hb4.mono hSq.size)) hb4 (trivial) _ rfl
        simp only [Act.put, List.setIfInBounds_toArray, List.set_cons_zero, List.set_cons_succ]
        repeat (first
          | (refine DetE.skip (by rfl) ?_; simp only [Act.put, List.setIfInBounds_toArray, List.set_cons_zero, List.set_cons_succ])
          | (refine DetE.read (v := ?_) (by rfl) (by rfl) ?_ ?_; rotate_left; (· (intro wq hSq hkq; skip; go_simp; try with_reducible rfl)); simp only [Act.put, List.setIfInBounds_toArray, List.set_cons_zero, List.set_cons_succ])
          | fail)
        refine DetE.done fun wz hz hkz => ?_
        have HT2 := Lib.hid (HT.out.on hz)
        clear hkz hz HAllq HSmq HJq HRq hc2 HT
        go_wp2_with fail
        go_roundw
        case rel => exact ⟨k + 1, cc, _, _, _, some j5, jOb q1 p j5 M4, rjOb q2 q j5 N5, by omega, by go_num, rfl, rfl, ⟨⟨q1, M4, rfl, rfl⟩, ⟨q2, N5, rfl, rfl⟩, HT2.out.st, HKe.out, HFt.out⟩⟩
        case measure => simp [intOf]; omega
    have e2 : (a.kind == 2) = false := by simpa using k2
    by_cases k3 : a.kind = 3
    · have e3 : (a.kind == 3) = true := by simpa using k3
      have c2 := HT.out.box.c2
      have c3 := HT.out.box.c3
      go_wp2_with fail
      refine (dArm_any p S D wz a.n HOk.out.n a.keep a.kA a.keep.length a.kc rfl (HOk.out.rd.now HT.out.st.bl) (by omega) HOk.out.k HT.out.dk).mono ?_
      rintro e w4 ⟨rfl, hu⟩
      obtain ⟨D4, ht4⟩ := HT.out.left hu
      have HT4 := Lib.hid ht4
      clear hu ht4 HT c0 c2 c3
      have c2 := HT4.out.box.c2
      have c3 := HT4.out.box.c3
      go_wp2_with fail
      refine (rArm_any q S E w4 a.n HOk.out.n a.keep a.kA a.keep.length a.kc rfl (HOk.out.rd.now HT4.out.st.bl) (by omega) HOk.out.k HT4.out.rk (fun i hne hi e => by have := HKl.out hne i hi; have := HT4.out.own.2 q (.inl rfl); omega)).mono ?_
      rintro e w5 ⟨rfl, hu⟩
      obtain ⟨E5, ht5⟩ := HT4.out.right hu
      have HT5 := Lib.hid ht5
      have HKe5 : Hid ((S.arm a.n a.keep).keep.length ≤ 50) := Lib.hid hfk
      clear hu ht5 HT4 c2 c3 HKe
      generalize S.arm a.n a.keep = S5 at *
      cases J with
      | none =>
        obtain ⟨rfl, rfl⟩ := HIj.out
        obtain ⟨rfl, rfl⟩ := HIr.out
        have HT := HT5
        have HKe := HKe5
        clear HT5 HKe5
        go_wp2_with fail
        go_quiet (fail)
        go_wp2_with fail
        go_roundw
        case rel => exact ⟨k + 1, cc, _, _, _, none, Ob.nil, Ob.nil, by omega, by go_num, rfl, rfl, ⟨⟨rfl, rfl⟩, ⟨rfl, rfl⟩, (HT.out.on (below_drewN (Below.refl _ _) _)).st, HKe.out, fun _ e => nomatch e⟩⟩
        case measure => simp [intOf]; omega
      | some j5 =>
        obtain ⟨q1, M4, rfl, rfl⟩ := HIj.out
        obtain ⟨q2, N5, rfl, rfl⟩ := HIr.out
        have HT := HT5
        have HKe := HKe5
        clear HT5 HKe5
        go_wp2_with fail
        have HJq := Lib.hid (show JK w5 q1 p j5 M4 from HT.out.st.ok.1.1.1.2)
        have HRq := Lib.hid (show RJK w5 q2 q j5 N5 from HT.out.st.ok.1.2.1.2)
        have hqq := box_lt HRq.out.box
        have hc2 := HRq.out.c2
        have HAllq : Hid (∀ wq : World, Below w5.heap.size w5 wq → Calls Tryz.prog 25 #[.pointer (some ⟨q1, 0, none⟩)] wq fun e w' => ∃ A, e = .returned (.slice A j5.recs.length j5.recs.length) ∧ RdL 1 strE w' w'.heap.size A j5.recs ∧ OwnL w' wq.heap.size 9 1 strE A j5.recs.length j5.recs ∧ Below wq.heap.size wq w') := Lib.hid (fun wq hq => all_as ((jOb q1 p j5 M4).below HJq.out hq) rfl (by have := HFt.out.bound; omega))
        have HSmq : Hid (∀ (wq : World) (A4 : Option Addr), Below w5.heap.size w5 wq → RdL 1 strE wq wq.heap.size A4 j5.recs → Calls Tryz.prog 24 #[.slice A4 j5.recs.length j5.recs.length, .slice N5.A j5.recs.length N5.c] wq fun e w' => e = .returned (.bool true) ∧ Below wq.heap.size wq w') := Lib.hid (fun wq A4 hq h4 => same_refl j5.recs A4 N5.A j5.recs.length N5.c wq h4 ((HRq.out.recs.rd strLayJ).now hq) (by have := HFt.out.bound; omega))
        refine wp_region_below [(8, fun g => .slice g.1 j5.recs.length j5.recs.length, fun g w' => RdL 1 strE w' w'.heap.size g.1 j5.recs), (13, fun _ => .bool true, fun (_ : Option Addr × Nat) _ => True)] (by kernel_rfl) (by kernel_rfl) (by repeat (first | exact trivial | refine ⟨fun g wa wb hs hs' ht h => by first | exact trivial | exact h.now ht | exact h.below ht | exact ht.cell h | exact h, ?_⟩)) ?_
        rw [List.toList_toArray]
        repeat (first
          | (refine DetE.skip (by rfl) ?_; simp only [Act.put, List.setIfInBounds_toArray, List.set_cons_zero, List.set_cons_succ])
          | (refine DetE.read (v := ?_) (by rfl) (by rfl) ?_ ?_; rotate_left; (· (intro wq hSq hkq; skip; go_simp; try with_reducible rfl)); simp only [Act.put, List.setIfInBounds_toArray, List.set_cons_zero, List.set_cons_succ])
          | fail)
        refine DetE.eff _ _ (by rfl) (by rfl) (fun wq hSq hkq K hK => ?_) (fun g1 => ?_)
        · go_simp
          refine (HAllq.out wq hSq).mono ?_
          rintro e4 w4 ⟨A4, rfl, ho4, -, hb4⟩
          go_wp2_with fail
          exact hK.out ((A4, 0)) _ (hSq.trans (hb4.mono hSq.size)) hb4 (ho4) _ rfl
        simp only [Act.put, List.setIfInBounds_toArray, List.set_cons_zero, List.set_cons_succ]
        repeat (first
          | (refine DetE.skip (by rfl) ?_; simp only [Act.put, List.setIfInBounds_toArray, List.set_cons_zero, List.set_cons_succ])
          | (refine DetE.read (v := ?_) (by rfl) (by rfl) ?_ ?_; rotate_left; (· (intro wq hSq hkq; have hcq := (hSq.cell (p := ⟨q2, 2, none⟩) hqq).trans hc2; go_simp; try with_reducible rfl)); simp only [Act.put, List.setIfInBounds_toArray, List.set_cons_zero, List.set_cons_succ])
          | fail)
        refine DetE.eff _ _ (by rfl) (by rfl) (fun wq hSq hkq K hK => ?_) (fun g2 => ?_)
        · go_simp
          refine (HSmq.out wq g1.1 hSq (hkq 8 _ rfl (by kernel_rfl))).mono ?_
          rintro e4 w4 ⟨rfl, hb4⟩
          go_wp2_with fail
          exact hK.out ((none, 0)) _ (hSq.trans (hb4.mono hSq.size)) hb4 (trivial) _ rfl
        simp only [Act.put, List.setIfInBounds_toArray, List.set_cons_zero, List.set_cons_succ]
        repeat (first
          | (refine DetE.skip (by rfl) ?_; simp only [Act.put, List.setIfInBounds_toArray, List.set_cons_zero, List.set_cons_succ])
          | (refine DetE.read (v := ?_) (by rfl) (by rfl) ?_ ?_; rotate_left; (· (intro wq hSq hkq; skip; go_simp; try with_reducible rfl)); simp only [Act.put, List.setIfInBounds_toArray, List.set_cons_zero, List.set_cons_succ])
          | fail)
        refine DetE.done fun wz hz hkz => ?_
        have HT2 := Lib.hid (HT.out.on hz)
        clear hkz hz HAllq HSmq HJq HRq hc2 HT
        go_wp2_with fail
        go_roundw
        case rel => exact ⟨k + 1, cc, _, _, _, some j5, jOb q1 p j5 M4, rjOb q2 q j5 N5, by omega, by go_num, rfl, rfl, ⟨⟨q1, M4, rfl, rfl⟩, ⟨q2, N5, rfl, rfl⟩, HT2.out.st, HKe.out, HFt.out⟩⟩
        case measure => simp [intOf]; omega
    have e3 : (a.kind == 3) = false := by simpa using k3
    by_cases k45 : a.kind = 4 ∨ a.kind = 5
    · have HG := Lib.hid HT.out.bare
      have c3 := HT.out.box.c3
      clear HT HIj HIr HFt
      rcases k45 with k4 | k4
      · have e4 : (a.kind == 4) = true := by simpa using k4
        go_wp2_with fail
        refine (dCrash_any p S D wz a.keep a.kA a.kc (HOk.out.rd.now HG.out.st.bl) (by omega) (fun hne i hi ho => by have := HKl.out hne i hi; have := HG.out.st.own i (.inl ho); omega) HG.out.st.ok.1.1).mono ?_
        rintro e w4 ⟨rfl, hu⟩
        obtain ⟨D4, hg4⟩ := HG.out.bl hu
        have HG4 := Lib.hid hg4
        clear hu hg4 HG c0 c3
        have c3 := HG4.out.box.c3
        go_wp2_with fail
        refine (rCrash_any q S E w4 a.keep a.kA a.kc (HOk.out.rd.now HG4.out.st.bl) (by omega) (fun hne i hi ho => by have := HKl.out hne i hi; have := HG4.out.st.own i (.inr ho); omega) HG4.out.st.ok.1.2).mono ?_
        rintro e w5 ⟨rfl, hu⟩
        obtain ⟨E4, hg5⟩ := HG4.out.br hu
        have HG5 := Lib.hid hg5
        have HKe5 : Hid ((S.crash a.keep).keep.length ≤ 50) := Lib.hid (by rw [crash_keep]; exact HKe.out)
        clear hu hg5 HG4 c3 HKe
        generalize S.crash a.keep = S4 at *
        go_wp2_with fail
        refine (dStart_any p S4 D4 w5 HG5.out.st.ok.1.1).mono ?_
        rintro e w6 ⟨rfl, hu⟩
        obtain ⟨D6, hg6⟩ := HG5.out.bl hu
        have HG6 := Lib.hid hg6
        clear hu hg6 HG5
        go_wp2_with fail
        refine (rStart_any q S4 E4 w6 HG6.out.st.ok.1.2).mono ?_
        rintro e w7 ⟨rfl, hu⟩
        obtain ⟨E7, hg7⟩ := HG6.out.br hu
        have HG7 := Lib.hid hg7
        have HKe7 : Hid ((S4).start.keep.length ≤ 50) := Lib.hid HKe5.out
        clear hu hg7 HG6 HKe5
        generalize (S4).start = S7 at *
        have HWf := Lib.hid ((show DK w7 p S7 D6 from HG7.out.st.ok.1.1).wf)
        go_wp2_with fail
        refine (jOpen_any p S7 D6 3 w7 (HG7.out.st.vs HV.out) (fun i hi => HG7.out.st.own i (.inl hi)) (by unfold inI64; omega) (by have := HKe7.out; omega) HG7.out.st.ok.1.1).mono ?_
        rintro e w8 ⟨D8, X8, v8, rfl, hu, hj⟩
        have HG8 := Lib.hid (HG7.out.upd (OUpd.left HG7.out.st.ok hu))
        have HIj := Lib.hid hj
        clear hu hj HG7
        go_wp2_with fail
        refine (sOpen_any q S7 E7 3 w8 (by unfold inI64; omega) (by have := HKe7.out; omega) HG8.out.st.ok.1.2).mono ?_
        rintro e w5 ⟨E9, Y8, u8, rfl, hu, hj⟩
        have HT5 := Lib.hid (show TSt w (tOb p q (openS S7 3) D8 (openS S7 3) E9 X8 Y8) b a w5 from HG8.out.upd (OUpd.right HG8.out.st.ok hu))
        have HIr := Lib.hid hj
        have HKe5 : Hid ((openS S7 3).keep.length ≤ 50) := Lib.hid (by rw [openS_keep]; exact HKe7.out)
        have HFt := Lib.hid (JFit.open HWf.out)
        clear hu hj HG8 HKe7 HWf
        generalize openS S7 3 = S9 at *
        generalize openO S7 3 = J at *
        generalize openC S7 3 = c9 at *
        cases J with
        | none =>
          obtain ⟨rfl, rfl⟩ := HIj.out
          obtain ⟨rfl, rfl⟩ := HIr.out
          have HT := HT5
          have HKe := HKe5
          clear HT5 HKe5
          go_wp2_with fail
          go_quiet (fail)
          go_wp2_with fail
          go_roundw
          case rel => exact ⟨k + 1, c9, _, _, _, none, Ob.nil, Ob.nil, by omega, by go_num, rfl, rfl, ⟨⟨rfl, rfl⟩, ⟨rfl, rfl⟩, (HT.out.on (below_drewN (Below.refl _ _) _)).st, HKe.out, fun _ e => nomatch e⟩⟩
          case measure => simp [intOf]; omega
        | some j5 =>
          obtain ⟨q1, M4, rfl, rfl⟩ := HIj.out
          obtain ⟨q2, N5, rfl, rfl⟩ := HIr.out
          have HT := HT5
          have HKe := HKe5
          clear HT5 HKe5
          go_wp2_with fail
          have HJq := Lib.hid (show JK w5 q1 p j5 M4 from HT.out.st.ok.1.1.1.2)
          have HRq := Lib.hid (show RJK w5 q2 q j5 N5 from HT.out.st.ok.1.2.1.2)
          have hqq := box_lt HRq.out.box
          have hc2 := HRq.out.c2
          have HAllq : Hid (∀ wq : World, Below w5.heap.size w5 wq → Calls Tryz.prog 25 #[.pointer (some ⟨q1, 0, none⟩)] wq fun e w' => ∃ A, e = .returned (.slice A j5.recs.length j5.recs.length) ∧ RdL 1 strE w' w'.heap.size A j5.recs ∧ OwnL w' wq.heap.size 9 1 strE A j5.recs.length j5.recs ∧ Below wq.heap.size wq w') := Lib.hid (fun wq hq => all_as ((jOb q1 p j5 M4).below HJq.out hq) rfl (by have := HFt.out.bound; omega))
          have HSmq : Hid (∀ (wq : World) (A4 : Option Addr), Below w5.heap.size w5 wq → RdL 1 strE wq wq.heap.size A4 j5.recs → Calls Tryz.prog 24 #[.slice A4 j5.recs.length j5.recs.length, .slice N5.A j5.recs.length N5.c] wq fun e w' => e = .returned (.bool true) ∧ Below wq.heap.size wq w') := Lib.hid (fun wq A4 hq h4 => same_refl j5.recs A4 N5.A j5.recs.length N5.c wq h4 ((HRq.out.recs.rd strLayJ).now hq) (by have := HFt.out.bound; omega))
          refine wp_region_below [(8, fun g => .slice g.1 j5.recs.length j5.recs.length, fun g w' => RdL 1 strE w' w'.heap.size g.1 j5.recs), (13, fun _ => .bool true, fun (_ : Option Addr × Nat) _ => True)] (by kernel_rfl) (by kernel_rfl) (by repeat (first | exact trivial | refine ⟨fun g wa wb hs hs' ht h => by first | exact trivial | exact h.now ht | exact h.below ht | exact ht.cell h | exact h, ?_⟩)) ?_
          rw [List.toList_toArray]
          repeat (first
            | (refine DetE.skip (by rfl) ?_; simp only [Act.put, List.setIfInBounds_toArray, List.set_cons_zero, List.set_cons_succ])
            | (refine DetE.read (v := ?_) (by rfl) (by rfl) ?_ ?_; rotate_left; (· (intro wq hSq hkq; skip; go_simp; try with_reducible rfl)); simp only [Act.put, List.setIfInBounds_toArray, List.set_cons_zero, List.set_cons_succ])
            | fail)
          refine DetE.eff _ _ (by rfl) (by rfl) (fun wq hSq hkq K hK => ?_) (fun g1 => ?_)
          · go_simp
            refine (HAllq.out wq hSq).mono ?_
            rintro e4 w4 ⟨A4, rfl, ho4, -, hb4⟩
            go_wp2_with fail
            exact hK.out ((A4, 0)) _ (hSq.trans (hb4.mono hSq.size)) hb4 (ho4) _ rfl
          simp only [Act.put, List.setIfInBounds_toArray, List.set_cons_zero, List.set_cons_succ]
          repeat (first
            | (refine DetE.skip (by rfl) ?_; simp only [Act.put, List.setIfInBounds_toArray, List.set_cons_zero, List.set_cons_succ])
            | (refine DetE.read (v := ?_) (by rfl) (by rfl) ?_ ?_; rotate_left; (· (intro wq hSq hkq; have hcq := (hSq.cell (p := ⟨q2, 2, none⟩) hqq).trans hc2; go_simp; try with_reducible rfl)); simp only [Act.put, List.setIfInBounds_toArray, List.set_cons_zero, List.set_cons_succ])
            | fail)
          refine DetE.eff _ _ (by rfl) (by rfl) (fun wq hSq hkq K hK => ?_) (fun g2 => ?_)
          · go_simp
            refine (HSmq.out wq g1.1 hSq (hkq 8 _ rfl (by kernel_rfl))).mono ?_
            rintro e4 w4 ⟨rfl, hb4⟩
            go_wp2_with fail
            exact hK.out ((none, 0)) _ (hSq.trans (hb4.mono hSq.size)) hb4 (trivial) _ rfl
          simp only [Act.put, List.setIfInBounds_toArray, List.set_cons_zero, List.set_cons_succ]
          repeat (first
            | (refine DetE.skip (by rfl) ?_; simp only [Act.put, List.setIfInBounds_toArray, List.set_cons_zero, List.set_cons_succ])
            | (refine DetE.read (v := ?_) (by rfl) (by rfl) ?_ ?_; rotate_left; (· (intro wq hSq hkq; skip; go_simp; try with_reducible rfl)); simp only [Act.put, List.setIfInBounds_toArray, List.set_cons_zero, List.set_cons_succ])
            | fail)
          refine DetE.done fun wz hz hkz => ?_
          have HT2 := Lib.hid (HT.out.on hz)
          clear hkz hz HAllq HSmq HJq HRq hc2 HT
          go_wp2_with fail
          go_roundw
          case rel => exact ⟨k + 1, c9, _, _, _, some j5, jOb q1 p j5 M4, rjOb q2 q j5 N5, by omega, by go_num, rfl, rfl, ⟨⟨q1, M4, rfl, rfl⟩, ⟨q2, N5, rfl, rfl⟩, HT2.out.st, HKe.out, HFt.out⟩⟩
          case measure => simp [intOf]; omega
      · have e4 : (a.kind == 4) = false := by simp; omega
        have e5 : (a.kind == 5) = true := by simpa using k4
        have HG5 := HG
        have HKe5 := HKe
        clear HG HKe
        go_wp2_with fail
        refine (dStart_any p S D wz HG5.out.st.ok.1.1).mono ?_
        rintro e w6 ⟨rfl, hu⟩
        obtain ⟨D6, hg6⟩ := HG5.out.bl hu
        have HG6 := Lib.hid hg6
        clear hu hg6 HG5
        go_wp2_with fail
        refine (rStart_any q S E w6 HG6.out.st.ok.1.2).mono ?_
        rintro e w7 ⟨rfl, hu⟩
        obtain ⟨E7, hg7⟩ := HG6.out.br hu
        have HG7 := Lib.hid hg7
        have HKe7 : Hid ((S).start.keep.length ≤ 50) := Lib.hid HKe5.out
        clear hu hg7 HG6 HKe5
        generalize (S).start = S7 at *
        have HWf := Lib.hid ((show DK w7 p S7 D6 from HG7.out.st.ok.1.1).wf)
        go_wp2_with fail
        refine (jOpen_any p S7 D6 3 w7 (HG7.out.st.vs HV.out) (fun i hi => HG7.out.st.own i (.inl hi)) (by unfold inI64; omega) (by have := HKe7.out; omega) HG7.out.st.ok.1.1).mono ?_
        rintro e w8 ⟨D8, X8, v8, rfl, hu, hj⟩
        have HG8 := Lib.hid (HG7.out.upd (OUpd.left HG7.out.st.ok hu))
        have HIj := Lib.hid hj
        clear hu hj HG7
        go_wp2_with fail
        refine (sOpen_any q S7 E7 3 w8 (by unfold inI64; omega) (by have := HKe7.out; omega) HG8.out.st.ok.1.2).mono ?_
        rintro e w5 ⟨E9, Y8, u8, rfl, hu, hj⟩
        have HT5 := Lib.hid (show TSt w (tOb p q (openS S7 3) D8 (openS S7 3) E9 X8 Y8) b a w5 from HG8.out.upd (OUpd.right HG8.out.st.ok hu))
        have HIr := Lib.hid hj
        have HKe5 : Hid ((openS S7 3).keep.length ≤ 50) := Lib.hid (by rw [openS_keep]; exact HKe7.out)
        have HFt := Lib.hid (JFit.open HWf.out)
        clear hu hj HG8 HKe7 HWf
        generalize openS S7 3 = S9 at *
        generalize openO S7 3 = J at *
        generalize openC S7 3 = c9 at *
        cases J with
        | none =>
          obtain ⟨rfl, rfl⟩ := HIj.out
          obtain ⟨rfl, rfl⟩ := HIr.out
          have HT := HT5
          have HKe := HKe5
          clear HT5 HKe5
          go_wp2_with fail
          go_quiet (fail)
          go_wp2_with fail
          go_roundw
          case rel => exact ⟨k + 1, c9, _, _, _, none, Ob.nil, Ob.nil, by omega, by go_num, rfl, rfl, ⟨⟨rfl, rfl⟩, ⟨rfl, rfl⟩, (HT.out.on (below_drewN (Below.refl _ _) _)).st, HKe.out, fun _ e => nomatch e⟩⟩
          case measure => simp [intOf]; omega
        | some j5 =>
          obtain ⟨q1, M4, rfl, rfl⟩ := HIj.out
          obtain ⟨q2, N5, rfl, rfl⟩ := HIr.out
          have HT := HT5
          have HKe := HKe5
          clear HT5 HKe5
          go_wp2_with fail
          have HJq := Lib.hid (show JK w5 q1 p j5 M4 from HT.out.st.ok.1.1.1.2)
          have HRq := Lib.hid (show RJK w5 q2 q j5 N5 from HT.out.st.ok.1.2.1.2)
          have hqq := box_lt HRq.out.box
          have hc2 := HRq.out.c2
          have HAllq : Hid (∀ wq : World, Below w5.heap.size w5 wq → Calls Tryz.prog 25 #[.pointer (some ⟨q1, 0, none⟩)] wq fun e w' => ∃ A, e = .returned (.slice A j5.recs.length j5.recs.length) ∧ RdL 1 strE w' w'.heap.size A j5.recs ∧ OwnL w' wq.heap.size 9 1 strE A j5.recs.length j5.recs ∧ Below wq.heap.size wq w') := Lib.hid (fun wq hq => all_as ((jOb q1 p j5 M4).below HJq.out hq) rfl (by have := HFt.out.bound; omega))
          have HSmq : Hid (∀ (wq : World) (A4 : Option Addr), Below w5.heap.size w5 wq → RdL 1 strE wq wq.heap.size A4 j5.recs → Calls Tryz.prog 24 #[.slice A4 j5.recs.length j5.recs.length, .slice N5.A j5.recs.length N5.c] wq fun e w' => e = .returned (.bool true) ∧ Below wq.heap.size wq w') := Lib.hid (fun wq A4 hq h4 => same_refl j5.recs A4 N5.A j5.recs.length N5.c wq h4 ((HRq.out.recs.rd strLayJ).now hq) (by have := HFt.out.bound; omega))
          refine wp_region_below [(8, fun g => .slice g.1 j5.recs.length j5.recs.length, fun g w' => RdL 1 strE w' w'.heap.size g.1 j5.recs), (13, fun _ => .bool true, fun (_ : Option Addr × Nat) _ => True)] (by kernel_rfl) (by kernel_rfl) (by repeat (first | exact trivial | refine ⟨fun g wa wb hs hs' ht h => by first | exact trivial | exact h.now ht | exact h.below ht | exact ht.cell h | exact h, ?_⟩)) ?_
          rw [List.toList_toArray]
          repeat (first
            | (refine DetE.skip (by rfl) ?_; simp only [Act.put, List.setIfInBounds_toArray, List.set_cons_zero, List.set_cons_succ])
            | (refine DetE.read (v := ?_) (by rfl) (by rfl) ?_ ?_; rotate_left; (· (intro wq hSq hkq; skip; go_simp; try with_reducible rfl)); simp only [Act.put, List.setIfInBounds_toArray, List.set_cons_zero, List.set_cons_succ])
            | fail)
          refine DetE.eff _ _ (by rfl) (by rfl) (fun wq hSq hkq K hK => ?_) (fun g1 => ?_)
          · go_simp
            refine (HAllq.out wq hSq).mono ?_
            rintro e4 w4 ⟨A4, rfl, ho4, -, hb4⟩
            go_wp2_with fail
            exact hK.out ((A4, 0)) _ (hSq.trans (hb4.mono hSq.size)) hb4 (ho4) _ rfl
          simp only [Act.put, List.setIfInBounds_toArray, List.set_cons_zero, List.set_cons_succ]
          repeat (first
            | (refine DetE.skip (by rfl) ?_; simp only [Act.put, List.setIfInBounds_toArray, List.set_cons_zero, List.set_cons_succ])
            | (refine DetE.read (v := ?_) (by rfl) (by rfl) ?_ ?_; rotate_left; (· (intro wq hSq hkq; have hcq := (hSq.cell (p := ⟨q2, 2, none⟩) hqq).trans hc2; go_simp; try with_reducible rfl)); simp only [Act.put, List.setIfInBounds_toArray, List.set_cons_zero, List.set_cons_succ])
            | fail)
          refine DetE.eff _ _ (by rfl) (by rfl) (fun wq hSq hkq K hK => ?_) (fun g2 => ?_)
          · go_simp
            refine (HSmq.out wq g1.1 hSq (hkq 8 _ rfl (by kernel_rfl))).mono ?_
            rintro e4 w4 ⟨rfl, hb4⟩
            go_wp2_with fail
            exact hK.out ((none, 0)) _ (hSq.trans (hb4.mono hSq.size)) hb4 (trivial) _ rfl
          simp only [Act.put, List.setIfInBounds_toArray, List.set_cons_zero, List.set_cons_succ]
          repeat (first
            | (refine DetE.skip (by rfl) ?_; simp only [Act.put, List.setIfInBounds_toArray, List.set_cons_zero, List.set_cons_succ])
            | (refine DetE.read (v := ?_) (by rfl) (by rfl) ?_ ?_; rotate_left; (· (intro wq hSq hkq; skip; go_simp; try with_reducible rfl)); simp only [Act.put, List.setIfInBounds_toArray, List.set_cons_zero, List.set_cons_succ])
            | fail)
          refine DetE.done fun wz hz hkz => ?_
          have HT2 := Lib.hid (HT.out.on hz)
          clear hkz hz HAllq HSmq HJq HRq hc2 HT
          go_wp2_with fail
          go_roundw
          case rel => exact ⟨k + 1, c9, _, _, _, some j5, jOb q1 p j5 M4, rjOb q2 q j5 N5, by omega, by go_num, rfl, rfl, ⟨⟨q1, M4, rfl, rfl⟩, ⟨q2, N5, rfl, rfl⟩, HT2.out.st, HKe.out, HFt.out⟩⟩
          case measure => simp [intOf]; omega
    have e4 : (a.kind == 4) = false := by simp; omega
    have e5 : (a.kind == 5) = false := by simp; omega
    have HT5 := HT
    have HKe5 := HKe
    clear HT HKe
    obtain ⟨w5, hw5⟩ : ∃ x, x = wz := ⟨_, rfl⟩
    rw [← hw5] at HT5 c0 ⊢
    clear hw5
    cases J with
    | none =>
      obtain ⟨rfl, rfl⟩ := HIj.out
      obtain ⟨rfl, rfl⟩ := HIr.out
      have HT := HT5
      have HKe := HKe5
      clear HT5 HKe5
      go_wp2_with fail
      go_quiet (fail)
      go_wp2_with fail
      go_roundw
      case rel => exact ⟨k + 1, cc, _, _, _, none, Ob.nil, Ob.nil, by omega, by go_num, rfl, rfl, ⟨⟨rfl, rfl⟩, ⟨rfl, rfl⟩, (HT.out.on (below_drewN (Below.refl _ _) _)).st, HKe.out, fun _ e => nomatch e⟩⟩
      case measure => simp [intOf]; omega
    | some j5 =>
      obtain ⟨q1, M4, rfl, rfl⟩ := HIj.out
      obtain ⟨q2, N5, rfl, rfl⟩ := HIr.out
      have HT := HT5
      have HKe := HKe5
      clear HT5 HKe5
      go_wp2_with fail
      have HJq := Lib.hid (show JK w5 q1 p j5 M4 from HT.out.st.ok.1.1.1.2)
      have HRq := Lib.hid (show RJK w5 q2 q j5 N5 from HT.out.st.ok.1.2.1.2)
      have hqq := box_lt HRq.out.box
      have hc2 := HRq.out.c2
      have HAllq : Hid (∀ wq : World, Below w5.heap.size w5 wq → Calls Tryz.prog 25 #[.pointer (some ⟨q1, 0, none⟩)] wq fun e w' => ∃ A, e = .returned (.slice A j5.recs.length j5.recs.length) ∧ RdL 1 strE w' w'.heap.size A j5.recs ∧ OwnL w' wq.heap.size 9 1 strE A j5.recs.length j5.recs ∧ Below wq.heap.size wq w') := Lib.hid (fun wq hq => all_as ((jOb q1 p j5 M4).below HJq.out hq) rfl (by have := HFt.out.bound; omega))
      have HSmq : Hid (∀ (wq : World) (A4 : Option Addr), Below w5.heap.size w5 wq → RdL 1 strE wq wq.heap.size A4 j5.recs → Calls Tryz.prog 24 #[.slice A4 j5.recs.length j5.recs.length, .slice N5.A j5.recs.length N5.c] wq fun e w' => e = .returned (.bool true) ∧ Below wq.heap.size wq w') := Lib.hid (fun wq A4 hq h4 => same_refl j5.recs A4 N5.A j5.recs.length N5.c wq h4 ((HRq.out.recs.rd strLayJ).now hq) (by have := HFt.out.bound; omega))
      refine wp_region_below [(8, fun g => .slice g.1 j5.recs.length j5.recs.length, fun g w' => RdL 1 strE w' w'.heap.size g.1 j5.recs), (13, fun _ => .bool true, fun (_ : Option Addr × Nat) _ => True)] (by kernel_rfl) (by kernel_rfl) (by repeat (first | exact trivial | refine ⟨fun g wa wb hs hs' ht h => by first | exact trivial | exact h.now ht | exact h.below ht | exact ht.cell h | exact h, ?_⟩)) ?_
      rw [List.toList_toArray]
      repeat (first
        | (refine DetE.skip (by rfl) ?_; simp only [Act.put, List.setIfInBounds_toArray, List.set_cons_zero, List.set_cons_succ])
        | (refine DetE.read (v := ?_) (by rfl) (by rfl) ?_ ?_; rotate_left; (· (intro wq hSq hkq; skip; go_simp; try with_reducible rfl)); simp only [Act.put, List.setIfInBounds_toArray, List.set_cons_zero, List.set_cons_succ])
        | fail)
      refine DetE.eff _ _ (by rfl) (by rfl) (fun wq hSq hkq K hK => ?_) (fun g1 => ?_)
      · go_simp
        refine (HAllq.out wq hSq).mono ?_
        rintro e4 w4 ⟨A4, rfl, ho4, -, hb4⟩
        go_wp2_with fail
        exact hK.out ((A4, 0)) _ (hSq.trans (hb4.mono hSq.size)) hb4 (ho4) _ rfl
      simp only [Act.put, List.setIfInBounds_toArray, List.set_cons_zero, List.set_cons_succ]
      repeat (first
        | (refine DetE.skip (by rfl) ?_; simp only [Act.put, List.setIfInBounds_toArray, List.set_cons_zero, List.set_cons_succ])
        | (refine DetE.read (v := ?_) (by rfl) (by rfl) ?_ ?_; rotate_left; (· (intro wq hSq hkq; have hcq := (hSq.cell (p := ⟨q2, 2, none⟩) hqq).trans hc2; go_simp; try with_reducible rfl)); simp only [Act.put, List.setIfInBounds_toArray, List.set_cons_zero, List.set_cons_succ])
        | fail)
      refine DetE.eff _ _ (by rfl) (by rfl) (fun wq hSq hkq K hK => ?_) (fun g2 => ?_)
      · go_simp
        refine (HSmq.out wq g1.1 hSq (hkq 8 _ rfl (by kernel_rfl))).mono ?_
        rintro e4 w4 ⟨rfl, hb4⟩
        go_wp2_with fail
        exact hK.out ((none, 0)) _ (hSq.trans (hb4.mono hSq.size)) hb4 (trivial) _ rfl
      simp only [Act.put, List.setIfInBounds_toArray, List.set_cons_zero, List.set_cons_succ]
      repeat (first
        | (refine DetE.skip (by rfl) ?_; simp only [Act.put, List.setIfInBounds_toArray, List.set_cons_zero, List.set_cons_succ])
        | (refine DetE.read (v := ?_) (by rfl) (by rfl) ?_ ?_; rotate_left; (· (intro wq hSq hkq; skip; go_simp; try with_reducible rfl)); simp only [Act.put, List.setIfInBounds_toArray, List.set_cons_zero, List.set_cons_succ])
        | fail)
      refine DetE.done fun wz hz hkz => ?_
      have HT2 := Lib.hid (HT.out.on hz)
      clear hkz hz HAllq HSmq HJq HRq hc2 HT
      go_wp2_with fail
      go_roundw
      case rel => exact ⟨k + 1, cc, _, _, _, some j5, jOb q1 p j5 M4, rjOb q2 q j5 N5, by omega, by go_num, rfl, rfl, ⟨⟨q1, M4, rfl, rfl⟩, ⟨q2, N5, rfl, rfl⟩, HT2.out.st, HKe.out, HFt.out⟩⟩
      case measure => simp [intOf]; omega
end Go.Proofs.YtoicnokidlkjfaaGreatDoor
