/- Contracts and plain laws, joined: JnL, JnM. -/
import Derived.Test.YtoicnokidlkjfaaGreatDoorQba
import Derived.Test.YtoicnokidlkjfaaGreatDoorQaj
import Derived.Test.YtoicnokidlkjfaaGreatDoorQae
import Derived.Deep.RegionHeld3
import Derived.StillTailTactics
/- Contracts of journal: Len, Get, All, Sync, Append. -/
namespace Go.Proofs.YtoicnokidlkjfaaGreatDoor
open Go.RowKit
set_option maxRecDepth 100000

section
variable {w : World} {q p : Nat} {J : JS} {L : JL}
theorem jLen_any (h : JK w q p J L) : Calls Tryz.prog 31 #[.pointer (some ⟨q, 0, none⟩)] w fun e w' => e = .returned (.int .i64 J.recs.length) ∧ w = w' := by
  have c2 := h.c2
  clear h
  go_enter Tryz.func31, Tryz.ntmps31
  go_wp2_with fail
  go_ret
  exact ⟨rfl, rfl⟩
def JS.get (J : JS) (i : Int) : List UInt8 := if i < 0 then [] else (J.recs[i.toNat]?).getD []
theorem jGet_any (h : JK w q p J L) (i : Int) : Calls Tryz.prog 32 #[.pointer (some ⟨q, 0, none⟩), .int .i64 i] w fun e w' => e = .returned (.string (bs (J.get i))) ∧ Below w.heap.size w w' := by
  have c2 := h.c2
  have HR := Lib.hid (h.recs.rd strLayJ)
  clear h
  go_enter Tryz.func32, Tryz.ntmps32
  by_cases g1 : i < 0
  · have d1 : decide (i < 0) = true := by simpa using g1
    have HE : Hid (J.get i = []) := Lib.hid (by unfold JS.get; rw [if_pos g1])
    clear g1
    go_wp2_with fail
    go_ret
    exact ⟨by rw [HE.out]; rfl, Below.refl _ _⟩
  have d1 : decide (i < 0) = false := by simpa using g1
  obtain ⟨k, rfl⟩ : ∃ k : Nat, i = k := ⟨i.toNat, by omega⟩
  by_cases g2 : J.recs.length ≤ k
  · have d2 : decide (J.recs.length ≤ k) = true := by simp; omega
    have HE : Hid (J.get (k : Int) = []) := Lib.hid (by unfold JS.get; rw [if_neg g1]; simp [g2])
    clear g1 g2
    go_wp2_with fail
    go_ret
    exact ⟨by rw [HE.out]; rfl, Below.refl _ _⟩
  have d2 : decide (J.recs.length ≤ k) = false := by simp; omega
  have hlt : k < J.recs.length := by omega
  obtain ⟨b, off, hA, hb, hc⟩ := HR.out.at_ hlt
  have c0 : w.cell? ⟨b, off + k, none⟩ = some (.string (bs J.recs[k])) := by simpa using hc 0 _ rfl
  have HE : Hid (J.get (k : Int) = J.recs[k]) := Lib.hid (by unfold JS.get; rw [if_neg g1]; simp [hlt])
  rw [hA] at c2
  generalize J.recs[k] = r at *
  clear g1 g2 hc hA
  go_wp2_with fail
  go_ret
  exact ⟨by rw [HE.out]; rfl, by first | exact Below.refl _ _ | exact (Below.refl _ _).drew⟩
theorem jAll_any (h : JK w q p J L) (hn : J.recs.length ≤ 1000000000000) : Calls Tryz.prog 25 #[.pointer (some ⟨q, 0, none⟩)] w fun e w' => ∃ A, e = .returned (.slice A J.recs.length J.recs.length) ∧ OwnL w' w.heap.size 9 1 strE A J.recs.length J.recs ∧ Below w.heap.size w w' := by
  have c2 := h.c2
  have HR := Lib.hid (h.recs.rd strLayJ)
  have hq := box_lt h.box
  have c3 := fun o => (cell_old w o q 2 hq).trans c2
  obtain ⟨inf, hi, h0, h1, h2⟩ := info_parts (show (Tryz.prog.info? 9).map (fun i => (i.zero, i.size, i.bytes)) = some (some (.string ByteArray.empty), 1, 16) by kernel_rfl)
  have HI := Lib.hid (And.intro hi (And.intro h0 (And.intro h1 h2)))
  have HSz : Hid ((Tryz.prog.info? 9).map (·.size) = some 1) := Lib.hid (by kernel_rfl)
  clear h hi h0 h1 h2 hq
  generalize J.recs = rs at *
  go_enter Tryz.func25, Tryz.ntmps25
  go_wp2_with (first
    | (refine wp_make_1 rfl _ _ rfl Tryz.underlying46 HI.out.1 HI.out.2.1 HI.out.2.2.1 (by rw [HI.out.2.2.2]; decide) rfl (n := rs.length) rfl rfl hn ?_)
    | (refine wp_copy_whole rfl (.tmp 10) (.tmp 14) 46 46 rfl 9 Tryz.underlying46 HSz.out strLayJ (by simp [strE, Value.oneCell']) rfl rfl rfl (heap_alloc_new _ _) (by simp) ((HR.out.now ((Below.refl _ _).alloc (Nat.le_refl _) _))) (((Below.refl w.heap.size w).alloc (Nat.le_refl _) _)) (Nat.le_refl _) ?_; intro w1 hg hb; have HG := Lib.hid hg; have HB := Lib.hid hb; clear hg hb)
    | fail)
  go_ret
  exact ⟨_, rfl, OwnL.of_block strLayJ HG.out (Nat.le_refl _) (by simp [maxLen]; omega), HB.out⟩
end
def jBoth (p q : Nat) (S : DS) (L : DL) (J : JS) (M : JL) : Ob := (dOb p S L).sep (jOb q p J M)
end Go.Proofs.YtoicnokidlkjfaaGreatDoor
/- Contracts of journal: Sync, Append. -/
namespace Go.Proofs.YtoicnokidlkjfaaGreatDoor
open Go.RowKit
set_option maxRecDepth 100000

section
variable {w w1 w' : World} {q p : Nat} {J J2 : JS} {L : JL} {S S2 : DS} {D : DL}
theorem jBoth.j (h : (jBoth p q S D J L).ok w) : JK w q p J L := h.1.2
theorem jBoth.d (h : (jBoth p q S D J L).ok w) : DK w p S D := h.1.1
theorem jBoth.disk (h : (jBoth p q S D J L).ok w) (u : Upd p S2 D w w') : ∃ D2, OUpd (jBoth p q S D J L) (jBoth p q S2 D2 J L) w w' := by
  obtain ⟨D2, v⟩ := u.ob (S := S)
  exact ⟨D2, OUpd.left h v⟩
theorem jBoth.jour {L2 : JL} (h : (jBoth p q S D J L).ok w) (u : OUpd (jOb q p J L) (jOb q p J2 L2) w w') : OUpd (jBoth p q S D J L) (jBoth p q S D J2 L2) w w' := OUpd.right h u
/-- What Append and Sync change. -/
def JUpd (p q : Nat) (S : DS) (D : DL) (J : JS) (L : JL) (S2 : DS) (J2 : JS) (w w' : World) : Prop := ∃ D2 L2, OUpd (jBoth p q S D J L) (jBoth p q S2 D2 J2 L2) w w'
theorem JUpd.same (h : (jBoth p q S D J L).ok w) (hb : Below w.heap.size w w') : JUpd p q S D J L S J w w' := ⟨D, L, OUpd.of_below h hb⟩
end
set_option maxHeartbeats 4000000 in
theorem jSync_any (p q : Nat) (S : DS) (D : DL) (J : JS) (L : JL) (w : World) (hf : inI64 J.file) (hk : S.keep.length ≤ 4194320) (h : (jBoth p q S D J L).ok w) :
    Calls Tryz.prog 14 #[.pointer (some ⟨q, 0, none⟩)] w fun e w' => e = .returned (.int .i64 (synC S J)) ∧ JUpd p q S D J L (synS S J) (synJ S J) w w' := by
  have H := Lib.hid h
  have c0 := (jBoth.j h).c0
  have c1 := (jBoth.j h).c1
  have c4 := (jBoth.j h).c4
  have HF := Lib.hid hf
  cases hb : J.bad with
  | true =>
    have HQ : Hid (synC S J = 7 ∧ JUpd p q S D J L (synS S J) (synJ S J) w w) := Lib.hid ⟨by unfold synC; rw [hb]; rfl, by unfold synS synJ; rw [hb]; exact JUpd.same h (Below.refl _ _)⟩
    rw [hb] at c4
    clear h hb
    go_enter Tryz.func14, Tryz.ntmps14
    go_wp2_with fail
    go_ret
    exact ⟨by rw [HQ.out.1]; rfl, HQ.out.2⟩
  | false =>
    have HE : Hid (synC S J = S.syncC J.file ∧ synS S J = S.sync J.file ∧ synJ S J = { J with bad := S.syncC J.file != 0 }) := Lib.hid (by unfold synC synS synJ; rw [hb]; exact ⟨rfl, rfl, rfl⟩)
    rw [hb] at c4
    clear h hb
    go_enter Tryz.func14, Tryz.ntmps14
    go_wp2_with fail
    go_still_tail 8, (by kernel_rfl)
    change wpList _ _ _ _ _ w.drew
    have HD := Lib.hid (Below.drew (Below.refl w.heap.size w))
    have H1 := Lib.hid (Ob.below H.out HD.out)
    clear c0 c1 c4
    generalize w.drew = wd at *
    go_wp2_with fail
    refine (dSync_any p S D _ J.file HF.out hk (jBoth.d H1.out)).mono ?_
    rintro e w1 ⟨rfl, hu⟩
    obtain ⟨D1, u0⟩ := jBoth.disk H1.out hu
    have u1 := (OUpd.of_below H.out HD.out).trans u0
    have HU := Lib.hid u1
    have cz := (jBoth.j u1.ok).free
    have d4 := (jBoth.j u1.ok).c4
    clear hu u1 u0
    go_wp2_with fail
    go_ret
    refine ⟨by rw [HE.out.1]; rfl, D1, L, ?_⟩
    rw [HE.out.2.1, HE.out.2.2]
    exact HU.out.trans (jBoth.jour HU.out.ok ((jBoth.j HU.out.ok).mark _))
/-- What append does to the records. -/
theorem appS_rec {S : DS} {J : JS} {s : List UInt8} (h : J.pre s = 0) : appC S J s = S.writeC J.file J.at_ (bs (formF s)) ∧ appS S J s = S.write J.file J.at_ (bs (formF s)) ∧
    (S.writeC J.file J.at_ (bs (formF s)) ≠ 0 → appJ S J s = { J with bad := true }) ∧ (S.writeC J.file J.at_ (bs (formF s)) = 0 → appJ S J s = { J with recs := J.recs ++ [s] }) := by
  unfold appC appS appJ
  rw [h]
  refine ⟨rfl, rfl, fun hc => ?_, fun hc => ?_⟩
  · rw [if_neg (by simp), if_pos hc]
  · rw [if_neg (by simp), if_neg (by simpa using hc)]
theorem appS_pre {S : DS} {J : JS} {s : List UInt8} {c : Int} (h : J.pre s = c) (hc : c ≠ 0) : appC S J s = c ∧ appS S J s = S ∧ appJ S J s = J := by
  unfold appC appS appJ
  rw [h, if_pos hc, if_pos hc, if_pos hc]
  exact ⟨rfl, rfl, rfl⟩
set_option maxHeartbeats 4000000 in
theorem jAppend_any {B : Nat} (p q : Nat) (S : DS) (D : DL) (J : JS) (L : JL) (s : List UInt8) (w : World) (hV : Vs B w) (hs : s.length ≤ 1000000000) (ha : J.at_ ≤ 1000000000000) (hf : inI64 J.file) (hk : S.keep.length ≤ 4194320) (h : (jBoth p q S D J L).ok w) :
    Calls Tryz.prog 12 #[.pointer (some ⟨q, 0, none⟩), .string (bs s)] w fun e w' => e = .returned (.int .i64 (appC S J s)) ∧ JUpd p q S D J L (appS S J s) (appJ S J s) w w' := by
  have H := Lib.hid h
  have HF := Lib.hid hf
  have hsz : (bs s).size = s.length := bs_size s
  have hfs : (bs (formF s)).size = (formF s).length := bs_size _
  have hfl := formF_len s (by omega)
  clear h hf
  go_enter Tryz.func12, Tryz.ntmps12
  go_wp2_with fail
  refine (jForm_any s w hV hs).mono ?_
  rintro e w1 ⟨rfl, hb1⟩
  have H1 := Lib.hid (Ob.below H.out hb1)
  have HB1 := Lib.hid hb1
  have c0 := (jBoth.j H1.out).c0
  have c1 := (jBoth.j H1.out).c1
  have c2 := (jBoth.j H1.out).c2
  have c3 := (jBoth.j H1.out).c3
  have c4 := (jBoth.j H1.out).c4
  clear hb1
  generalize hft : formF s = ft at *
  have HFt := Lib.hid hft
  clear hft
  cases hb : J.bad with
  | true =>
    have hp : J.pre s = 7 := by unfold JS.pre; rw [hb]; rfl
    have HQ := Lib.hid (appS_pre (S := S) hp (by decide))
    rw [hb] at c4
    clear hb hp
    go_wp2_with fail
    go_ret
    exact ⟨by rw [HQ.out.1]; rfl, by rw [HQ.out.2.1, HQ.out.2.2]; exact JUpd.same H.out HB1.out⟩
  | false =>
    rw [hb] at c4
    by_cases g1 : 20000 < s.length
    · have hp : J.pre s = 3 := by unfold JS.pre; rw [hb, if_neg (by decide), if_pos g1]
      have HQ := Lib.hid (appS_pre (S := S) hp (by decide))
      have d1 : decide ((20000 : Int) < s.length) = true := by simp; omega
      clear hb hp g1
      go_wp2_with fail
      go_ret
      exact ⟨by rw [HQ.out.1]; rfl, by rw [HQ.out.2.1, HQ.out.2.2]; exact JUpd.same H.out HB1.out⟩
    have d1 : decide ((20000 : Int) < s.length) = false := by simp; omega
    by_cases g2 : 1048576 < J.at_ + ft.length
    · have hp : J.pre s = 6 := by unfold JS.pre; rw [hb, if_neg (by decide), if_neg g1, HFt.out, if_pos g2]
      have HQ := Lib.hid (appS_pre (S := S) hp (by decide))
      have d2 : decide ((1048576 : Int) < (J.at_ : Int) + ft.length) = true := by simp; omega
      clear hb hp g1 g2
      go_wp2_with fail
      go_ret
      exact ⟨by rw [HQ.out.1]; rfl, by rw [HQ.out.2.1, HQ.out.2.2]; exact JUpd.same H.out HB1.out⟩
    have d2 : decide ((1048576 : Int) < (J.at_ : Int) + ft.length) = false := by simp; omega
    have hp : J.pre s = 0 := by unfold JS.pre; rw [hb, if_neg (by decide), if_neg g1, HFt.out, if_neg g2]
    have HQ := Lib.hid (appS_rec (S := S) hp)
    have HG : Hid (J.at_ + ft.length ≤ 1048576) := Lib.hid (by omega)
    have hat : inI64 (J.at_ : Int) := by unfold inI64; omega
    rw [HFt.out] at HQ
    clear hb hp g1 g2
    go_wp2_with fail
    go_still_tail 13, (by kernel_rfl)
    change wpList _ _ _ _ _ w1.drew
    have HD := Lib.hid (Below.drew (Below.refl w1.heap.size w1))
    have H2 := Lib.hid (Ob.below H1.out HD.out)
    have HB2 := Lib.hid (HB1.out.trans (HD.out.mono HB1.out.size))
    clear c0 c1 c2 c3 c4 HD H1 HB1
    generalize w1.drew = wd at *
    go_wp2_with fail
    refine (dWrite_any p S D _ J.file J.at_ (bs ft) HF.out hat (by omega) hk (jBoth.d H2.out)).mono ?_
    rintro e w2 ⟨rfl, hu⟩
    obtain ⟨D1, u0⟩ := jBoth.disk H2.out hu
    have u1 := (OUpd.of_below H.out HB2.out).trans u0
    have HU := Lib.hid u1
    have cz := (jBoth.j u1.ok).free
    have c2 := (jBoth.j u1.ok).c2
    have c3 := (jBoth.j u1.ok).c3
    have c4 := (jBoth.j u1.ok).c4
    clear hu u1 u0
    by_cases g3 : S.writeC J.file J.at_ (bs ft) = 0
    rotate_left
    · have d3 : (S.writeC J.file J.at_ (bs ft) != 0) = true := by simpa using g3
      have HE := Lib.hid (HQ.out.2.2.1 g3)
      clear g3
      go_wp2_with fail
      go_ret
      refine ⟨by rw [HQ.out.1]; rfl, D1, L, ?_⟩
      rw [HQ.out.2.1, HE.out]
      exact HU.out.trans (jBoth.jour HU.out.ok ((jBoth.j HU.out.ok).mark _))
    have d3 : (S.writeC J.file J.at_ (bs ft) != 0) = false := by simpa using g3
    have HE := Lib.hid (HQ.out.2.2.2 g3)
    have HG3 := Lib.hid g3
    clear g3
    have HJ2 := Lib.hid (jBoth.j HU.out.ok)
    have hq := box_lt HJ2.out.box
    clear cz c4
    go_wp2_with fail
    refine wp_region_J (S := fun w' => w'.cell? ⟨q, 2, none⟩ = some (.slice L.A J.recs.length L.c) ∧ w'.cell? ⟨q, 3, none⟩ = some (.int .i64 J.at_)) (fun i => [18, 21].contains i) (by kernel_rfl) (⟨c2, c3⟩) (fun hHeld => ?_)
    clear c2 c3
    refine wpAnyJ_pure (i := 0) (v := ?_) rfl (by kernel_rfl) (by kernel_rfl) (by kernel_rfl) (fun _ _ _ h => h) (Or.inl ⟨by rfl, ?_⟩) ?_
    rotate_left
    · intro wq _
      go_simp
      try with_reducible rfl
    simp only [Act.put, List.setIfInBounds_toArray, List.set_cons_zero, List.set_cons_succ]
    refine wpAnyJ_pure (i := 1) (v := ?_) rfl (by kernel_rfl) (by kernel_rfl) (by kernel_rfl) (fun _ _ _ h => h) (Or.inl ⟨by rfl, ?_⟩) ?_
    rotate_left
    · intro wq _
      go_simp
      try with_reducible rfl
    simp only [Act.put, List.setIfInBounds_toArray, List.set_cons_zero, List.set_cons_succ]
    refine wpAnyJ_pure (i := 2) (v := ?_) rfl (by kernel_rfl) (by kernel_rfl) (by kernel_rfl) (fun _ _ _ h => h) (Or.inl ⟨by rfl, ?_⟩) ?_
    rotate_left
    · intro wq _
      go_simp
      try with_reducible rfl
    simp only [Act.put, List.setIfInBounds_toArray, List.set_cons_zero, List.set_cons_succ]
    refine wpAnyJ_pure (i := 3) (v := ?_) rfl (by kernel_rfl) (by kernel_rfl) (by kernel_rfl) (fun _ _ _ h => h) (Or.inl ⟨by rfl, ?_⟩) ?_
    rotate_left
    · intro wq _
      go_simp
      try with_reducible rfl
    simp only [Act.put, List.setIfInBounds_toArray, List.set_cons_zero, List.set_cons_succ]
    refine wpAnyJ_pure (i := 4) (v := ?_) rfl (by kernel_rfl) (by kernel_rfl) (by kernel_rfl) (fun _ _ _ h => h) (Or.inl ⟨by rfl, ?_⟩) ?_
    rotate_left
    · intro wq _
      go_simp
      try with_reducible rfl
    simp only [Act.put, List.setIfInBounds_toArray, List.set_cons_zero, List.set_cons_succ]
    refine wpAnyJ_take (i := 5) (v := ?_) rfl (by kernel_rfl) (by kernel_rfl) (by kernel_rfl) (by kernel_rfl) (fun _ _ _ h => h) (Or.inl ⟨by rfl, ?_⟩) hHeld ?_
    rotate_left
    · intro wq hSq
      obtain ⟨h2, h3⟩ := hSq
      go_simp
      try with_reducible rfl
    simp only [Act.put, List.setIfInBounds_toArray, List.set_cons_zero, List.set_cons_succ]
    refine wpAnyJ_pure (i := 6) (v := ?_) rfl (by kernel_rfl) (by kernel_rfl) (by kernel_rfl) (fun _ _ _ h => h) (Or.inl ⟨by rfl, ?_⟩) ?_
    rotate_left
    · intro wq _
      go_simp
      try with_reducible rfl
    simp only [Act.put, List.setIfInBounds_toArray, List.set_cons_zero, List.set_cons_succ]
    refine wpAnyJ_pure (i := 9) (v := ?_) rfl (by kernel_rfl) (by kernel_rfl) (by kernel_rfl) (fun _ _ _ h => h) (Or.inl ⟨by rfl, ?_⟩) ?_
    rotate_left
    · intro wq _
      go_simp
      try with_reducible rfl
    simp only [Act.put, List.setIfInBounds_toArray, List.set_cons_zero, List.set_cons_succ]
    refine wpAnyJ_pure (i := 10) (v := ?_) rfl (by kernel_rfl) (by kernel_rfl) (by kernel_rfl) (fun _ _ _ h => h) (Or.inl ⟨by rfl, ?_⟩) ?_
    rotate_left
    · intro wq _
      go_simp
      try with_reducible rfl
    simp only [Act.put, List.setIfInBounds_toArray, List.set_cons_zero, List.set_cons_succ]
    refine wpAnyJ_pure (i := 11) (v := ?_) rfl (by kernel_rfl) (by kernel_rfl) (by kernel_rfl) (fun _ _ _ h => h) (Or.inl ⟨by rfl, ?_⟩) ?_
    rotate_left
    · intro wq _
      go_simp
      try with_reducible rfl
    simp only [Act.put, List.setIfInBounds_toArray, List.set_cons_zero, List.set_cons_succ]
    refine wpAnyJ_take (i := 12) (v := ?_) rfl (by kernel_rfl) (by kernel_rfl) (by kernel_rfl) (by kernel_rfl) (fun _ _ _ h => h) (Or.inl ⟨by rfl, ?_⟩) hHeld ?_
    rotate_left
    · intro wq hSq
      obtain ⟨h2, h3⟩ := hSq
      go_simp
      try with_reducible rfl
    simp only [Act.put, List.setIfInBounds_toArray, List.set_cons_zero, List.set_cons_succ]
    refine wpAnyJ_pure (i := 13) (v := ?_) rfl (by kernel_rfl) (by kernel_rfl) (by kernel_rfl) (fun _ _ _ h => h) (Or.inl ⟨by rfl, ?_⟩) ?_
    rotate_left
    · intro wq _
      go_simp
      try with_reducible rfl
    simp only [Act.put, List.setIfInBounds_toArray, List.set_cons_zero, List.set_cons_succ]
    refine wpAnyJ_pure (i := 14) (v := ?_) rfl (by kernel_rfl) (by kernel_rfl) (by kernel_rfl) (fun _ _ _ h => h) (Or.inl ⟨by rfl, ?_⟩) ?_
    rotate_left
    · intro wq _
      go_simp
      try with_reducible rfl
    simp only [Act.put, List.setIfInBounds_toArray, List.set_cons_zero, List.set_cons_succ]
    refine wpAnyJ_pure (i := 15) (v := ?_) rfl (by kernel_rfl) (by kernel_rfl) (by kernel_rfl) (fun _ _ _ h => h) (Or.inl ⟨by rfl, ?_⟩) ?_
    rotate_left
    · intro wq _
      go_simp
      try with_reducible rfl
    simp only [Act.put, List.setIfInBounds_toArray, List.set_cons_zero, List.set_cons_succ]
    have hrl : J.recs.length ≤ J.at_ := enc_len formF formF_pos J.recs
    refine wpAnyJ_one (i := 7) rfl (by kernel_rfl) (fun K hK => ?_)
    go_simp
    refine hK.out _ _ (fun _ h => ⟨(cell_old w2 _ q 2 hq).trans h.1, (cell_old w2 _ q 3 hq).trans h.2⟩) ?_
    clear hK K
    refine wpAnyJ_one (i := 8) rfl (by kernel_rfl) (fun K hK => ?_)
    refine step_append_l rfl (.tmp 52) (.tmp 54) rfl slStrJ strLayJ 0 J.recs [s] rfl rfl (HJ2.out.recs.alloc _).drew rfl rfl ⟨_, (RdL.one w2 s _ 9 rfl _ rfl).drew⟩ (by have := HG.out; simp; omega) (Nat.zero_le _) ?_
    intro A2 c2 w5 hown hg hbl hat
    simp only [own_blk] at hg hat
    have hg2 : (w2.alloc (.cells #[.string (bs s)] 9)).grownBy w5 (slBlk L.A) := ⟨hg.os, hg.tape, hg.output, hg.size, hg.block⟩
    have HAdd := Lib.hid (fun k n hn hk => HJ2.out.add s (.cells #[.string (bs s)] 9) (n := n) (k := k) hown hg2 hat hn hk)
    have hbox : w5.heap[q]? = some (.cells (jBox p J L) 70 (0, 0)) :=
      (hg2.block q (by simp; omega) (fun e => HJ2.out.qa q e.symm rfl)).trans ((Below.heap_alloc w2 _ q hq).trans HJ2.out.box)
    clear hown hg hbl hat hg2
    refine hK.out _ _ (fun _ h => ⟨box_cell hbox 2 _ rfl, box_cell hbox 3 _ rfl⟩) ?_
    clear hK K
    have e2 : w5.cell? ⟨q, 2, none⟩ = some (.slice L.A J.recs.length L.c) := box_cell hbox 2 _ rfl
    have e3 : w5.cell? ⟨q, 3, none⟩ = some (.int .i64 J.at_) := box_cell hbox 3 _ rfl
    have ez := fun j => box_free hbox j
    clear hbox hHeld
    refine wpAnyJ_pure (i := 16) (v := ?_) rfl (by kernel_rfl) (by kernel_rfl) (by kernel_rfl) (fun _ _ _ h => h) (Or.inl ⟨by rfl, ?_⟩) ?_
    rotate_left
    · intro wq _
      go_simp
      try with_reducible rfl
    simp only [Act.put, List.setIfInBounds_toArray, List.set_cons_zero, List.set_cons_succ]
    refine wpAnyJ_pure (i := 17) (v := ?_) rfl (by kernel_rfl) (by kernel_rfl) (by kernel_rfl) (fun _ _ _ h => h) (Or.inl ⟨by rfl, ?_⟩) ?_
    rotate_left
    · intro wq _
      go_simp
      try with_reducible rfl
    simp only [Act.put, List.setIfInBounds_toArray, List.set_cons_zero, List.set_cons_succ]
    refine wpAnyJ_one (i := 18) rfl (by kernel_rfl) (fun K hK => ?_)
    go_simp
    refine hK.out _ _ (fun h => nomatch h) ?_
    clear hK K
    refine wpAnyJ_pure (i := 19) (v := ?_) rfl (by kernel_rfl) (by kernel_rfl) (by kernel_rfl) (fun _ _ _ h => h) (Or.inl ⟨by rfl, ?_⟩) ?_
    rotate_left
    · intro wq _
      go_simp
      try with_reducible rfl
    simp only [Act.put, List.setIfInBounds_toArray, List.set_cons_zero, List.set_cons_succ]
    refine wpAnyJ_pure (i := 20) (v := ?_) rfl (by kernel_rfl) (by kernel_rfl) (by kernel_rfl) (fun _ _ _ h => h) (Or.inl ⟨by rfl, ?_⟩) ?_
    rotate_left
    · intro wq _
      go_simp
      try with_reducible rfl
    simp only [Act.put, List.setIfInBounds_toArray, List.set_cons_zero, List.set_cons_succ]
    refine wpAnyJ_one (i := 21) rfl (by kernel_rfl) (fun K hK => ?_)
    go_simp
    refine hK.out _ _ (fun h => nomatch h) ?_
    clear hK K
    refine wpAnyJ_done (by kernel_rfl) ?_ _
    have HFin := Lib.hid (HAdd.out (J.recs.length + 1) ((J.at_ : Int) + ft.length) (by show _ = (((formsF (J.recs ++ [s])).length : Nat) : Int); rw [formsF_snoc, List.length_append, HFt.out]; rfl) (by simp))
    clear HAdd
    go_wp2_with fail
    go_ret
    refine ⟨by rw [HQ.out.1, HG3.out]; rfl, D1, ⟨A2, c2⟩, ?_⟩
    have hwr : IntKind.i64.wrap ((J.at_ : Int) + ft.length) = (J.at_ : Int) + ft.length := by rw [IntKind.wrap_i64]; have := HG.out; omega
    rw [HQ.out.2.1, HE.out, hwr]
    exact HU.out.trans (jBoth.jour HU.out.ok HFin.out)
end Go.Proofs.YtoicnokidlkjfaaGreatDoor
