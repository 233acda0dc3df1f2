/- The walk of DiskTells. -/
import Derived.Test.YtjgeefagnddpfaaDkM
import Derived.Test.YtjgeefagnddpfaaDkRJ
namespace Go.Proofs.Ytjgeefagnddpfaa
open Go.RowKit

/-- A disk and a disk of the reference that share nothing that either changes; nothing of them lies below B. -/
structure Pair (B : Nat) (w : World) (p : Nat) (S : DS) (L : DL) (q : Nat) (T : DS) (M : RL) : Prop where
  l : DK w p S L
  r : RK w q T M
  lo : Own B p L
  ro : ∀ i, M.own q i → B ≤ i
  ap : ∀ i, L.own p i → ¬ M.own q i
  kl : ∀ i, slBlk L.kA = some i → ¬ M.own q i
  kr : ∀ i, slBlk M.kA = some i → ¬ L.own p i
section
variable {B p q p2 : Nat} {w w' : World} {S S' S2 T T' : DS} {L L2 : DL} {M : RL}
theorem Pair.left1 {L' : DL} (t : Pair B w p S L q T M) (hB : B ≤ w.heap.size) (d : DK w' p S' L') (tt : Turn (L.own p) w w') (o : ∀ i, L'.own p i → L.own p i ∨ w.heap.size ≤ i) (k : ∀ i, slBlk L'.kA = some i → slBlk L.kA = some i ∨ w.heap.size ≤ i) : Pair B w' p S' L' q T M := by
  refine ⟨d, t.r.frame tt (fun i hi hF => ?_), ⟨fun i hi => ?_⟩, t.ro, fun i h1 h2 => ?_, fun i h1 h2 => ?_, fun i h1 h2 => ?_⟩
  · rcases hi with hi | hi
    · exact t.ap i hF hi
    · exact t.kr i hi hF
  · rcases o i hi with h | h
    · exact t.lo.own i h
    · omega
  · rcases o i h1 with h | h
    · exact t.ap i h h2
    · have := t.r.lt i h2
      omega
  · rcases k i h1 with h | h
    · exact t.kl i h h2
    · have := t.r.lt i h2
      omega
  · rcases o i h2 with h | h
    · exact t.kr i h1 h
    · have := t.r.kl i h1
      omega
theorem Two.left1 {L' : DL} {q : Nat} {T : DS} {M : DL} (t : Two B w p S L q T M) (hB : B ≤ w.heap.size) (d : DK w' p S' L') (tt : Turn (L.own p) w w') (o : ∀ i, L'.own p i → L.own p i ∨ w.heap.size ≤ i) (k : ∀ i, slBlk L'.kA = some i → slBlk L.kA = some i ∨ w.heap.size ≤ i) : Two B w' p S' L' q T M := by
  refine ⟨d, t.r.frame tt (fun i hi hF => ?_), ⟨fun i hi => ?_⟩, t.ro, fun i h1 h2 => ?_, fun i h1 h2 => ?_, fun i h1 h2 => ?_⟩
  · rcases hi with hi | hi
    · exact t.ap i hF hi
    · exact t.kr i hi hF
  · rcases o i hi with h | h
    · exact t.lo.own i h
    · omega
  · rcases o i h1 with h | h
    · exact t.ap i h h2
    · have := t.r.lt i h2
      omega
  · rcases k i h1 with h | h
    · exact t.kl i h h2
    · have := t.r.lt i h2
      omega
  · rcases o i h2 with h | h
    · exact t.kr i h1 h
    · have := t.r.kl i h1
      omega
theorem Pair.left (t : Pair B w p S L q T M) (hB : B ≤ w.heap.size) (u : Upd p S' L w w') : ∃ L', Pair B w' p S' L' q T M ∧ Below B w w' := by
  obtain ⟨L', d, tt, o, k⟩ := u
  exact ⟨L', t.left1 hB d tt o k, tt.to_below hB t.lo.own⟩
theorem Pair.right (t : Pair B w p S L q T M) (hB : B ≤ w.heap.size) (u : RUpd q T' M w w') : ∃ M', Pair B w' p S L q T' M' ∧ Below B w w' := by
  obtain ⟨M', d, tt, o, k⟩ := u
  refine ⟨M', ⟨t.l.frame tt (fun i hi hF => ?_), d, t.lo, fun i hi => ?_, fun i h1 h2 => ?_, fun i h1 h2 => ?_, fun i h1 h2 => ?_⟩, tt.to_below hB t.ro⟩
  · rcases hi with hi | hi
    · exact t.ap i hi hF
    · exact t.kl i hi hF
  · rcases o i hi with h | h
    · exact t.ro i h
    · omega
  · rcases o i h2 with h | h
    · exact t.ap i h1 h
    · have := t.l.lt i h1
      omega
  · rcases o i h2 with h | h
    · exact t.kl i h1 h
    · have := t.l.kl i h1
      omega
  · rcases k i h1 with h | h
    · exact t.kr i h h2
    · have := t.l.lt i h2
      omega
theorem Pair.below (t : Pair B w p S L q T M) (hb : Below w.heap.size w w') : Pair B w' p S L q T M := ⟨t.l.below hb, t.r.below hb, t.lo, t.ro, t.ap, t.kl, t.kr⟩
theorem Pair.copied (t : Pair B w p S L q T M) (hB : B ≤ w.heap.size) (hb : Below w.heap.size w w') (m : DK w' p2 S L2) (mo : ∀ i, L2.own p2 i → w.heap.size ≤ i) (mk : L2.kA = L.kA) : Pair B w' p2 S L2 q T M :=
  ⟨m, t.r.below hb, ⟨fun i hi => Nat.le_trans hB (mo i hi)⟩, t.ro, fun i h1 h2 => by have := mo i h1; have := t.r.lt i h2; omega, fun i h1 => t.kl i (by rw [← mk]; exact h1), fun i h1 h2 => by have := mo i h2; have := t.r.kl i h1; omega⟩
/-- The old disk turns; the copy and the reference stand. -/
theorem Pair.third (t : Pair B w p S L q T M) (c : Pair B w p2 S2 L2 q T M) (d : Two B w p S L p2 S2 L2) (hB : B ≤ w.heap.size) (u : Upd p S' L w w') : ∃ L', Pair B w' p S' L' q T M ∧ Pair B w' p2 S2 L2 q T M ∧ Two B w' p S' L' p2 S2 L2 ∧ Below B w w' := by
  obtain ⟨L', dk, tt, o, k⟩ := u
  have t1 := t.left1 hB dk tt o k
  have d1 := d.left1 hB dk tt o k
  exact ⟨L', t1, ⟨d1.r, t1.r, c.lo, c.ro, c.ap, c.kl, c.kr⟩, d1, tt.to_below hB t.lo.own⟩
end
set_option maxRecDepth 100000 in
set_option maxHeartbeats 4000000 in
theorem tells_any (l : List ActM) (A : Option Addr) (c : Nat) (f at_ size : Int) (w : World) (hr : RdL 5 actC w w.heap.size A l) (hl : ∀ a ∈ l, ActOk w a) (hm : l.length ≤ 9223372036854775807) (hf : inI64 f) (ha : inI64 at_) (hn : inI64 size) :
    Calls Try.prog 3 #[.slice A l.length c, .int .i64 f, .int .i64 at_, .int .i64 size] w fun e w' => e = .returned (.bool true) ∧ Below w.heap.size w w' := by
  have HR := Lib.hid hr
  have HL := Lib.hid hl
  have HAt := Lib.hid ha
  have HN := Lib.hid hn
  have HF := Lib.hid hf
  clear hr hl ha hn hf
  go_enter Try.func3, Try.ntmps3
  go_wp2_with fail
  refine (lSmall_any w).mono ?_
  rintro e w1 ⟨rfl, hb1⟩
  have HB := Lib.hid hb1
  have hz := hb1.size
  have F1 := Lib.hid (lFew_any l A c w1 (HR.out.now hb1) hm (fun a ha => (HL.out a ha).now hb1))
  clear hb1
  cases hf1 : fewB l
  · rw [hf1] at F1
    go_wp2_with fail
    refine F1.out.mono ?_
    rintro e wx ⟨rfl, hw⟩
    obtain rfl := hw
    go_wp2
    go_ret
    exact ⟨rfl, HB.out⟩
  rw [hf1] at F1
  have HF1 := Lib.hid hf1
  clear hf1
  go_wp2_with fail
  refine F1.out.mono ?_
  rintro e wx ⟨rfl, hw⟩
  obtain rfl := hw
  clear F1
  go_wp2_with fail
  refine (dNew_any w1).mono ?_
  rintro e w2 ⟨rfl, hb2, L, dl, ol, okl⟩
  obtain ⟨p, hp⟩ : ∃ p, p = w1.heap.size + 2 := ⟨_, rfl⟩
  rw [← hp] at dl ol
  simp only [← hp]
  clear hp
  have hz2 := hb2.size
  have DL2 := Lib.hid dl
  have OL2 := Lib.hid ol
  have HB2 := Lib.hid (HB.out.trans (hb2.mono hz))
  clear dl ol hb2
  go_wp2_with fail
  refine (rNew_any w2).mono ?_
  rintro e w3 ⟨rfl, hb3, M, dr, or, okr⟩
  obtain ⟨q, hq⟩ : ∃ q, q = w2.heap.size := ⟨_, rfl⟩
  rw [← hq] at dr or
  simp only [← hq]
  have HP : Hid (Pair w.heap.size w3 p DS.new L q DS.new M) := Lib.hid ⟨DL2.out.below hb3, dr, ⟨fun i hi => Nat.le_trans hz (OL2.out i hi)⟩, fun i hi => by have := or i hi; omega, fun i h1 h2 => by have := DL2.out.lt i h1; have := or i h2; omega, fun i h1 => (by rw [okl] at h1; cases h1), fun i h1 => (by rw [okr] at h1; cases h1)⟩
  have HB3 := Lib.hid (HB2.out.trans (hb3.mono HB2.out.size))
  clear hb3 dr or DL2 OL2 HB HB2 hq
  go_wp2
  go_loopw [10, 12, 13] (fun d i _ wr => ∃ (k p : Nat) (S : DS) (L : DL) (M : RL), k ≤ l.length ∧ i = .int .i64 k ∧ d = .pointer (some ⟨p, 0, none⟩) ∧ Pair w.heap.size wr p S L q S M ∧ S.keep.length ≤ 60 ∧ Below w.heap.size w wr) (fun _ i _ _ => l.length - (intOf i).toNat)
  case atStart => exact ⟨0, p, DS.new, L, M, Nat.zero_le _, rfl, rfl, HP.out, by simp [DS.new], HB3.out⟩
  case round =>
    clear HP HB3
    obtain ⟨k, p, S, L, M, hk, rfl, rfl, hP, hkp, hb⟩ := hrel
    have HP := Lib.hid hP
    have HB := Lib.hid hb
    have hz := hb.size
    by_cases hlt : k < l.length
    · obtain ⟨b, off, hA, hbw, d0, d1, d2, d3, d4⟩ := HR.out.act hlt
      have HCe : Hid (∀ w', Below w.heap.size w w' → w'.cell? ⟨b, off + k * 5, none⟩ = some (.int .i64 l[k].d) ∧ w'.cell? ⟨b, off + k * 5 + 1, none⟩ = some (.int .i64 l[k].f) ∧ w'.cell? ⟨b, off + k * 5 + 2, none⟩ = some (.int .i64 l[k].n) ∧ w'.cell? ⟨b, off + k * 5 + 3, none⟩ = some (.string l[k].s) ∧ w'.cell? ⟨b, off + k * 5 + 4, none⟩ = some (.slice l[k].kA l[k].keep.length l[k].kc)) :=
        Lib.hid (fun w' hb => ⟨(hb.cell (p := ⟨b, _, none⟩) hbw).trans d0, (hb.cell (p := ⟨b, _, none⟩) hbw).trans d1, (hb.cell (p := ⟨b, _, none⟩) hbw).trans d2, (hb.cell (p := ⟨b, _, none⟩) hbw).trans d3, (hb.cell (p := ⟨b, _, none⟩) hbw).trans d4⟩)
      clear d0 d1 d2 d3 d4
      have hok := (HL.out l[k] (List.getElem_mem hlt))
      have hfa := (few_ok HF1.out).2 l[k] (List.getElem_mem hlt)
      have HOk := Lib.hid hok
      have HFa := Lib.hid hfa
      have hAp : l[k].keep ≠ [] → ∀ i, slBlk l[k].kA = some i → ¬ L.own p i := fun hne => hP.lo.apart hok.rd hne
      have HD := Lib.hid (lDo_any p S L wr.drew l[k] (hok.now hb.drew) hfa (by omega) hAp (hP.l.below (Below.refl _ _).drew))
      have HT := Lib.hid (fun w' (hbl : Below w.heap.size w w') (M : RL) (d : RK w' q S M) (hM : ∀ i, M.own q i → w.heap.size ≤ i) => lTell_any q S M w' l[k] (hok.now hbl) hfa (by omega) (fun hne i hi ho => by
        rcases hx : l[k].keep with _ | ⟨x, r⟩
        · exact hne hx
        · obtain ⟨b, off, e, hb, _⟩ := hok.rd 0 x (by rw [hx]; rfl)
          rw [e] at hi
          have hi' := Option.some.inj hi
          have := hM i ho
          have h2 : b = i := hi'
          omega) d)
      have hkp2 := doS_keep hkp hfa
      subst hA
      clear hok hfa hAp hP hb
      generalize l[k] = a at *
      have hk0 : (0 : Int) ≤ (k : Int) := by omega
      have hk1 : (k : Int) < (l.length : Int) := by omega
      have hne1 : (S.doC a != S.doC a) = false := by simp
      go_wp2_with fail
      refine wp_region_held_drew (S := fun wq => wq.cell? ⟨b, off + k * 5, none⟩ = some (.int .i64 a.d) ∧ wq.cell? ⟨b, off + k * 5 + 1, none⟩ = some (.int .i64 a.f) ∧ wq.cell? ⟨b, off + k * 5 + 2, none⟩ = some (.int .i64 a.n) ∧ wq.cell? ⟨b, off + k * 5 + 3, none⟩ = some (.string a.s) ∧ wq.cell? ⟨b, off + k * 5 + 4, none⟩ = some (.slice a.kA a.keep.length a.kc)) (by kernel_rfl) (HCe.out _ HB.out.drew) (fun hHeld => ?_)
      refine wpAnyH_take (i := 0) (v := ?_) rfl (by kernel_rfl) (by kernel_rfl) (by kernel_rfl) (fun _ _ _ h => h) (Or.inl ⟨by rfl, ?_⟩) (by assumption) ?_
      rotate_left
      · rintro wq ⟨s0, s1, s2, s3, s4⟩
        go_simp
        try with_reducible rfl
      simp only [Act.put, List.setIfInBounds_toArray, List.set_cons_zero, List.set_cons_succ, List.getElem_toArray, List.getElem_cons_zero]
      refine wpAnyH_take (i := 1) (v := ?_) rfl (by kernel_rfl) (by kernel_rfl) (by kernel_rfl) (fun _ _ _ h => h) (Or.inl ⟨by rfl, ?_⟩) (by assumption) ?_
      rotate_left
      · rintro wq ⟨s0, s1, s2, s3, s4⟩
        go_simp
        try with_reducible rfl
      simp only [Act.put, List.setIfInBounds_toArray, List.set_cons_zero, List.set_cons_succ, List.getElem_toArray, List.getElem_cons_zero, List.getElem_cons_succ]
      refine wpAnyH_take (i := 2) (v := ?_) rfl (by kernel_rfl) (by kernel_rfl) (by kernel_rfl) (fun _ _ _ h => h) (Or.inl ⟨by rfl, ?_⟩) (by assumption) ?_
      rotate_left
      · rintro wq ⟨s0, s1, s2, s3, s4⟩
        go_simp
        try with_reducible rfl
      simp only [Act.put, List.setIfInBounds_toArray, List.set_cons_zero, List.set_cons_succ, List.getElem_toArray, List.getElem_cons_zero, List.getElem_cons_succ]
      refine wpAnyH_take (i := 3) (v := ?_) rfl (by kernel_rfl) (by kernel_rfl) (by kernel_rfl) (fun _ _ _ h => h) (Or.inl ⟨by rfl, ?_⟩) (by assumption) ?_
      rotate_left
      · rintro wq ⟨s0, s1, s2, s3, s4⟩
        go_simp
        try with_reducible rfl
      simp only [Act.put, List.setIfInBounds_toArray, List.set_cons_zero, List.set_cons_succ, List.getElem_toArray, List.getElem_cons_zero, List.getElem_cons_succ]
      refine wpAnyH_take (i := 4) (v := ?_) rfl (by kernel_rfl) (by kernel_rfl) (by kernel_rfl) (fun _ _ _ h => h) (Or.inl ⟨by rfl, ?_⟩) (by assumption) ?_
      rotate_left
      · rintro wq ⟨s0, s1, s2, s3, s4⟩
        go_simp
        try with_reducible rfl
      simp only [Act.put, List.setIfInBounds_toArray, List.set_cons_zero, List.set_cons_succ, List.getElem_toArray, List.getElem_cons_zero, List.getElem_cons_succ]
      refine wpAnyH_take (i := 6) (v := ?_) rfl (by kernel_rfl) (by kernel_rfl) (by kernel_rfl) (fun _ _ _ h => h) (Or.inl ⟨by rfl, ?_⟩) (by assumption) ?_
      rotate_left
      · rintro wq ⟨s0, s1, s2, s3, s4⟩
        go_simp
        try with_reducible rfl
      simp only [Act.put, List.setIfInBounds_toArray, List.set_cons_zero, List.set_cons_succ, List.getElem_toArray, List.getElem_cons_zero, List.getElem_cons_succ]
      refine wpAnyH_take (i := 7) (v := ?_) rfl (by kernel_rfl) (by kernel_rfl) (by kernel_rfl) (fun _ _ _ h => h) (Or.inl ⟨by rfl, ?_⟩) (by assumption) ?_
      rotate_left
      · rintro wq ⟨s0, s1, s2, s3, s4⟩
        go_simp
        try with_reducible rfl
      simp only [Act.put, List.setIfInBounds_toArray, List.set_cons_zero, List.set_cons_succ, List.getElem_toArray, List.getElem_cons_zero, List.getElem_cons_succ]
      refine wpAnyH_take (i := 8) (v := ?_) rfl (by kernel_rfl) (by kernel_rfl) (by kernel_rfl) (fun _ _ _ h => h) (Or.inl ⟨by rfl, ?_⟩) (by assumption) ?_
      rotate_left
      · rintro wq ⟨s0, s1, s2, s3, s4⟩
        go_simp
        try with_reducible rfl
      simp only [Act.put, List.setIfInBounds_toArray, List.set_cons_zero, List.set_cons_succ, List.getElem_toArray, List.getElem_cons_zero, List.getElem_cons_succ]
      refine wpAnyH_take (i := 9) (v := ?_) rfl (by kernel_rfl) (by kernel_rfl) (by kernel_rfl) (fun _ _ _ h => h) (Or.inl ⟨by rfl, ?_⟩) (by assumption) ?_
      rotate_left
      · rintro wq ⟨s0, s1, s2, s3, s4⟩
        go_simp
        try with_reducible rfl
      simp only [Act.put, List.setIfInBounds_toArray, List.set_cons_zero, List.set_cons_succ, List.getElem_toArray, List.getElem_cons_zero, List.getElem_cons_succ]
      refine wpAnyH_take (i := 10) (v := ?_) rfl (by kernel_rfl) (by kernel_rfl) (by kernel_rfl) (fun _ _ _ h => h) (Or.inl ⟨by rfl, ?_⟩) (by assumption) ?_
      rotate_left
      · rintro wq ⟨s0, s1, s2, s3, s4⟩
        go_simp
        try with_reducible rfl
      simp only [Act.put, List.setIfInBounds_toArray, List.set_cons_zero, List.set_cons_succ, List.getElem_toArray, List.getElem_cons_zero, List.getElem_cons_succ]
      refine wpAnyH_ready (rs := [5]) (by kernel_rfl) (by simp) ?_
      refine AllReadyH.cons rfl (fun K hK => ?_) AllReadyH.nil
      go_simp
      refine HD.out.mono ?_
      rintro e w5 ⟨rfl, hu5⟩
      obtain ⟨L5, P5, hb5⟩ := (HP.out.below (Below.refl _ wr).drew).left hz hu5
      have HB5 := Lib.hid (HB.out.drew.trans hb5)
      have hz5 := HB5.out.size
      have HT5 := Lib.hid (HT.out w5 HB5.out M P5.r P5.ro)
      have HP5 := Lib.hid P5
      clear hu5 hb5 P5
      go_wp2_with fail
      refine hK.out _ _ (HCe.out _ HB5.out) ?_
      clear hK K hHeld HD HP HB
      intro hHeld
      refine wpAnyH_ready (rs := [11]) (by kernel_rfl) (by simp) ?_
      refine AllReadyH.cons rfl (fun K hK => ?_) AllReadyH.nil
      go_simp
      refine HT5.out.mono ?_
      rintro e w6 ⟨rfl, hu6⟩
      obtain ⟨M6, P6, hb6⟩ := HP5.out.right hz5 hu6
      have HB6 := Lib.hid (HB5.out.trans hb6)
      have hz6 := HB6.out.size
      have HP6 := Lib.hid P6
      have HDn := Lib.hid (dDown_any p _ L5 w6 P6.l)
      have HRn := Lib.hid (rDown_any q _ M6 w6 P6.r)
      have HDs := Lib.hid (dSize_any p _ L5 w6 f HF.out P6.l)
      have HRs := Lib.hid (rSize_any q _ M6 w6 f P6.r)
      clear hu6 hb6 P6
      go_wp2_with fail
      refine hK.out _ _ (HCe.out _ HB6.out) ?_
      clear hK K hHeld HT5 HT HP5 HB5 hz hz5
      intro hHeld
      generalize hS1 : S.doS a = S1 at *
      refine wpAnyH_take (i := 12) (v := ?_) rfl (by kernel_rfl) (by kernel_rfl) (by kernel_rfl) (fun _ _ _ h => h) (Or.inl ⟨by rfl, ?_⟩) (by assumption) ?_
      rotate_left
      · rintro wq ⟨s0, s1, s2, s3, s4⟩
        go_simp
        try with_reducible rfl
      simp only [Act.put, List.setIfInBounds_toArray, List.set_cons_zero, List.set_cons_succ, List.getElem_toArray, List.getElem_cons_zero, List.getElem_cons_succ]
      refine wpAnyH_take (i := 13) (v := ?_) rfl (by kernel_rfl) (by kernel_rfl) (by kernel_rfl) (fun _ _ _ h => h) (Or.inl ⟨by rfl, ?_⟩) (by assumption) ?_
      rotate_left
      · rintro wq ⟨s0, s1, s2, s3, s4⟩
        go_simp
        try with_reducible rfl
      simp only [Act.put, List.setIfInBounds_toArray, List.set_cons_zero, List.set_cons_succ, List.getElem_toArray, List.getElem_cons_zero, List.getElem_cons_succ]
      refine wpAnyH_take (i := 14) (v := ?_) rfl (by kernel_rfl) (by kernel_rfl) (by kernel_rfl) (fun _ _ _ h => h) (Or.inl ⟨by rfl, ?_⟩) (by assumption) ?_
      rotate_left
      · rintro wq ⟨s0, s1, s2, s3, s4⟩
        go_simp
        try with_reducible rfl
      simp only [Act.put, List.setIfInBounds_toArray, List.set_cons_zero, List.set_cons_succ, List.getElem_toArray, List.getElem_cons_zero, List.getElem_cons_succ]
      refine wpAnyH_take (i := 16) (v := ?_) rfl (by kernel_rfl) (by kernel_rfl) (by kernel_rfl) (fun _ _ _ h => h) (Or.inl ⟨by rfl, ?_⟩) (by assumption) ?_
      rotate_left
      · rintro wq ⟨s0, s1, s2, s3, s4⟩
        go_simp
        try with_reducible rfl
      simp only [Act.put, List.setIfInBounds_toArray, List.set_cons_zero, List.set_cons_succ, List.getElem_toArray, List.getElem_cons_zero, List.getElem_cons_succ]
      refine wpAnyH_ready (rs := [15]) (by kernel_rfl) (by simp) ?_
      refine AllReadyH.cons rfl (fun K hK => ?_) AllReadyH.nil
      go_simp
      refine HDn.out.mono ?_
      rintro e wx ⟨rfl, hw⟩
      obtain rfl := hw.symm
      go_wp2_with fail
      refine hK.out _ _ (HCe.out _ HB6.out) ?_
      clear hK K hHeld
      intro hHeld
      refine wpAnyH_ready (rs := [17]) (by kernel_rfl) (by simp) ?_
      refine AllReadyH.cons rfl (fun K hK => ?_) AllReadyH.nil
      go_simp
      refine HRn.out.mono ?_
      rintro e wx ⟨rfl, hw⟩
      obtain rfl := hw.symm
      go_wp2_with fail
      refine hK.out _ _ (HCe.out _ HB6.out) ?_
      clear hK K hHeld
      intro hHeld
      refine wpAnyH_take (i := 18) (v := ?_) rfl (by kernel_rfl) (by kernel_rfl) (by kernel_rfl) (fun _ _ _ h => h) (Or.inl ⟨by rfl, ?_⟩) (by assumption) ?_
      rotate_left
      · rintro wq ⟨s0, s1, s2, s3, s4⟩
        go_simp
        try with_reducible rfl
      simp only [Act.put, List.setIfInBounds_toArray, List.set_cons_zero, List.set_cons_succ, List.getElem_toArray, List.getElem_cons_zero, List.getElem_cons_succ]
      refine wpAnyH_take (i := 19) (v := ?_) rfl (by kernel_rfl) (by kernel_rfl) (by kernel_rfl) (fun _ _ _ h => h) (Or.inl ⟨by rfl, ?_⟩) (by assumption) ?_
      rotate_left
      · rintro wq ⟨s0, s1, s2, s3, s4⟩
        go_simp
        try with_reducible rfl
      simp only [Act.put, List.setIfInBounds_toArray, List.set_cons_zero, List.set_cons_succ, List.getElem_toArray, List.getElem_cons_zero, List.getElem_cons_succ]
      refine wpAnyH_take (i := 20) (v := ?_) rfl (by kernel_rfl) (by kernel_rfl) (by kernel_rfl) (fun _ _ _ h => h) (Or.inl ⟨by rfl, ?_⟩) (by assumption) ?_
      rotate_left
      · rintro wq ⟨s0, s1, s2, s3, s4⟩
        go_simp
        try with_reducible rfl
      simp only [Act.put, List.setIfInBounds_toArray, List.set_cons_zero, List.set_cons_succ, List.getElem_toArray, List.getElem_cons_zero, List.getElem_cons_succ]
      refine wpAnyH_take (i := 21) (v := ?_) rfl (by kernel_rfl) (by kernel_rfl) (by kernel_rfl) (fun _ _ _ h => h) (Or.inl ⟨by rfl, ?_⟩) (by assumption) ?_
      rotate_left
      · rintro wq ⟨s0, s1, s2, s3, s4⟩
        go_simp
        try with_reducible rfl
      simp only [Act.put, List.setIfInBounds_toArray, List.set_cons_zero, List.set_cons_succ, List.getElem_toArray, List.getElem_cons_zero, List.getElem_cons_succ]
      refine wpAnyH_take (i := 22) (v := ?_) rfl (by kernel_rfl) (by kernel_rfl) (by kernel_rfl) (fun _ _ _ h => h) (Or.inl ⟨by rfl, ?_⟩) (by assumption) ?_
      rotate_left
      · rintro wq ⟨s0, s1, s2, s3, s4⟩
        go_simp
        try with_reducible rfl
      simp only [Act.put, List.setIfInBounds_toArray, List.set_cons_zero, List.set_cons_succ, List.getElem_toArray, List.getElem_cons_zero, List.getElem_cons_succ]
      refine wpAnyH_take (i := 24) (v := ?_) rfl (by kernel_rfl) (by kernel_rfl) (by kernel_rfl) (fun _ _ _ h => h) (Or.inl ⟨by rfl, ?_⟩) (by assumption) ?_
      rotate_left
      · rintro wq ⟨s0, s1, s2, s3, s4⟩
        go_simp
        try with_reducible rfl
      simp only [Act.put, List.setIfInBounds_toArray, List.set_cons_zero, List.set_cons_succ, List.getElem_toArray, List.getElem_cons_zero, List.getElem_cons_succ]
      refine wpAnyH_take (i := 25) (v := ?_) rfl (by kernel_rfl) (by kernel_rfl) (by kernel_rfl) (fun _ _ _ h => h) (Or.inl ⟨by rfl, ?_⟩) (by assumption) ?_
      rotate_left
      · rintro wq ⟨s0, s1, s2, s3, s4⟩
        go_simp
        try with_reducible rfl
      simp only [Act.put, List.setIfInBounds_toArray, List.set_cons_zero, List.set_cons_succ, List.getElem_toArray, List.getElem_cons_zero, List.getElem_cons_succ]
      refine wpAnyH_ready (rs := [23]) (by kernel_rfl) (by simp) ?_
      refine AllReadyH.cons rfl (fun K hK => ?_) AllReadyH.nil
      go_simp
      refine HDs.out.mono ?_
      rintro e wx ⟨rfl, hw⟩
      obtain rfl := hw.symm
      go_wp2_with fail
      refine hK.out _ _ (HCe.out _ HB6.out) ?_
      clear hK K hHeld
      intro hHeld
      refine wpAnyH_ready (rs := [26]) (by kernel_rfl) (by simp) ?_
      refine AllReadyH.cons rfl (fun K hK => ?_) AllReadyH.nil
      go_simp
      refine HRs.out.mono ?_
      rintro e w7 ⟨rfl, hb7⟩
      have HB7 := Lib.hid (HB6.out.trans (hb7.mono hz6))
      have HP7 := Lib.hid (HP6.out.below hb7)
      have hz7 := HB7.out.size
      clear hb7
      go_wp2_with fail
      refine hK.out _ _ (HCe.out _ HB7.out) ?_
      clear hK K hHeld HP6 HDn HRn HDs HRs
      intro hHeld
      refine wpAnyH_take (i := 27) (v := ?_) rfl (by kernel_rfl) (by kernel_rfl) (by kernel_rfl) (fun _ _ _ h => h) (Or.inl ⟨by rfl, ?_⟩) (by assumption) ?_
      rotate_left
      · rintro wq ⟨s0, s1, s2, s3, s4⟩
        go_simp
        try with_reducible rfl
      simp only [Act.put, List.setIfInBounds_toArray, List.set_cons_zero, List.set_cons_succ, List.getElem_toArray, List.getElem_cons_zero, List.getElem_cons_succ]
      refine wpAnyH_take (i := 28) (v := ?_) rfl (by kernel_rfl) (by kernel_rfl) (by kernel_rfl) (fun _ _ _ h => h) (Or.inl ⟨by rfl, ?_⟩) (by assumption) ?_
      rotate_left
      · rintro wq ⟨s0, s1, s2, s3, s4⟩
        go_simp
        try with_reducible rfl
      simp only [Act.put, List.setIfInBounds_toArray, List.set_cons_zero, List.set_cons_succ, List.getElem_toArray, List.getElem_cons_zero, List.getElem_cons_succ]
      refine wpAnyH_done (by kernel_rfl) ?_ _
      clear hHeld HB6 hz6
      by_cases hmid : k = l.length / 2
      · have hm1 : ((k : Int) == (l.length : Int) / 2) = true := by simp; omega
        obtain ⟨b0, off0, hA0, hbw0, d0, d1, d2, d3, d4⟩ := HR.out.act (show 0 < l.length by omega)
        injection hA0 with hA0
        injection hA0 with hA1 hA2
        subst hA1 hA2
        have HCe0 : Hid (∀ w', Below w.heap.size w w' → w'.cell? ⟨b, off, none⟩ = some (.int .i64 l[0].d) ∧ w'.cell? ⟨b, off + 1, none⟩ = some (.int .i64 l[0].f) ∧ w'.cell? ⟨b, off + 2, none⟩ = some (.int .i64 l[0].n) ∧ w'.cell? ⟨b, off + 3, none⟩ = some (.string l[0].s) ∧ w'.cell? ⟨b, off + 4, none⟩ = some (.slice l[0].kA l[0].keep.length l[0].kc)) :=
          Lib.hid (fun w' hb => by
            simp only [Nat.zero_mul, Nat.add_zero] at d0 d1 d2 d3 d4
            exact ⟨(hb.cell (p := ⟨b, _, none⟩) hbw).trans d0, (hb.cell (p := ⟨b, _, none⟩) hbw).trans d1, (hb.cell (p := ⟨b, _, none⟩) hbw).trans d2, (hb.cell (p := ⟨b, _, none⟩) hbw).trans d3, (hb.cell (p := ⟨b, _, none⟩) hbw).trans d4⟩)
        have hok := HL.out l[0] (List.getElem_mem (by omega))
        have hfa := (few_ok HF1.out).2 l[0] (List.getElem_mem (by omega))
        have HOk0 := Lib.hid hok
        have HFa0 := Lib.hid hfa
        clear d0 d1 d2 d3 d4 hok hfa
        generalize l[0] = a0 at *
        go_wp2_with fail
        refine (dCopy_any p S1 L5 w7 HP7.out.l).mono ?_
        rintro e w8 ⟨p2, L2, rfl, hb8, dd2, oo2, kk2⟩
        have HB8 := Lib.hid (HB7.out.trans (hb8.mono hz7))
        have hz8 := HB8.out.size
        have HPo := Lib.hid (HP7.out.below hb8)
        have HPn := Lib.hid (HP7.out.copied hz7 hb8 dd2 oo2 kk2)
        have HTw := Lib.hid (Two.of_copy HP7.out.l HP7.out.lo hz7 hb8 dd2 oo2 kk2)
        obtain ⟨e0', e1', e2', e3', e4'⟩ := HCe0.out w8 HB8.out
        have HDo := Lib.hid (lDo_any p S1 L5 w8 a0 (HOk0.out.now HB8.out) HFa0.out hkp2 (fun hne => HPo.out.lo.apart HOk0.out.rd hne) HPo.out.l)
        clear hb8 dd2 oo2 kk2 HP7 HB7 hz7
        go_wp2_with fail
        refine HDo.out.mono ?_
        rintro e w9 ⟨rfl, hu9⟩
        obtain ⟨L9, o9, n9, t9, hb9⟩ := HPo.out.third HPn.out HTw.out hz8 hu9
        have HB9 := Lib.hid (HB8.out.trans hb9)
        have hz9 := HB9.out.size
        have HSy := Lib.hid (dSync_any p _ L9 w9 f HF.out (by have := doS_keep hkp2 HFa0.out; omega) o9.l)
        have O9 := Lib.hid o9
        have N9 := Lib.hid n9
        have T9 := Lib.hid t9
        clear e0' e1' e2' e3' e4' HPo HPn HTw HDo hu9 hb9 o9 n9 t9
        go_wp2_with fail
        refine HSy.out.mono ?_
        rintro e w10 ⟨rfl, hu10⟩
        obtain ⟨L10, o10, n10, t10, hb10⟩ := O9.out.third N9.out T9.out hz9 hu10
        have HB10 := Lib.hid (HB9.out.trans hb10)
        have N10 := Lib.hid n10
        clear hu10 hb10 o10 n10 t10 HSy O9 N9 T9
        go_wp2
        go_roundw
        case rel => exact ⟨k + 1, p2, S1, L2, M6, by omega, by go_num, rfl, N10.out, hkp2, HB10.out⟩
        case measure => simp [intOf]; omega
      · have hm1 : ((k : Int) == (l.length : Int) / 2) = false := by simp; omega
        go_wp2
        go_roundw
        case rel => exact ⟨k + 1, p, S1, L5, M6, by omega, by go_num, rfl, HP7.out, hkp2, HB7.out⟩
        case measure => simp [intOf]; omega
    · have HRd := Lib.hid (dRead_any p S L wr f at_ size HF.out hP.l)
      have HRr := Lib.hid (rRead_any q S M wr f at_ size hP.r HAt.out HN.out)
      clear hP hb
      generalize S.readS f at_ size = rs at *
      generalize S.readC f at_ size = rc at *
      go_wp2_with fail
      refine HRd.out.mono ?_
      rintro e wx ⟨rfl, hw⟩
      obtain rfl := hw.symm
      go_wp2_with fail
      refine HRr.out.mono ?_
      rintro e w5 ⟨rfl, hb5⟩
      have HB5 := Lib.hid (HB.out.trans (hb5.mono hz))
      clear hb5
      go_wp2
      go_ret
      exact ⟨rfl, HB5.out⟩
end Go.Proofs.Ytjgeefagnddpfaa
