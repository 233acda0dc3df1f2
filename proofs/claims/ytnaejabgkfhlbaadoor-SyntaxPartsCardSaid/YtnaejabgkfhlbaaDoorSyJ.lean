/- Contracts of package syntax: the reader's name, number, part. -/
import Derived.Test.YtnaejabgkfhlbaaDoorSyI
set_option linter.unusedSimpArgs false
set_option linter.unusedVariables false
namespace Go.Proofs.YtnaejabgkfhlbaaDoor
open Go.RowKit

theorem name_kind (r : St) (h : r.toks ≠ []) : (∃ s p l, r = ⟨⟨.word s, p⟩ :: l, r.pos, 0⟩ ∧ kindJ 0 r = (some (.word s), r) ∧ nameJ r = (s, ⟨l, r.pos, 0⟩)) ∨ (kindJ 0 r = (none, (nameJ r).2) ∧ (nameJ r).1 = []) := by
  obtain ⟨toks, pos, err⟩ := r
  cases toks with
  | nil => exact absurd rfl h
  | cons t l =>
    by_cases he : err = 0
    · subst he
      obtain ⟨sh, p⟩ := t
      cases sh with
      | word s => exact .inl ⟨s, p, l, rfl, rfl, rfl⟩
      | num s n => exact .inr ⟨rfl, rfl⟩
      | sign => exact .inr ⟨rfl, rfl⟩
      | fin => exact .inr ⟨rfl, rfl⟩
    · right
      simp [kindJ, nameJ, he]
theorem num_kind (least : Int) (r : St) (h : r.toks ≠ []) : (∃ s n p l, r = ⟨⟨.num s n, p⟩ :: l, r.pos, 0⟩ ∧ kindJ 1 r = (some (.num s n), r) ∧ numJ least r = if n < least ∨ 1073741824 < n then (0, failJ 3 r) else (n, ⟨l, r.pos, 0⟩)) ∨ (kindJ 1 r = (none, (numJ least r).2) ∧ (numJ least r).1 = 0) := by
  obtain ⟨toks, pos, err⟩ := r
  cases toks with
  | nil => exact absurd rfl h
  | cons t l =>
    by_cases he : err = 0
    · subst he
      obtain ⟨sh, p⟩ := t
      cases sh with
      | num s n => exact .inl ⟨s, n, p, l, rfl, rfl, rfl⟩
      | word s => exact .inr ⟨rfl, rfl⟩
      | sign => exact .inr ⟨rfl, rfl⟩
      | fin => exact .inr ⟨rfl, rfl⟩
    · right
      simp [kindJ, numJ, he]
set_option maxRecDepth 100000 in
set_option maxHeartbeats 2000000 in
theorem name_any (b g : Nat) (r : St) (w : World) (h : RdrAt b g r w) :
    Calls Tryd.prog 26 #[.pointer (some ⟨b, 0, none⟩)] w (RdrOut b g (.string (bs (nameJ r).1)) (nameJ r).2 w) := by
  have HK := Lib.hid (kind_any b g r 0 w h)
  rcases name_kind r h.fine.ne with ⟨s, p, l, hr, h1, h2⟩ | ⟨h1, h2⟩
  · have H1 := Lib.hid h1
    have H2 := Lib.hid h2
    have HV : Hid (kindV (headPos r) (kindJ 0 r).1 = .tuple #[.agg #[.int .i64 0, .string (bs s), .int .i64 0, .int .i64 p], .bool true]) := Lib.hid (by rw [h1, hr]; rfl)
    have HRE := Lib.hid hr
    clear h1 h2 hr h
    go_enter Tryd.func26, Tryd.ntmps26
    go_wp2_with fail
    refine HK.out.mono ?_
    rintro e w1 ⟨rfl, hr1, ht1⟩
    rw [H1.out] at hr1
    simp only at hr1
    rw [HRE.out] at hr1
    have hl := hr1.len
    have HFi := Lib.hid (hr1.fine.tail (by simp))
    have hc1 : 1 ≤ l.length := fine_two hr1.fine (by simp)
    have HT1 := Lib.hid ht1
    obtain ⟨off, c, q1, q2, q3, hbl, q4, q5⟩ := hr1.open_
    have hc2 : l.length + 1 ≤ c := by simpa using q1
    have c0 := box_cell q4 0 _ rfl
    have f0 := box_free q4 0
    have Q4 := Lib.hid q4
    have Q5 := Lib.hid q5
    rw [HV.out]
    clear q4 q5 hr1 ht1
    go_wp2_with fail
    go_ret
    exact ⟨by rw [H2.out]; rfl, by rw [H2.out]; exact (RdrAt.step q1 q2 q3 Q4.out Q5.out HFi.out hl).now ((Below.refl _ _).alloc (Nat.le_refl _) _), (HT1.out.set b 0 _ (.inl rfl)).alloc _⟩
  · have H1 := Lib.hid h1
    have H2 := Lib.hid h2
    have HV : Hid (kindV (headPos r) (kindJ 0 r).1 = .tuple #[.agg #[.int .i64 0, .string ⟨#[]⟩, .int .i64 0, .int .i64 0], .bool false]) := Lib.hid (by rw [h1]; rfl)
    clear h1 h2 h
    go_enter Tryd.func26, Tryd.ntmps26
    go_wp2_with fail
    refine HK.out.mono ?_
    rintro e w1 ⟨rfl, hr1, ht1⟩
    rw [H1.out] at hr1
    have HR1 := Lib.hid hr1
    have HT1 := Lib.hid ht1
    rw [HV.out]
    clear hr1 ht1
    go_wp2_with fail
    go_ret
    exact ⟨by rw [H2.out]; rfl, HR1.out.now ((Below.refl _ _).alloc (Nat.le_refl _) _), HT1.out.alloc _⟩
set_option maxRecDepth 100000 in
set_option maxHeartbeats 2000000 in
theorem number_any (b g : Nat) (r : St) (least : Int) (w : World) (h : RdrAt b g r w) :
    Calls Tryd.prog 29 #[.pointer (some ⟨b, 0, none⟩), .int .i64 least] w (RdrOut b g (.int .i64 (numJ least r).1) (numJ least r).2 w) := by
  have HK := Lib.hid (kind_any b g r 1 w h)
  rcases num_kind least r h.fine.ne with ⟨s, n, p, l, hr, h1, h2⟩ | ⟨h1, h2⟩
  · have H1 := Lib.hid h1
    have H2 := Lib.hid h2
    have HV : Hid (kindV (headPos r) (kindJ 1 r).1 = .tuple #[.agg #[.int .i64 1, .string (bs s), .int .i64 n, .int .i64 p], .bool true]) := Lib.hid (by rw [h1, hr]; rfl)
    have HRE := Lib.hid hr
    clear h1 h2 hr h
    by_cases hn : n < least ∨ 1073741824 < n
    · have H3 : Hid (numJ least r = (0, failJ 3 r)) := Lib.hid (by rw [H2.out, if_pos hn])
      clear H2
      rcases hn with hn | hn
      · have d1 : decide (n < least) = true := by simpa using hn
        go_enter Tryd.func29, Tryd.ntmps29
        go_wp2_with fail
        refine HK.out.mono ?_
        rintro e w1 ⟨rfl, hr1, ht1⟩
        rw [H1.out] at hr1
        have HR1 := Lib.hid hr1
        have HT1 := Lib.hid ht1
        rw [HV.out]
        clear hr1 ht1
        go_wp2_with fail
        refine (fail_any b g r 3 _ (HR1.out.now ((Below.refl _ _).alloc (Nat.le_refl _) _))).mono ?_
        rintro e w2 ⟨rfl, hr2, ht2⟩
        have HR2 := Lib.hid hr2
        have HT2 := Lib.hid (turn_one (HT1.out.alloc _) ht2)
        clear hr2 ht2
        go_wp2_with fail
        go_ret
        exact ⟨by rw [H3.out]; rfl, by rw [H3.out]; exact HR2.out, HT2.out⟩
      · go_enter Tryd.func29, Tryd.ntmps29
        by_cases hl : n < least
        all_goals
          go_wp2_with fail
          refine HK.out.mono ?_
          rintro e w1 ⟨rfl, hr1, ht1⟩
          rw [H1.out] at hr1
          have HR1 := Lib.hid hr1
          have HT1 := Lib.hid ht1
          rw [HV.out]
          clear hr1 ht1
          go_wp2_with fail
          refine (fail_any b g r 3 _ (HR1.out.now ((Below.refl _ _).alloc (Nat.le_refl _) _))).mono ?_
          rintro e w2 ⟨rfl, hr2, ht2⟩
          have HR2 := Lib.hid hr2
          have HT2 := Lib.hid (turn_one (HT1.out.alloc _) ht2)
          clear hr2 ht2
          go_wp2_with fail
          go_ret
          exact ⟨by rw [H3.out]; rfl, by rw [H3.out]; exact HR2.out, HT2.out⟩
    · have H3 : Hid (numJ least r = (n, ⟨l, r.pos, 0⟩)) := Lib.hid (by rw [H2.out, if_neg hn])
      have hn1 : ¬ n < least := fun h => hn (.inl h)
      have hn2 : ¬ 1073741824 < n := fun h => hn (.inr h)
      clear H2 hn
      go_enter Tryd.func29, Tryd.ntmps29
      go_wp2_with fail
      refine HK.out.mono ?_
      rintro e w1 ⟨rfl, hr1, ht1⟩
      rw [H1.out] at hr1
      simp only at hr1
      rw [HRE.out] at hr1
      have hl := hr1.len
      have HFi := Lib.hid (hr1.fine.tail (by simp))
      have hc1 : 1 ≤ l.length := fine_two hr1.fine (by simp)
      have HT1 := Lib.hid ht1
      obtain ⟨off, c, q1, q2, q3, hbl, q4, q5⟩ := hr1.open_
      have hc2 : l.length + 1 ≤ c := by simpa using q1
      have c0 := box_cell q4 0 _ rfl
      have f0 := box_free q4 0
      have Q4 := Lib.hid q4
      have Q5 := Lib.hid q5
      rw [HV.out]
      clear q4 q5 hr1 ht1
      go_wp2_with fail
      go_ret
      exact ⟨by rw [H3.out]; rfl, by rw [H3.out]; exact (RdrAt.step q1 q2 q3 Q4.out Q5.out HFi.out hl).now ((Below.refl _ _).alloc (Nat.le_refl _) _), (HT1.out.set b 0 _ (.inl rfl)).alloc _⟩
  · have H1 := Lib.hid h1
    have H2 := Lib.hid h2
    have HV : Hid (kindV (headPos r) (kindJ 1 r).1 = .tuple #[.agg #[.int .i64 0, .string ⟨#[]⟩, .int .i64 0, .int .i64 0], .bool false]) := Lib.hid (by rw [h1]; rfl)
    clear h1 h2 h
    go_enter Tryd.func29, Tryd.ntmps29
    go_wp2_with fail
    refine HK.out.mono ?_
    rintro e w1 ⟨rfl, hr1, ht1⟩
    rw [H1.out] at hr1
    have HR1 := Lib.hid hr1
    have HT1 := Lib.hid ht1
    rw [HV.out]
    clear hr1 ht1
    go_wp2_with fail
    go_ret
    exact ⟨by rw [H2.out]; rfl, HR1.out.now ((Below.refl _ _).alloc (Nat.le_refl _) _), HT1.out.alloc _⟩
/-- A slice of one string, just made. -/
theorem oneS (w : World) (s : List UInt8) : RdL 1 strE (w.alloc (.cells #[.string (bs s)] 9)) (w.alloc (.cells #[.string (bs s)] 9)).heap.size (some ⟨w.heap.size, 0, none⟩) [s] :=
  (RdL.one (sz := 1) (enc := strE) w s #[.string (bs s)] 9 rfl w.heap.size rfl).more (by simp)
theorem wantOne_any (b g : Nat) (r : St) (s : List UInt8) (w : World) (n : Nat) (hn : n = w.heap.size) (h : RdrAt b g r w) :
    Calls Tryd.prog 25 #[.pointer (some ⟨b, 0, none⟩), .slice (some ⟨n, 0, none⟩) 1 1] (w.alloc (.cells #[.string (bs s)] 9)) (RdrOut b g (.int .i64 (wantJ [s] r).1) (wantJ [s] r).2 w) :=
  hn ▸ (want_any b g r [s] _ 1 _ (h.now ((Below.refl _ _).alloc (Nat.le_refl _) _)) (oneS w s) (by simp)).mono fun e w' ⟨h1, h2, h3⟩ => ⟨h1, h2, turn_one ((Turn.refl _ _).alloc _) h3⟩
theorem skipOne_any (b g : Nat) (r : St) (s : List UInt8) (w : World) (n : Nat) (hn : n = w.heap.size) (h : RdrAt b g r w) :
    Calls Tryd.prog 28 #[.pointer (some ⟨b, 0, none⟩), .slice (some ⟨n, 0, none⟩) 1 1] (w.alloc (.cells #[.string (bs s)] 9)) (RdrOut b g (.int .i64 (skipJ [s] r).1) (skipJ [s] r).2 w) :=
  hn ▸ (skip_any b g r [s] _ 1 _ (h.now ((Below.refl _ _).alloc (Nat.le_refl _) _)) (oneS w s) (by simp)).mono fun e w' ⟨h1, h2, h3⟩ => ⟨h1, h2, turn_one ((Turn.refl _ _).alloc _) h3⟩
-- rdStep CONTRACT | k | k0 : a call of the reader's method (contract at the world and HRk0); HRk, HTk
set_option maxRecDepth 100000 in
set_option maxHeartbeats 1000000 in
theorem part_any (b g : Nat) (r : St) (s : List UInt8) (ws : List (List UInt8)) (A : Option Addr) (cw : Nat) (w : World) (h : RdrAt b g r w) (hr : RdL 1 strE w w.heap.size A ws) (hA : ∀ i, slBlk A = some i → i ≠ b) (hm : ws.length ≤ 1000) :
    Calls Tryd.prog 30 #[.pointer (some ⟨b, 0, none⟩), .string (bs s), .slice A ws.length cw] w (RdrOut b g (.int .i64 (partG opsJ s ws r).1) (partG opsJ s ws r).2 w) := by
  have HR0 := Lib.hid h
  have HT0 := Lib.hid (Turn.refl (One b) w)
  have HRW := Lib.hid hr
  have HE : Hid (partG opsJ s ws r = ((wantJ ws (wantJ [s] r).2).1, (wantJ [kSemi] (wantJ ws (wantJ [s] r).2).2).2)) := Lib.hid rfl
  clear h hr
  go_enter Tryd.func30, Tryd.ntmps30
  go_wp2_with fail
  refine (wantOne_any b g r s w _ rfl HR0.out).mono ?_
  rintro e w1 ⟨rfl, hr1, ht1⟩
  have HR1 := Lib.hid hr1
  have HT1 := Lib.hid (turn_one HT0.out ht1)
  clear hr1 ht1
  go_wp2_with fail
  refine (want_any b g _ ws A cw _ HR1.out (HRW.out.turn (fun i hi hlt => HT1.out.block i hlt (hA i hi)) HT1.out.size) hm).mono ?_
  rintro e w2 ⟨rfl, hr2, ht2⟩
  have HR2 := Lib.hid hr2
  have HT2 := Lib.hid (turn_one HT1.out ht2)
  clear hr2 ht2
  go_wp2_with fail
  refine (wantOne_any b g _ kSemi w2 _ rfl HR2.out).mono ?_
  rintro e w3 ⟨rfl, hr3, ht3⟩
  have HR3 := Lib.hid hr3
  have HT3 := Lib.hid (turn_one HT2.out ht3)
  clear hr3 ht3
  go_wp2_with fail
  go_ret
  exact ⟨by rw [HE.out]; rfl, by rw [HE.out]; exact HR3.out, HT3.out⟩
end Go.Proofs.YtnaejabgkfhlbaaDoor
