/- The plain law of WaysBetter: what can do more shows nothing in a worse way. -/
import Derived.Test.YtebpnlbpdhgacaaWyN
namespace Go.Proofs.Ytebpnlbpdhgacaa
open Go.RowKit

theorem check_kinds (p : Prof) (h : profCheck p = 0) : (p.edit = 0 ∨ p.edit = 2) ∧ 0 ≤ p.delete ∧ 0 ≤ p.thread ∧ p.thread ≤ 2 := by
  have hr : profRight p = true := by
    unfold profCheck at h
    split at h
    · assumption
    · cases h
  simp only [profRight, headB, kindsB, inR, Bool.and_eq_true, Bool.or_eq_true, decide_eq_true_eq, beq_iff_eq] at hr
  omega
theorem edits_le (p q : Prof) (hq : q.edit = 0 ∨ q.edit = 2) (l1 : p.edit ≤ q.edit) (t1 : timesB p q = true) (h : editsB p = true) : editsB q = true := by
  simp only [editsB, timesB, Bool.and_eq_true, Bool.or_eq_true, decide_eq_true_eq, beq_iff_eq, bne_iff_ne] at *
  omega
theorem rank_le (p q : Prof) (hp : profCheck p = 0) (hq : profCheck q = 0) (h : atMostB p q = true) (k : Nat) (x y : Int × Int) (hx : (wayL p)[k]? = some x) (hy : (wayL q)[k]? = some y) : rankI y.1 ≤ rankI x.1 := by
  obtain ⟨s1, s2, p1, p2⟩ := check_bounds p hp
  obtain ⟨s3, s4, p3, p4⟩ := check_bounds q hq
  have g1 := check_files p hp
  have g2 := check_files q hq
  obtain ⟨e1, d1, h1, h2⟩ := check_kinds p hp
  obtain ⟨e2, d2, h3, h4⟩ := check_kinds q hq
  simp only [atMostB, lessB, flagsB, Bool.and_eq_true, decide_eq_true_eq] at h
  obtain ⟨⟨l1, l2, l3, l4, l5, l6, l7, l8⟩, ⟨f1, f2, f3⟩, t1, _⟩ := h
  have hm : p.size * p.parts ≤ q.size * q.parts := Int.mul_le_mul l4 l5 (by omega) (by omega)
  have hk : k < 9 := (List.getElem?_eq_some_iff.1 hx).1
  rcases k with _ | _ | _ | _ | _ | _ | _ | _ | _ | k
  all_goals simp only [wayL, List.getElem?_cons_zero, List.getElem?_cons_succ, Option.some.injEq] at hx hy
  · subst hx hy; decide
  · subst hx hy
    unfold longW
    by_cases a1 : 2 ≤ p.parts
    · have a2 : 2 ≤ q.parts := by omega
      by_cases b1 : 4400 ≤ p.size * p.parts
      · have b2 : 4400 ≤ q.size * q.parts := by omega
        simp [a1, a2, b1, b2]
      · by_cases b2 : 4400 ≤ q.size * q.parts <;> simp [a1, a2, b1, b2, rankI]
    · by_cases a2 : 2 ≤ q.parts
      · by_cases b2 : 4400 ≤ q.size * q.parts <;> simp [a1, a2, b2, rankI]
      · simp [a1, a2, rankI]
  · subst hx hy
    unfold editW
    by_cases a1 : editsB p = true
    · have a2 := edits_le p q e2 l1 t1 a1
      simp [a1, a2]
    · by_cases a2 : editsB q = true <;> simp [a1, a2, rankI]
  · subst hx hy
    unfold goneW
    by_cases a1 : p.delete = 0
    · by_cases b1 : editsB p = true
      · have b2 := edits_le p q e2 l1 t1 b1
        by_cases a2 : q.delete = 0 <;> simp [a1, b1, a2, b2, rankI]
      · by_cases a2 : q.delete = 0 <;> by_cases b2 : editsB q = true <;> simp [a1, b1, a2, b2, rankI]
    · have a2 : ¬ q.delete = 0 := by omega
      simp [a1, a2]
  · subst hx hy
    unfold reactW
    by_cases a1 : p.react = true
    · have a2 : q.react = true := by simpa [a1] using f1
      by_cases b1 : p.parts = 1 <;> by_cases b2 : q.parts = 1 <;> simp [a1, a2, b1, b2, rankI]
    · by_cases a2 : q.react = true
      · by_cases b2 : q.parts = 1 <;> simp [a1, a2, b2, rankI]
      · simp [a1, a2, rankI]
  · subst hx hy
    unfold replyW
    by_cases a1 : p.thread = 2
    · have a2 : q.thread = 2 := by omega
      simp [a1, a2]
    · by_cases a2 : q.thread = 2
      · by_cases a3 : p.thread = 1 <;> simp [a1, a2, a3, rankI]
      · by_cases a3 : p.thread = 1
        · have a4 : q.thread = 1 := by omega
          simp [a3, a4]
        · by_cases a4 : q.thread = 1 <;> simp [a1, a2, a3, a4, rankI]
  · subst hx hy
    unfold ownW
    by_cases a1 : p.quote = true
    · have a2 : q.quote = true := by simpa [a1] using f2
      simp [a1, a2]
    · by_cases a2 : q.quote = true <;> simp [a1, a2, rankI]
  · subst hx hy
    unfold ownW
    by_cases a1 : p.mention = true
    · have a2 : q.mention = true := by simpa [a1] using f3
      simp [a1, a2]
    · by_cases a2 : q.mention = true <;> simp [a1, a2, rankI]
  · subst hx hy
    unfold fileW
    by_cases a1 : 4 ≤ p.files
    · have a2 : 4 ≤ q.files := by omega
      simp [a1, a2]
    · by_cases b1 : 1 ≤ p.files
      · have b2 : 1 ≤ q.files := by omega
        by_cases a2 : 4 ≤ q.files <;> simp [a1, b1, a2, b2, rankI]
      · by_cases a2 : 4 ≤ q.files <;> by_cases b2 : 1 ≤ q.files <;> simp [a1, b1, a2, b2, rankI]
  · omega
end Go.Proofs.Ytebpnlbpdhgacaa
