/- Contracts and plain laws, joined: SyPf. -/
import Derived.Test.YtnaejabgkfhlbaaDoorQan
/- Plain laws of SyntaxFirst: what follows the token of an error, and what stands ahead of it. -/
set_option linter.unusedSimpArgs false
set_option linter.unusedVariables false
namespace Go.Proofs.YtnaejabgkfhlbaaDoor
open Go.RowKit

/-- An error of the grammar stands at a token. -/
theorem err_at {ts : List Tok} (hf : Fine ts) {j : Nat} {e : Int} (h : parseG opsX (ts.map Tok.sh) = .error (j, e)) : e ≠ 0 ∧ ∃ t, ts[j]? = some t ∧ parseT ts = (zeroProf, (t.pos : Int), e) := by
  have h1 := sim_parse.2 ts 0 hf
  rw [h] at h1
  obtain ⟨t, ht, h2, _, _⟩ := h1
  refine ⟨h2, t, ht, ?_⟩
  unfold parseT
  rw [h]
  simp [ht]
theorem parse_of {l : List UInt8} {ts : List Tok} (h : lexL l = .ok ts) : parseL l = parseT ts := by unfold parseL; rw [h]
/-- What SyntaxFirst begins with: an error of the grammar at token i. -/
theorem first_start {l : List UInt8} {ts : List Tok} {P : Prof} {at_ f : Int} (hl : lexL l = .ok ts) (hp : parseL l = (P, at_, f)) (hf : f ≠ 0) : ∃ i t, ts[i]? = some t ∧ at_ = t.pos ∧ parseG opsX (ts.map Tok.sh) = .error (i, f) := by
  have hfi := (lex_fine (lexL_ok hl).2).1
  rw [parse_of hl] at hp
  cases hx : parseG opsX (ts.map Tok.sh) with
  | ok q =>
    obtain ⟨a, n⟩ := q
    unfold parseT at hp
    rw [hx] at hp
    simp only [Prod.mk.injEq] at hp
    exact absurd hp.2.2.symm hf
  | error q =>
    obtain ⟨j, e⟩ := q
    obtain ⟨h1, t, ht, h2⟩ := err_at hfi hx
    rw [h2] at hp
    simp only [Prod.mk.injEq] at hp
    exact ⟨j, t, ht, hp.2.1.symm, by rw [hp.2.2]⟩
/-- A place belongs to one token. -/
theorem one_place {l : List UInt8} {ts : List Tok} (hl : lexL l = .ok ts) {i j : Nat} {t u : Tok} (hi : ts[i]? = some t) (hj : ts[j]? = some u) (h : t.pos = u.pos) : i = j := by
  have hg := (lex_grow (lexL_ok hl).2).1
  rcases Nat.lt_trichotomy i j with h1 | h1 | h1
  · have := hg i j t u h1 hi hj; omega
  · exact h1
  · have := hg j i u t h1 hj hi; omega
/-- With a further string behind the token there is the same error. -/
theorem first_more {l : List UInt8} {ts : List Tok} {i : Nat} {t : Tok} {f : Int} (hl : lexL l = .ok ts) (hi : ts[i]? = some t) (hx : parseG opsX (ts.map Tok.sh) = .error (i, f)) (hn : t.sh ≠ .fin) (m : List UInt8) {ts2 : List Tok}
    (h2 : lexL (l.take (t.pos + t.sh.text.length) ++ 32 :: m) = .ok ts2) : parseL (l.take (t.pos + t.sh.text.length) ++ 32 :: m) = (zeroProf, (t.pos : Int), f) := by
  have h3 := lex_then (lexL_ok hl).2 i t 32 m hi hn (by decide)
  rw [Nat.sub_zero] at h3
  have h4 := (lexL_ok h2).2
  rw [h3] at h4
  cases hr : lexS (32 :: m) (t.pos + t.sh.text.length) with
  | error e => rw [hr] at h4; cases h4
  | ok r =>
    rw [hr] at h4
    have h5 : ts2 = ts.take (i + 1) ++ r := by cases h4; rfl
    have hlt := (List.getElem?_eq_some_iff.1 hi).1
    have htk : (ts2.map Tok.sh).take (i + 1) = (ts.map Tok.sh).take (i + 1) := by
      rw [h5, List.map_append, List.map_take, List.take_append_of_le_length (by simp; omega), List.take_take, Nat.min_self]
    have hx2 := (pre_parse (ts.map Tok.sh)).1 i f hx _ htk
    obtain ⟨_, u, hu, h6⟩ := err_at (lex_fine (lexL_ok h2).2).1 hx2
    rw [parse_of h2, h6]
    have : ts2[i]? = some t := by
      rw [h5, List.getElem?_append_left (by simp; omega), List.getElem?_take, if_pos (by omega)]
      exact hi
    rw [this] at hu
    cases hu
    rfl
/-- What stands ahead of the token has its error, if it has one, at its end. -/
theorem first_cut {l : List UInt8} {ts : List Tok} {i : Nat} {t : Tok} {f : Int} (hl : lexL l = .ok ts) (hi : ts[i]? = some t) (hx : parseG opsX (ts.map Tok.sh) = .error (i, f)) :
    (∃ Q, parseL (l.take t.pos) = (Q, 0, 0)) ∨ ∃ k, parseL (l.take t.pos) = (zeroProf, (t.pos : Int), k) ∧ k ≠ 0 := by
  have h1 := lex_cut (lexL_ok hl).2 i t hi
  rw [Nat.sub_zero] at h1
  have hlt := (List.getElem?_eq_some_iff.1 hi).1
  have hlen := (lexL_ok hl).1
  have h2 : lexL (l.take t.pos) = .ok (ts.take i ++ [(⟨.fin, t.pos⟩ : Tok)]) := by
    unfold lexL
    rw [if_neg (by rw [List.length_take]; omega)]
    exact h1
  rw [parse_of h2]
  cases hy : parseG opsX ((ts.take i ++ [(⟨.fin, t.pos⟩ : Tok)]).map Tok.sh) with
  | ok q =>
    obtain ⟨a, n⟩ := q
    left
    exact ⟨a, by unfold parseT; rw [hy]⟩
  | error q =>
    obtain ⟨j, k⟩ := q
    right
    obtain ⟨h3, u, hu, h4⟩ := err_at (lex_fine h1).1 hy
    have hj := (List.getElem?_eq_some_iff.1 hu).1
    simp at hj
    have hji : j = i := by
      rcases Nat.lt_or_ge j i with hji | hji
      · have hx2 := (pre_parse ((ts.take i ++ [(⟨.fin, t.pos⟩ : Tok)]).map Tok.sh)).1 j k hy (ts.map Tok.sh) (by
          rw [List.map_append, List.map_take, List.take_append_of_le_length (by simp; omega), List.take_take, Nat.min_eq_left (by omega)])
        rw [hx] at hx2
        cases hx2
        omega
      · omega
    subst hji
    have hu2 : (ts.take j ++ [(⟨.fin, t.pos⟩ : Tok)])[j]? = some ⟨.fin, t.pos⟩ := by
      rw [List.getElem?_append_right (by rw [List.length_take]; omega), List.length_take, Nat.min_eq_left (by omega), Nat.sub_self]
      rfl
    rw [hu2] at hu
    cases hu
    exact ⟨k, h4, h3⟩
end Go.Proofs.YtnaejabgkfhlbaaDoor
