/- Contracts and plain laws, joined: SyPf, SyPb. -/
import Derived.Test.YtnaejabgkfhlbaaDoorQan
/- Plain laws of SyntaxFirst: what follows the token of an error, and what stands ahead of it. -/
set_option linter.unusedSimpArgs false
set_option linter.unusedVariables false
namespace Go.Proofs.YtnaejabgkfhlbaaDoor
open Go.RowKit

/-- An error of the grammar stands at a token. -/
theorem err_at {ts : List Tok} (hf : Fine ts) {j : Nat} {e : Int} (h : parseG opsX (ts.map Tok.sh) = .error (j, e)) : e ≠ 0 ∧ ∃ t, ts[j]? = some t ∧ parseT ts = (zeroProf, (t.pos : Int), e) := by
  have h1 := sim_parse.2 ts 0 hf
  rw [h] at h1
  obtain ⟨t, ht, h2, _, _⟩ := h1
  refine ⟨h2, t, ht, ?_⟩
  unfold parseT
  rw [h]
  simp [ht]
theorem parse_of {l : List UInt8} {ts : List Tok} (h : lexL l = .ok ts) : parseL l = parseT ts := by unfold parseL; rw [h]
/-- What SyntaxFirst begins with: an error of the grammar at token i. -/
theorem first_start {l : List UInt8} {ts : List Tok} {P : Prof} {at_ f : Int} (hl : lexL l = .ok ts) (hp : parseL l = (P, at_, f)) (hf : f ≠ 0) : ∃ i t, ts[i]? = some t ∧ at_ = t.pos ∧ parseG opsX (ts.map Tok.sh) = .error (i, f) := by
  have hfi := (lex_fine (lexL_ok hl).2).1
  rw [parse_of hl] at hp
  cases hx : parseG opsX (ts.map Tok.sh) with
  | ok q =>
    obtain ⟨a, n⟩ := q
    unfold parseT at hp
    rw [hx] at hp
    simp only [Prod.mk.injEq] at hp
    exact absurd hp.2.2.symm hf
  | error q =>
    obtain ⟨j, e⟩ := q
    obtain ⟨h1, t, ht, h2⟩ := err_at hfi hx
    rw [h2] at hp
    simp only [Prod.mk.injEq] at hp
    exact ⟨j, t, ht, hp.2.1.symm, by rw [hp.2.2]⟩
/-- A place belongs to one token. -/
theorem one_place {l : List UInt8} {ts : List Tok} (hl : lexL l = .ok ts) {i j : Nat} {t u : Tok} (hi : ts[i]? = some t) (hj : ts[j]? = some u) (h : t.pos = u.pos) : i = j := by
  have hg := (lex_grow (lexL_ok hl).2).1
  rcases Nat.lt_trichotomy i j with h1 | h1 | h1
  · have := hg i j t u h1 hi hj; omega
  · exact h1
  · have := hg j i u t h1 hj hi; omega
/-- With a further string behind the token there is the same error. -/
theorem first_more {l : List UInt8} {ts : List Tok} {i : Nat} {t : Tok} {f : Int} (hl : lexL l = .ok ts) (hi : ts[i]? = some t) (hx : parseG opsX (ts.map Tok.sh) = .error (i, f)) (hn : t.sh ≠ .fin) (m : List UInt8) {ts2 : List Tok}
    (h2 : lexL (l.take (t.pos + t.sh.text.length) ++ 32 :: m) = .ok ts2) : parseL (l.take (t.pos + t.sh.text.length) ++ 32 :: m) = (zeroProf, (t.pos : Int), f) := by
  have h3 := lex_then (lexL_ok hl).2 i t 32 m hi hn (by decide)
  rw [Nat.sub_zero] at h3
  have h4 := (lexL_ok h2).2
  rw [h3] at h4
  cases hr : lexS (32 :: m) (t.pos + t.sh.text.length) with
  | error e => rw [hr] at h4; cases h4
  | ok r =>
    rw [hr] at h4
    have h5 : ts2 = ts.take (i + 1) ++ r := by cases h4; rfl
    have hlt := (List.getElem?_eq_some_iff.1 hi).1
    have htk : (ts2.map Tok.sh).take (i + 1) = (ts.map Tok.sh).take (i + 1) := by
      rw [h5, List.map_append, List.map_take, List.take_append_of_le_length (by simp; omega), List.take_take, Nat.min_self]
    have hx2 := (pre_parse (ts.map Tok.sh)).1 i f hx _ htk
    obtain ⟨_, u, hu, h6⟩ := err_at (lex_fine (lexL_ok h2).2).1 hx2
    rw [parse_of h2, h6]
    have : ts2[i]? = some t := by
      rw [h5, List.getElem?_append_left (by simp; omega), List.getElem?_take, if_pos (by omega)]
      exact hi
    rw [this] at hu
    cases hu
    rfl
/-- What stands ahead of the token has its error, if it has one, at its end. -/
theorem first_cut {l : List UInt8} {ts : List Tok} {i : Nat} {t : Tok} {f : Int} (hl : lexL l = .ok ts) (hi : ts[i]? = some t) (hx : parseG opsX (ts.map Tok.sh) = .error (i, f)) :
    (∃ Q, parseL (l.take t.pos) = (Q, 0, 0)) ∨ ∃ k, parseL (l.take t.pos) = (zeroProf, (t.pos : Int), k) ∧ k ≠ 0 := by
  have h1 := lex_cut (lexL_ok hl).2 i t hi
  rw [Nat.sub_zero] at h1
  have hlt := (List.getElem?_eq_some_iff.1 hi).1
  have hlen := (lexL_ok hl).1
  have h2 : lexL (l.take t.pos) = .ok (ts.take i ++ [(⟨.fin, t.pos⟩ : Tok)]) := by
    unfold lexL
    rw [if_neg (by rw [List.length_take]; omega)]
    exact h1
  rw [parse_of h2]
  cases hy : parseG opsX ((ts.take i ++ [(⟨.fin, t.pos⟩ : Tok)]).map Tok.sh) with
  | ok q =>
    obtain ⟨a, n⟩ := q
    left
    exact ⟨a, by unfold parseT; rw [hy]⟩
  | error q =>
    obtain ⟨j, k⟩ := q
    right
    obtain ⟨h3, u, hu, h4⟩ := err_at (lex_fine h1).1 hy
    have hj := (List.getElem?_eq_some_iff.1 hu).1
    simp at hj
    have hji : j = i := by
      rcases Nat.lt_or_ge j i with hji | hji
      · have hx2 := (pre_parse ((ts.take i ++ [(⟨.fin, t.pos⟩ : Tok)]).map Tok.sh)).1 j k hy (ts.map Tok.sh) (by
          rw [List.map_append, List.map_take, List.take_append_of_le_length (by simp; omega), List.take_take, Nat.min_eq_left (by omega)])
        rw [hx] at hx2
        cases hx2
        omega
      · omega
    subst hji
    have hu2 : (ts.take j ++ [(⟨.fin, t.pos⟩ : Tok)])[j]? = some ⟨.fin, t.pos⟩ := by
      rw [List.getElem?_append_right (by rw [List.length_take]; omega), List.length_take, Nat.min_eq_left (by omega), Nat.sub_self]
      rfl
    rw [hu2] at hu
    cases hu
    exact ⟨k, h4, h3⟩
end Go.Proofs.YtnaejabgkfhlbaaDoor
/- Plain law of SyntaxBlanks: other blanks between the tokens change the places alone. -/
set_option linter.unusedSimpArgs false
set_option linter.unusedVariables false
namespace Go.Proofs.YtnaejabgkfhlbaaDoor
open Go.RowKit

/-- The tokens of a string: those that are none of the ends, and the end. -/
theorem lex_split {l : List UInt8} {a : Nat} {ts : List Tok} (h : lexS l a = .ok ts) : ∃ ts0 p, ts = ts0 ++ [(⟨.fin, p⟩ : Tok)] ∧ ∀ t ∈ ts0, GoodTok t.sh := by
  refine lex_ind (M := fun l a ts => ∃ ts0 p, ts = ts0 ++ [(⟨.fin, p⟩ : Tok)] ∧ ∀ t ∈ ts0, GoodTok t.sh) ?_ ?_ ?_ l a ts h
  · intro a; exact ⟨[], a, rfl, fun _ h => by cases h⟩
  · intro c r a ts _ _ ih; exact ih
  · rintro sh q a ts hg _ _ ⟨ts0, p, rfl, ih⟩
    refine ⟨⟨sh, a⟩ :: ts0, p, rfl, fun t ht => ?_⟩
    rcases List.mem_cons.1 ht with rfl | ht
    · exact hg
    · exact ih t ht
/-- The blanks ahead of token i. -/
def moreB (bl : List UInt8) (i : Nat) : List UInt8 := match bl[i]? with
  | some b => [32, 10, 9, 32, 32].take (b.toNat % 5)
  | none => []
def blankF (bl : List UInt8) (i : Nat) : List UInt8 := 32 :: moreB bl i
theorem moreB_all (bl : List UInt8) (i : Nat) : (moreB bl i).all blankC = true := by
  unfold moreB
  split
  · rename_i b _
    have : ∀ n, n < 5 → ([32, 10, 9, 32, 32].take n : List UInt8).all blankC = true := by decide
    exact this _ (Nat.mod_lt _ (by decide))
  · rfl
theorem moreB_len (bl : List UInt8) (i : Nat) : (moreB bl i).length ≤ 4 := by
  unfold moreB
  split
  · rename_i b _
    have := Nat.mod_lt b.toNat (show 5 > 0 by decide)
    simp only [List.length_take]
    omega
  · simp
theorem blankF_all (bl : List UInt8) (i : Nat) : (blankF bl i).all blankC = true := by
  unfold blankF
  rw [List.all_cons, moreB_all]
  rfl
def shAt (ts : List Tok) (i : Nat) : Sh := match ts[i]? with
  | some t => t.sh
  | none => .fin
theorem shAt_of {ts : List Tok} {i : Nat} {t : Tok} (h : ts[i]? = some t) : shAt ts i = t.sh := by unfold shAt; rw [h]
def psF (ts : List Tok) (bl : List UInt8) (k : Nat) : List (List UInt8 × Sh) := (List.range k).map fun i => (blankF bl i, shAt ts i)
/-- The text of the first k tokens with their blanks. -/
def tF (ts : List Tok) (bl : List UInt8) (k : Nat) : List UInt8 := (psF ts bl k).flatMap (fun p => p.1 ++ p.2.text)
/-- The place of token i in it. -/
def atF (ts : List Tok) (bl : List UInt8) (i : Nat) : Nat := (tF ts bl i).length + (blankF bl i).length
def plF (ts : List Tok) (bl : List UInt8) (k : Nat) : List Int := (List.range k).map fun i => (atF ts bl i : Int)
theorem tF_zero (ts : List Tok) (bl : List UInt8) : tF ts bl 0 = [] := rfl
theorem tF_succ (ts : List Tok) (bl : List UInt8) (k : Nat) : tF ts bl (k + 1) = tF ts bl k ++ (blankF bl k ++ (shAt ts k).text) := by
  unfold tF psF
  rw [List.range_succ, List.map_append, List.flatMap_append]
  simp
theorem plF_succ (ts : List Tok) (bl : List UInt8) (k : Nat) : plF ts bl (k + 1) = plF ts bl k ++ [(atF ts bl k : Int)] := by
  unfold plF
  rw [List.range_succ, List.map_append]
  rfl
theorem plF_len (ts : List Tok) (bl : List UInt8) (k : Nat) : (plF ts bl k).length = k := by simp [plF]
theorem plF_at (ts : List Tok) (bl : List UInt8) {k i : Nat} (h : i < k) : (plF ts bl k)[i]? = some (atF ts bl i : Int) := by
  simp [plF, h]
theorem text_fit {ts : List Tok} {l : List UInt8} {a : Nat} (h : lexS l a = .ok ts) (i : Nat) : (shAt ts i).text.length ≤ l.length := by
  unfold shAt
  split
  · rename_i t ht
    have := (lex_fine h).2.2 t (List.mem_of_getElem? ht)
    omega
  · simp [Sh.text]
theorem tF_len {ts : List Tok} {l : List UInt8} {a : Nat} (bl : List UInt8) (h : lexS l a = .ok ts) : ∀ k, (tF ts bl k).length ≤ k * (l.length + 5)
  | 0 => by simp [tF_zero]
  | k + 1 => by
    have h1 := tF_len bl h k
    have h2 := text_fit h k
    have h3 := moreB_len bl k
    rw [tF_succ, List.length_append, List.length_append, Nat.succ_mul]
    unfold blankF
    rw [List.length_cons]
    omega
theorem range_map_sh (ts0 : List Tok) (u : Tok) : (List.range ts0.length).map (fun i => shAt (ts0 ++ [u]) i) = ts0.map Tok.sh := by
  apply List.ext_getElem?
  intro i
  by_cases h : i < ts0.length
  · rw [List.getElem?_map, List.getElem?_range h, List.getElem?_map]
    simp only [Option.map_some]
    rw [shAt_of (List.getElem?_append_left h ▸ List.getElem?_eq_getElem h : (ts0 ++ [u])[i]? = some ts0[i]), List.getElem?_eq_getElem h]
    rfl
  · rw [List.getElem?_eq_none (by simp; omega), List.getElem?_eq_none (by simp; omega)]
/-- The tokens of that text. -/
theorem lex_other {l : List UInt8} {ts : List Tok} (bl : List UInt8) (h : lexS l 0 = .ok ts) : ∃ ts2, lexS (tF ts bl ts.length) 0 = .ok ts2 ∧ ts2.map Tok.sh = ts.map Tok.sh ∧ ∀ i, i < ts.length → ∃ t, ts2[i]? = some t ∧ t.pos = atF ts bl i := by
  obtain ⟨ts0, p, rfl, hg⟩ := lex_split h
  have hfin : shAt (ts0 ++ [(⟨.fin, p⟩ : Tok)]) ts0.length = .fin := by
    unfold shAt
    rw [List.getElem?_append_right (Nat.le_refl _), Nat.sub_self]
    rfl
  have hps : ∀ q ∈ psF (ts0 ++ [(⟨.fin, p⟩ : Tok)]) bl ts0.length, GoodTok q.2 ∧ q.1 ≠ [] ∧ q.1.all blankC = true := by
    intro q hq
    unfold psF at hq
    obtain ⟨i, hi, rfl⟩ := List.mem_map.1 hq
    have hlt : i < ts0.length := List.mem_range.1 hi
    refine ⟨?_, by simp [blankF], blankF_all _ _⟩
    rw [shAt_of (List.getElem?_append_left hlt ▸ List.getElem?_eq_getElem hlt : (ts0 ++ [(⟨.fin, p⟩ : Tok)])[i]? = some ts0[i])]
    exact hg _ (List.getElem_mem hlt)
  obtain ⟨ts2, h1, h2, h3, h4⟩ := lex_blanks _ (blankF bl ts0.length) 0 hps (by simp [blankF]) (blankF_all _ _)
  have hlen : (psF (ts0 ++ [(⟨.fin, p⟩ : Tok)]) bl ts0.length).length = ts0.length := by simp [psF]
  refine ⟨ts2, ?_, ?_, fun i hi => ?_⟩
  · rw [← h1]
    congr 1
    rw [List.length_append, List.length_singleton, tF_succ, hfin]
    simp [Sh.text, tF]
  · rw [h2, List.map_append]
    unfold psF
    rw [List.map_map, show (Prod.snd ∘ fun i => (blankF bl i, shAt (ts0 ++ [(⟨.fin, p⟩ : Tok)]) i)) = fun i => shAt (ts0 ++ [(⟨.fin, p⟩ : Tok)]) i from rfl, range_map_sh]
    rfl
  · rw [List.length_append, List.length_singleton] at hi
    by_cases hlt : i < ts0.length
    · have hq : (psF (ts0 ++ [(⟨.fin, p⟩ : Tok)]) bl ts0.length)[i]? = some (blankF bl i, shAt (ts0 ++ [(⟨.fin, p⟩ : Tok)]) i) := by simp [psF, hlt]
      obtain ⟨t, ht, hp⟩ := h3 i _ hq
      refine ⟨t, ht, ?_⟩
      rw [hp]
      have : (psF (ts0 ++ [(⟨.fin, p⟩ : Tok)]) bl ts0.length).take i = psF (ts0 ++ [(⟨.fin, p⟩ : Tok)]) bl i := by
        unfold psF
        rw [← List.map_take, List.take_range, Nat.min_eq_left (by omega)]
      rw [this]
      unfold atF tF
      show 0 + _ + (blankF bl i).length = _
      omega
    · have hie : i = ts0.length := by omega
      subst hie
      obtain ⟨t, ht, hp⟩ := h4
      rw [hlen] at ht
      refine ⟨t, ht, ?_⟩
      rw [hp]
      unfold atF tF
      omega
/-- The law: the same profile, or the same kind of error at the same token. -/
theorem blanks_law {l : List UInt8} {ts : List Tok} (bl : List UInt8) (hl : lexL l = .ok ts) (hb : (tF ts bl ts.length).length ≤ 2000) :
    (∃ P, parseL l = (P, 0, 0) ∧ parseL (tF ts bl ts.length) = (P, 0, 0)) ∨
    ∃ j t e, ts[j]? = some t ∧ e ≠ 0 ∧ parseL l = (zeroProf, (t.pos : Int), e) ∧ parseL (tF ts bl ts.length) = (zeroProf, (atF ts bl j : Int), e) := by
  obtain ⟨ts2, h1, h2, h3⟩ := lex_other bl (lexL_ok hl).2
  have hl2 : lexL (tF ts bl ts.length) = .ok ts2 := by
    unfold lexL
    rw [if_neg (by omega)]
    exact h1
  rw [parse_of hl, parse_of hl2]
  cases hx : parseG opsX (ts.map Tok.sh) with
  | ok q =>
    obtain ⟨a, n⟩ := q
    left
    exact ⟨a, by unfold parseT; rw [hx], by unfold parseT; rw [h2, hx]⟩
  | error q =>
    obtain ⟨j, e⟩ := q
    right
    obtain ⟨he, t, ht, h4⟩ := err_at (lex_fine (lexL_ok hl).2).1 hx
    have hx2 := hx
    rw [← h2] at hx2
    obtain ⟨_, u, hu, h5⟩ := err_at (lex_fine h1).1 hx2
    obtain ⟨v, hv, hp⟩ := h3 j (List.getElem?_eq_some_iff.1 ht).1
    rw [hv] at hu
    injection hu with hu
    subst hu
    exact ⟨j, t, e, ht, he, h4, by rw [h5, hp]⟩
end Go.Proofs.YtnaejabgkfhlbaaDoor
