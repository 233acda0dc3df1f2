/- Tokens of a string in plain Lean (layer 11), and what cutting, blanks and other ends do to them. -/
import Derived.Test.YtnaejabgkfhlbaaDoorSyB
set_option linter.unusedSimpArgs false
set_option linter.unusedVariables false
namespace Go.Proofs.YtnaejabgkfhlbaaDoor
open Go.RowKit

def blankC (c : UInt8) : Bool := c == 32 || (c == 9 || c == 10)
def letterC (c : UInt8) : Bool := letterI c.toNat
def digitC (c : UInt8) : Bool := digitI c.toNat
def valF (l : List UInt8) : Nat := l.foldl (fun n c => 10 * n + (c.toNat - 48)) 0
/-- The value of a valid number. -/
def numF (l : List UInt8) : Option Int := if l = [] ∨ l.all digitC = false ∨ (l.head? = some 48 ∧ l ≠ [48]) ∨ 1099511627776 < valF l then none else some (valF l : Int)
def nextF : List UInt8 → Except Int Sh
  | [] => .error 10
  | c :: r => if letterC c then (if wordL ((c :: r).takeWhile wordC) then .ok (.word ((c :: r).takeWhile wordC)) else .error 11) else
    if digitC c then (match numF ((c :: r).takeWhile digitC) with
      | some n => .ok (.num ((c :: r).takeWhile digitC) n)
      | none => .error 3) else
    if c = 59 then .ok .sign else .error 10
theorem nextF_cons (c : UInt8) (r : List UInt8) : nextF (c :: r) = if letterC c then (if wordL ((c :: r).takeWhile wordC) then .ok (.word ((c :: r).takeWhile wordC)) else .error 11) else
    if digitC c then (match numF ((c :: r).takeWhile digitC) with
      | some n => .ok (.num ((c :: r).takeWhile digitC) n)
      | none => .error 3) else
    if c = 59 then .ok .sign else .error 10 := rfl
abbrev LexR := Except (Nat × Int) (List Tok)
def addT (out : List Tok) : LexR → LexR
  | .error e => .error e
  | .ok ts => .ok (out ++ ts)
def lexG : Nat → List UInt8 → Nat → LexR
  | 0, _, at_ => .ok [⟨.fin, at_⟩]
  | f + 1, l, at_ => match l with
    | [] => .ok [⟨.fin, at_⟩]
    | c :: r => if blankC c then lexG f r (at_ + 1) else match nextF (c :: r) with
      | .error e => .error (at_, e)
      | .ok sh => addT [⟨sh, at_⟩] (lexG f ((c :: r).drop sh.text.length) (at_ + sh.text.length))
def lexS (l : List UInt8) (at_ : Nat) : LexR := lexG l.length l at_
/-- What Lex says. -/
def lexL (s : List UInt8) : LexR := if 2000 < s.length then .error (0, 6) else lexS s 0

theorem addT_nil (r : LexR) : addT [] r = r := by cases r <;> rfl
theorem addT_add (a b : List Tok) (r : LexR) : addT a (addT b r) = addT (a ++ b) r := by cases r <;> simp [addT]

/-- A token that is none of the ends. -/
def GoodTok : Sh → Prop
  | .word s => wordL s = true
  | .num s n => numF s = some n
  | .sign => True
  | .fin => False
def Stops (sh : Sh) (q : List UInt8) : Prop := match sh with
  | .word _ => ∀ c, q.head? = some c → wordC c = false
  | .num _ _ => ∀ c, q.head? = some c → digitC c = false
  | _ => True
theorem tw_split {p : UInt8 → Bool} (l : List UInt8) : l = l.takeWhile p ++ l.drop (l.takeWhile p).length ∧ ∀ c, (l.drop (l.takeWhile p).length).head? = some c → p c = false := by
  induction l with
  | nil => simp
  | cons a l ih =>
    rw [List.takeWhile_cons]
    cases h : p a
    · simp [h]
    · simp only [if_true, List.length_cons, List.drop_succ_cons, List.cons_append]
      exact ⟨congrArg _ ih.1, ih.2⟩
theorem tw_of {p : UInt8 → Bool} (t q : List UInt8) (ht : t.all p = true) (hq : ∀ c, q.head? = some c → p c = false) : (t ++ q).takeWhile p = t := by
  induction t with
  | nil =>
    cases q with
    | nil => rfl
    | cons c q => simp [hq c rfl]
  | cons a t ih =>
    simp only [List.all_cons, Bool.and_eq_true] at ht
    rw [List.cons_append, List.takeWhile_cons, ht.1]
    simp only [if_true]
    rw [ih ht.2]
theorem wordL_all {s : List UInt8} (h : wordL s = true) : s.all wordC = true ∧ ∃ c r, s = c :: r ∧ letterC c = true := by
  cases s with
  | nil => simp [wordL] at h
  | cons c r =>
    unfold wordL at h
    simp only [Bool.and_eq_true] at h
    exact ⟨h.2, c, r, rfl, h.1.1⟩
theorem numF_inv {s : List UInt8} {n : Int} (h : numF s = some n) : s.all digitC = true ∧ (∃ c r, s = c :: r ∧ digitC c = true) ∧ n = (valF s : Int) ∧ valF s ≤ 1099511627776 ∧ ¬ (s.head? = some 48 ∧ s ≠ [48]) := by
  unfold numF at h
  split at h
  · cases h
  · rename_i hn
    simp only [not_or] at hn
    obtain ⟨h1, h2, h3, h4⟩ := hn
    have h2 : s.all digitC = true := by simpa using h2
    refine ⟨h2, ?_, by cases h; rfl, by omega, h3⟩
    cases s with
    | nil => exact absurd rfl h1
    | cons c r => exact ⟨c, r, rfl, by simp at h2; exact h2.1⟩
theorem letter_not {c : UInt8} (h : letterC c = true) : blankC c = false ∧ wordC c = true := by
  unfold letterC letterI at h
  simp at h
  constructor
  · unfold blankC
    have : ∀ k : UInt8, k.toNat < 97 → (c == k) = false := fun k hk => by
      rw [beq_eq_false_iff_ne]; rintro rfl; omega
    rw [this 32 (by decide), this 9 (by decide), this 10 (by decide)]
    rfl
  · unfold wordC wordI letterI
    simp; left; exact h
theorem digit_not {c : UInt8} (h : digitC c = true) : blankC c = false ∧ letterC c = false ∧ wordC c = true := by
  unfold digitC digitI at h
  simp at h
  refine ⟨?_, ?_, ?_⟩
  · unfold blankC
    have : ∀ k : UInt8, k.toNat < 48 → (c == k) = false := fun k hk => by
      rw [beq_eq_false_iff_ne]; rintro rfl; omega
    rw [this 32 (by decide), this 9 (by decide), this 10 (by decide)]
    rfl
  · unfold letterC letterI
    simp; omega
  · unfold wordC wordI digitI
    simp; right; exact h
theorem blank_not {c : UInt8} (h : blankC c = true) : wordC c = false ∧ digitC c = false := by
  unfold blankC at h
  simp at h
  rcases h with rfl | rfl | rfl <;> decide
theorem nextF_ok {l : List UInt8} {sh : Sh} (h : nextF l = .ok sh) : GoodTok sh ∧ l = sh.text ++ l.drop sh.text.length ∧ Stops sh (l.drop sh.text.length) := by
  cases l with
  | nil => cases h
  | cons c r =>
    rw [nextF_cons] at h
    split at h
    · split at h
      · cases h
        have := tw_split (p := wordC) (c :: r)
        exact ⟨by assumption, this.1, this.2⟩
      · cases h
    · split at h
      · split at h
        · rename_i n hn
          cases h
          have := tw_split (p := digitC) (c :: r)
          exact ⟨hn, this.1, this.2⟩
        · cases h
      · split at h
        · rename_i hc
          cases h
          subst hc
          exact ⟨trivial, rfl, trivial⟩
        · cases h
theorem good_head {sh : Sh} (h : GoodTok sh) : ∃ c r, sh.text = c :: r ∧ blankC c = false := by
  cases sh with
  | word s => obtain ⟨_, c, r, rfl, hc⟩ := wordL_all h; exact ⟨c, r, rfl, (letter_not hc).1⟩
  | num s n => obtain ⟨_, ⟨c, r, rfl, hc⟩, _⟩ := numF_inv h; exact ⟨c, r, rfl, (digit_not hc).1⟩
  | sign => exact ⟨59, [], rfl, by decide⟩
  | fin => exact h.elim
theorem nextF_of {sh : Sh} {q : List UInt8} (h : GoodTok sh) (hs : Stops sh q) : nextF (sh.text ++ q) = .ok sh := by
  cases sh with
  | word s =>
    obtain ⟨ha, c, r, rfl, hc⟩ := wordL_all h
    have e := tw_of (p := wordC) (c :: r) q ha hs
    show nextF (c :: (r ++ q)) = _
    rw [nextF_cons, if_pos hc]
    change (c :: (r ++ q)).takeWhile wordC = _ at e
    change wordL (c :: r) = true at h
    rw [e, if_pos h]
  | num s n =>
    obtain ⟨ha, ⟨c, r, rfl, hc⟩, _⟩ := numF_inv h
    have e := tw_of (p := digitC) (c :: r) q ha hs
    have hl := (digit_not hc).2.1
    show nextF (c :: (r ++ q)) = _
    rw [nextF_cons]
    change (c :: (r ++ q)).takeWhile digitC = _ at e
    rw [if_neg (by rw [hl]; decide), if_pos hc, e]
    change numF (c :: r) = some n at h
    rw [h]
  | sign => rfl
  | fin => exact h.elim
theorem stops_blank {sh : Sh} {c : UInt8} {q : List UInt8} (h : blankC c = true) : Stops sh (c :: q) := by
  cases sh with
  | word s => intro d hd; simp at hd; subst hd; exact (blank_not h).1
  | num s n => intro d hd; simp at hd; subst hd; exact (blank_not h).2
  | sign => trivial
  | fin => trivial
theorem stops_nil (sh : Sh) : Stops sh [] := by
  cases sh with
  | word s => intro d hd; simp at hd
  | num s n => intro d hd; simp at hd
  | sign => trivial
  | fin => trivial
theorem stops_head {sh : Sh} {q q' : List UInt8} (h : Stops sh q) (e : q'.head? = none ∨ q'.head? = q.head?) : Stops sh q' := by
  rcases e with e | e
  · have : q' = [] := by cases q' <;> simp at e ⊢
    rw [this]; exact stops_nil sh
  · cases sh with
    | word s => intro c hc; exact h c (by rw [← e]; exact hc)
    | num s n => intro c hc; exact h c (by rw [← e]; exact hc)
    | sign => trivial
    | fin => trivial
theorem lexG_any : ∀ (f g : Nat) (l : List UInt8) (a : Nat), l.length ≤ f → l.length ≤ g → lexG f l a = lexG g l a
  | f, g, [], a, _, _ => by cases f <;> cases g <;> rfl
  | 0, _, _ :: _, _, h, _ => by simp at h
  | _ + 1, 0, _ :: _, _, _, h => by simp at h
  | f + 1, g + 1, c :: r, a, hf, hg => by
    have hr : r.length ≤ f := by simpa using hf
    have hr2 : r.length ≤ g := by simpa using hg
    unfold lexG
    simp only
    split
    · exact lexG_any f g r _ hr hr2
    · cases hn : nextF (c :: r) with
      | error e => rfl
      | ok sh =>
        obtain ⟨d, t, e, _⟩ := good_head (nextF_ok hn).1
        have hlen : ((c :: r).drop sh.text.length).length ≤ r.length := by rw [e]; simp
        simp only
        rw [lexG_any f g _ _ (by omega) (by omega)]
theorem lexG_more (f : Nat) (l : List UInt8) (a : Nat) (h : l.length ≤ f) : lexG f l a = lexG l.length l a := lexG_any _ _ _ _ h (Nat.le_refl _)
theorem lexS_nil (a : Nat) : lexS [] a = .ok [⟨.fin, a⟩] := rfl
theorem lexS_blank {c : UInt8} {r : List UInt8} {a : Nat} (h : blankC c = true) : lexS (c :: r) a = lexS r (a + 1) := by
  show lexG (r.length + 1) (c :: r) a = _
  unfold lexG
  simp only [h, if_true]
  rfl
theorem lexS_blanks : ∀ (b r : List UInt8) (a : Nat), b.all blankC = true → lexS (b ++ r) a = lexS r (a + b.length)
  | [], _, _, _ => rfl
  | c :: b, r, a, h => by
    simp only [List.all_cons, Bool.and_eq_true] at h
    rw [List.cons_append, lexS_blank h.1, lexS_blanks b r (a + 1) h.2, List.length_cons]
    congr 1
    omega
theorem lexS_err {c : UInt8} {r : List UInt8} {a : Nat} {e : Int} (h : blankC c = false) (hn : nextF (c :: r) = .error e) : lexS (c :: r) a = .error (a, e) := by
  show lexG (r.length + 1) (c :: r) a = _
  unfold lexG
  simp only [h, hn]
  rfl
theorem lexS_next {c : UInt8} {r : List UInt8} {a : Nat} {sh : Sh} (h : blankC c = false) (hn : nextF (c :: r) = .ok sh) : lexS (c :: r) a = addT [⟨sh, a⟩] (lexS ((c :: r).drop sh.text.length) (a + sh.text.length)) := by
  show lexG (r.length + 1) (c :: r) a = _
  obtain ⟨d, t, e, _⟩ := good_head (nextF_ok hn).1
  have hlen : ((c :: r).drop sh.text.length).length ≤ r.length := by rw [e]; simp
  unfold lexG
  simp only [h, hn]
  rw [lexG_more _ _ _ hlen]
  rfl
theorem lexS_tok {sh : Sh} {q : List UInt8} {a : Nat} (h : GoodTok sh) (hs : Stops sh q) : lexS (sh.text ++ q) a = addT [⟨sh, a⟩] (lexS q (a + sh.text.length)) := by
  have hn := nextF_of h hs
  obtain ⟨d, t, e, hb⟩ := good_head h
  rw [e, List.cons_append] at hn ⊢
  rw [lexS_next hb hn]
  congr 2
  · rw [e]; simp
  · rw [e]
/-- Going over the tokens of a string that has them. -/
theorem lex_ind {M : List UInt8 → Nat → List Tok → Prop} (h0 : ∀ a, M [] a [⟨.fin, a⟩]) (h1 : ∀ c r a ts, blankC c = true → lexS r (a + 1) = .ok ts → M r (a + 1) ts → M (c :: r) a ts)
    (h2 : ∀ sh q a ts, GoodTok sh → Stops sh q → lexS q (a + sh.text.length) = .ok ts → M q (a + sh.text.length) ts → M (sh.text ++ q) a (⟨sh, a⟩ :: ts)) : ∀ (l : List UInt8) (a : Nat) (ts : List Tok), lexS l a = .ok ts → M l a ts := by
  intro l
  generalize hk : l.length = k
  induction k using Nat.strongRecOn generalizing l with
  | _ k ih =>
    intro a ts h
    cases l with
    | nil => cases h; exact h0 a
    | cons c r =>
      cases hb : blankC c with
      | true =>
        rw [lexS_blank hb] at h
        exact h1 c r a ts hb h (ih r.length (by rw [← hk]; simp) r rfl _ _ h)
      | false =>
        cases hn : nextF (c :: r) with
        | error e => rw [lexS_err hb hn] at h; cases h
        | ok sh =>
          rw [lexS_next hb hn] at h
          obtain ⟨hg, hsp, hst⟩ := nextF_ok hn
          obtain ⟨d, t, e, _⟩ := good_head hg
          generalize hq : (c :: r).drop sh.text.length = q at *
          cases hx : lexS q (a + sh.text.length) with
          | error x => rw [hx] at h; cases h
          | ok us =>
            rw [hx] at h
            cases h
            rw [hsp]
            refine h2 sh q a us hg hst hx (ih q.length ?_ q rfl _ _ hx)
            rw [← hk, hsp, e]
            simp
            omega
theorem lex_fine {l : List UInt8} {a : Nat} {ts : List Tok} (h : lexS l a = .ok ts) : Fine ts ∧ (∀ t ∈ ts, GoodSh t.sh) ∧ (∀ t ∈ ts, a ≤ t.pos ∧ t.pos + t.sh.text.length ≤ a + l.length) := by
  refine lex_ind (M := fun l a ts => Fine ts ∧ (∀ t ∈ ts, GoodSh t.sh) ∧ (∀ t ∈ ts, a ≤ t.pos ∧ t.pos + t.sh.text.length ≤ a + l.length)) ?_ ?_ ?_ l a ts h
  · intro a
    exact ⟨⟨[], _, rfl, rfl⟩, by simp [GoodSh], by simp [Sh.text]⟩
  · rintro c r a ts _ _ ⟨h1, h2, h3⟩
    refine ⟨h1, h2, fun t ht => ?_⟩
    have := h3 t ht
    simp only [List.length_cons]
    omega
  · rintro sh q a ts hg _ _ ⟨⟨l0, u, rfl, hu⟩, h2, h3⟩
    refine ⟨⟨⟨sh, a⟩ :: l0, u, rfl, hu⟩, fun t ht => ?_, fun t ht => ?_⟩
    · rcases List.mem_cons.1 ht with rfl | ht
      · cases sh with
        | word s => exact hg
        | num s n => trivial
        | sign => trivial
        | fin => trivial
      · exact h2 t ht
    · rw [List.length_append]
      rcases List.mem_cons.1 ht with rfl | ht
      · simp only
        omega
      · have := h3 t ht
        omega
/-- Places grow; the end stands at the end. -/
theorem lex_grow {l : List UInt8} {a : Nat} {ts : List Tok} (h : lexS l a = .ok ts) : (∀ (i j : Nat) (t u : Tok), i < j → ts[i]? = some t → ts[j]? = some u → t.pos < u.pos) ∧ ∀ t ∈ ts, (t.sh = .fin ↔ t.pos = a + l.length) := by
  refine lex_ind (M := fun l a ts => (∀ (i j : Nat) (t u : Tok), i < j → ts[i]? = some t → ts[j]? = some u → t.pos < u.pos) ∧ ∀ t ∈ ts, (t.sh = .fin ↔ t.pos = a + l.length)) ?_ ?_ ?_ l a ts h
  · intro a
    refine ⟨fun i j t u hij hi hj => ?_, by simp⟩
    have := (List.getElem?_eq_some_iff.1 hj).1
    simp at this
    omega
  · rintro c r a ts _ _ ⟨h1, h2⟩
    refine ⟨h1, fun t ht => ?_⟩
    rw [h2 t ht, List.length_cons]
    constructor <;> intro <;> omega
  · rintro sh q a ts hg _ hx ⟨h1, h2⟩
    obtain ⟨c, r, e, _⟩ := good_head hg
    have hlen : 0 < sh.text.length := by rw [e]; simp
    refine ⟨fun i j t u hij hi hj => ?_, fun t ht => ?_⟩
    · cases j with
      | zero => omega
      | succ j =>
        simp at hj
        cases i with
        | zero =>
          simp at hi
          subst hi
          have := (lex_fine hx).2.2 u (List.mem_of_getElem? hj)
          simp only
          omega
        | succ i =>
          simp at hi
          exact h1 i j t u (by omega) hi hj
    · rcases List.mem_cons.1 ht with rfl | ht
      · simp only [List.length_append]
        constructor
        · intro e2; rw [e2] at hg; exact hg.elim
        · intro e2; omega
      · rw [h2 t ht, List.length_append]
        constructor <;> intro <;> omega
theorem take_take_len {sh : Sh} {q : List UInt8} (n : Nat) : (sh.text ++ q).take (sh.text.length + n) = sh.text ++ q.take n := by
  rw [List.take_append]
  rw [List.take_of_length_le (by omega)]
  congr 2
  omega
theorem head_of_take (q : List UInt8) (n : Nat) : (q.take n).head? = none ∨ (q.take n).head? = q.head? := by
  cases n with
  | zero => left; simp
  | succ n => cases q <;> simp
/-- A string that is cut ahead of a token has the tokens ahead of it. -/
theorem lex_cut {l : List UInt8} {a : Nat} {ts : List Tok} (h : lexS l a = .ok ts) : ∀ i t, ts[i]? = some t → lexS (l.take (t.pos - a)) a = .ok (ts.take i ++ [⟨.fin, t.pos⟩]) := by
  refine lex_ind (M := fun l a ts => ∀ i t, ts[i]? = some t → lexS (l.take (t.pos - a)) a = .ok (ts.take i ++ [⟨.fin, t.pos⟩])) ?_ ?_ ?_ l a ts h
  · intro a i t hi
    have h1 := (List.getElem?_eq_some_iff.1 hi).1
    simp at h1
    subst h1
    simp at hi
    subst hi
    simp
    rfl
  · intro c r a ts hb hx ih i t hi
    have h1 := ((lex_fine hx).2.2 t (List.mem_of_getElem? hi)).1
    have h2 := ih i t hi
    rw [show t.pos - a = (t.pos - (a + 1)) + 1 by omega, List.take_succ_cons, lexS_blank hb]
    exact h2
  · intro sh q a ts hg hs hx ih i t hi
    cases i with
    | zero =>
      simp at hi
      subst hi
      simp
      rfl
    | succ i =>
      simp at hi
      have h1 := ((lex_fine hx).2.2 t (List.mem_of_getElem? hi)).1
      have h2 := ih i t hi
      rw [show t.pos - a = sh.text.length + (t.pos - (a + sh.text.length)) by omega, take_take_len, lexS_tok hg (stops_head hs (head_of_take _ _)), h2]
      rfl
/-- A string that is cut behind a token, with something else behind it that begins with a blank. -/
theorem lex_then {l : List UInt8} {a : Nat} {ts : List Tok} (h : lexS l a = .ok ts) : ∀ i t (c : UInt8) (m : List UInt8), ts[i]? = some t → t.sh ≠ .fin → blankC c = true →
    lexS (l.take (t.pos - a + t.sh.text.length) ++ c :: m) a = addT (ts.take (i + 1)) (lexS (c :: m) (t.pos + t.sh.text.length)) := by
  refine lex_ind (M := fun l a ts => ∀ i t (c : UInt8) (m : List UInt8), ts[i]? = some t → t.sh ≠ .fin → blankC c = true →
    lexS (l.take (t.pos - a + t.sh.text.length) ++ c :: m) a = addT (ts.take (i + 1)) (lexS (c :: m) (t.pos + t.sh.text.length))) ?_ ?_ ?_ l a ts h
  · intro a i t c m hi hf
    have h1 := (List.getElem?_eq_some_iff.1 hi).1
    simp at h1
    subst h1
    simp at hi
    subst hi
    exact absurd rfl hf
  · intro d r a ts hb hx ih i t c m hi hf hc
    have h1 := ((lex_fine hx).2.2 t (List.mem_of_getElem? hi)).1
    have h2 := ih i t c m hi hf hc
    rw [show t.pos - a + t.sh.text.length = (t.pos - (a + 1) + t.sh.text.length) + 1 by omega, List.take_succ_cons, List.cons_append, lexS_blank hb]
    exact h2
  · intro sh q a ts hg hs hx ih i t c m hi hf hc
    cases i with
    | zero =>
      simp at hi
      subst hi
      simp only [Nat.sub_self, Nat.zero_add]
      have := take_take_len (sh := sh) (q := q) 0
      rw [Nat.add_zero, List.take_zero, List.append_nil] at this
      rw [this, lexS_tok hg (stops_blank hc)]
      rfl
    | succ i =>
      simp at hi
      have h1 := ((lex_fine hx).2.2 t (List.mem_of_getElem? hi)).1
      have h2 := ih i t c m hi hf hc
      rw [show t.pos - a + t.sh.text.length = sh.text.length + (t.pos - (a + sh.text.length) + t.sh.text.length) by omega, take_take_len, List.append_assoc, lexS_tok hg, h2, addT_add]
      · rfl
      · refine stops_head (q := q ++ (c :: m)) ?_ ?_
        · cases q with
          | nil => exact stops_blank hc
          | cons d q => exact stops_head hs (.inr rfl)
        · right
          cases q with
          | nil => simp
          | cons d q =>
            cases hk : t.pos - (a + sh.text.length) + t.sh.text.length with
            | zero =>
              exfalso
              -- the token has a text, and q is not empty ahead of it
              have h3 := (lex_fine hx).2.1 t (List.mem_of_getElem? hi)
              have h0 : t.sh.text = [] := List.eq_nil_of_length_eq_zero (by omega)
              have hgood : ∀ (l : List UInt8) (a : Nat) (ts : List Tok), lexS l a = .ok ts → ∀ t ∈ ts, t.sh = .fin ∨ GoodTok t.sh := fun l a ts h => by
                refine lex_ind (M := fun l a ts => ∀ t ∈ ts, t.sh = .fin ∨ GoodTok t.sh) ?_ ?_ ?_ l a ts h
                · intro a t ht; simp at ht; subst ht; exact .inl rfl
                · intro c r a ts _ _ ih; exact ih
                · intro sh q a ts hg _ _ ih t ht
                  rcases List.mem_cons.1 ht with rfl | ht
                  · exact .inr hg
                  · exact ih t ht
              rcases hgood _ _ _ hx t (List.mem_of_getElem? hi) with e | e
              · exact hf e
              · obtain ⟨x, y, e2, _⟩ := good_head e
                rw [h0] at e2
                cases e2
            | succ k => simp
/-- Tokens with blanks ahead of each (the last one is the end). -/
theorem lex_blanks : ∀ (ps : List (List UInt8 × Sh)) (b : List UInt8) (a : Nat), (∀ p ∈ ps, GoodTok p.2 ∧ p.1 ≠ [] ∧ p.1.all blankC = true) → b ≠ [] → b.all blankC = true →
    ∃ ts, lexS (ps.flatMap (fun p => p.1 ++ p.2.text) ++ b) a = .ok ts ∧ ts.map Tok.sh = ps.map Prod.snd ++ [.fin] ∧
      (∀ i p, ps[i]? = some p → ∃ t, ts[i]? = some t ∧ t.pos = a + ((ps.take i).flatMap (fun p => p.1 ++ p.2.text)).length + p.1.length) ∧ ∃ t, ts[ps.length]? = some t ∧ t.pos = a + (ps.flatMap (fun p => p.1 ++ p.2.text)).length + b.length := by
  intro ps
  induction ps with
  | nil =>
    intro b a _ _ hb
    refine ⟨[⟨.fin, a + b.length⟩], ?_, rfl, fun i p h => by simp at h, ⟨_, rfl, by simp⟩⟩
    have := lexS_blanks b [] a hb
    rw [List.append_nil] at this
    simp only [List.flatMap_nil, List.nil_append]
    rw [this]
    rfl
  | cons p ps ih =>
    intro b a hp hb0 hb
    obtain ⟨hg, hn, hbl⟩ := hp p (by simp)
    obtain ⟨ts, h1, h2, h3, h4⟩ := ih b (a + p.1.length + p.2.text.length) (fun q hq => hp q (by simp [hq])) hb0 hb
    refine ⟨⟨p.2, a + p.1.length⟩ :: ts, ?_, by simp [h2], fun i q hq => ?_, ?_⟩
    · rw [List.flatMap_cons, List.append_assoc, List.append_assoc, lexS_blanks _ _ _ hbl, lexS_tok hg, h1]
      · rfl
      · have key : ∃ c r, ps.flatMap (fun p => p.1 ++ p.2.text) ++ b = c :: r ∧ blankC c = true := by
          cases ps with
          | nil =>
            cases b with
            | nil => exact absurd rfl hb0
            | cons c b => simp only [List.all_cons, Bool.and_eq_true] at hb; exact ⟨c, b, rfl, hb.1⟩
          | cons q ps =>
            obtain ⟨_, hn2, hbl2⟩ := hp q (by simp)
            obtain ⟨q1, q2⟩ := q
            cases q1 with
            | nil => exact absurd rfl hn2
            | cons c r => simp only [List.all_cons, Bool.and_eq_true] at hbl2; exact ⟨c, _, by simp; rfl, hbl2.1⟩
        obtain ⟨c, r, e, hc⟩ := key
        rw [e]
        exact stops_blank hc
    · cases i with
      | zero =>
        simp at hq
        subst hq
        exact ⟨_, rfl, by simp⟩
      | succ i =>
        simp at hq
        obtain ⟨t, ht, hp2⟩ := h3 i q hq
        exact ⟨t, by simpa using ht, by rw [hp2]; simp; omega⟩
    · obtain ⟨t, ht, hp2⟩ := h4
      exact ⟨t, by simpa using ht, by rw [hp2]; simp; omega⟩
/-- Tokens with one blank behind each. -/
theorem lex_pieces (f : Sh → UInt8) (hf : ∀ s, blankC (f s) = true) : ∀ (shs : List Sh) (a : Nat), (∀ s ∈ shs, GoodTok s) → ∃ ts, lexS (shs.flatMap (fun s => s.text ++ [f s])) a = .ok ts ∧ ts.map Tok.sh = shs ++ [.fin]
  | [], a, _ => ⟨_, rfl, rfl⟩
  | s :: r, a, h => by
    obtain ⟨ts, h1, h2⟩ := lex_pieces f hf r (a + s.text.length + 1) (fun x hx => h x (by simp [hx]))
    refine ⟨⟨s, a⟩ :: ts, ?_, by simp [h2]⟩
    rw [List.flatMap_cons, List.append_assoc, List.cons_append, List.nil_append, lexS_tok (h s (by simp)) (stops_blank (hf s)), lexS_blank (hf s), h1]
    rfl
theorem lex_count {l : List UInt8} {a : Nat} {ts : List Tok} (h : lexS l a = .ok ts) : ts.length ≤ l.length + 1 := by
  refine lex_ind (M := fun l a ts => ts.length ≤ l.length + 1) ?_ ?_ ?_ l a ts h
  · intro a; simp
  · intro c r a ts _ _ ih; simp only [List.length_cons]; omega
  · intro sh q a ts hg _ _ ih
    obtain ⟨d, t, e, _⟩ := good_head hg
    simp only [List.length_cons, List.length_append, e]
    omega
theorem lexL_ok {l : List UInt8} {ts : List Tok} (h : lexL l = .ok ts) : l.length ≤ 2000 ∧ lexS l 0 = .ok ts := by
  unfold lexL at h
  split at h
  · cases h
  · exact ⟨by omega, h⟩
theorem nextF_ne {l : List UInt8} {e : Int} (h : nextF l = .error e) : e ≠ 0 := by
  cases l with
  | nil => cases h; decide
  | cons c r =>
    rw [nextF_cons] at h
    split at h
    · split at h
      · cases h
      · cases h; decide
    · split at h
      · split at h
        · cases h
        · cases h; decide
      · split at h
        · cases h
        · cases h; decide
theorem lexG_err : ∀ (f : Nat) (l : List UInt8) (a : Nat) (q : Nat × Int), l.length ≤ f → lexG f l a = .error q → q.2 ≠ 0 ∧ q.1 ≤ a + l.length
  | 0, l, a, q, _, h => by cases h
  | f + 1, [], a, q, _, h => by cases h
  | f + 1, c :: r, a, q, hl, h => by
    have hr : r.length ≤ f := by simpa using hl
    unfold lexG at h
    simp only at h
    split at h
    · have := lexG_err f r (a + 1) q hr h
      exact ⟨this.1, by simp only [List.length_cons]; omega⟩
    · cases hn : nextF (c :: r) with
      | error e =>
        rw [hn] at h
        cases h
        exact ⟨nextF_ne hn, by simp⟩
      | ok sh =>
        rw [hn] at h
        simp only at h
        obtain ⟨hg, hsp, _⟩ := nextF_ok hn
        obtain ⟨d, t, e, _⟩ := good_head hg
        have hlen := congrArg List.length hsp
        rw [List.length_append] at hlen
        have h1 : 1 ≤ sh.text.length := by rw [e]; simp
        cases hx : lexG f ((c :: r).drop sh.text.length) (a + sh.text.length) with
        | ok ts => rw [hx] at h; cases h
        | error q2 =>
          rw [hx] at h
          cases h
          have hl2 : ((c :: r).drop sh.text.length).length ≤ f := by simp only [List.length_cons] at hlen; omega
          have := lexG_err f _ _ q hl2 hx
          exact ⟨this.1, by omega⟩
theorem lexL_err {l : List UInt8} {a : Nat} {x : Int} (h : lexL l = .error (a, x)) : x ≠ 0 ∧ a ≤ l.length := by
  unfold lexL at h
  split at h
  · cases h; exact ⟨by decide, by omega⟩
  · have := lexG_err l.length l 0 (a, x) (Nat.le_refl _) h
    exact ⟨this.1, by simpa using this.2⟩
end Go.Proofs.YtnaejabgkfhlbaaDoor
