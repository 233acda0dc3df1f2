/- Words in plain Lean: the pieces of strings.FieldsFunc, with small letters, are the words byte by byte. -/
import Derived.Test.YtpcfmmiiokbjbaaDoorStr
import Derived.Lib.FieldsP
import Derived.Lib.TrimUEq
import Derived.Shelf.Strings.CaseAny
import Derived.Laws.RangeAny
namespace Go.Proofs.YtpcfmmiiokbjbaaDoor
open Go.Lib

/-- What belongs to a word. -/
def partB (r : Nat) : Bool := (decide (97 ≤ r) && decide (r ≤ 122)) || ((decide (65 ≤ r) && decide (r ≤ 90)) || (decide (48 ≤ r) && decide (r ≤ 57)))
def noPart (r : Nat) : Bool := !partB r
theorem partB_lt {r : Nat} (h : partB r = true) : r < 128 := by
  simp [partB] at h
  omega
def wstep (a : List (List UInt8) × List UInt8) (c : UInt8) : List (List UInt8) × List UInt8 :=
  if partB c.toNat then (a.1, a.2 ++ [lowerB c]) else (if a.2 = [] then a.1 else a.1 ++ [a.2], [])
def wfin (a : List (List UInt8) × List UInt8) : List (List UInt8) := if a.2 = [] then a.1 else a.1 ++ [a.2]
/-- The words of a text. -/
def wordsF (l : List UInt8) : List (List UInt8) := wfin (l.foldl wstep ([], []))

theorem wstep_no {l : List UInt8} (hl : ∀ c ∈ l, partB c.toNat = false) (hne : l ≠ []) (a : List (List UInt8) × List UInt8) : l.foldl wstep a = (wfin a, []) := by
  cases l with
  | nil => exact absurd rfl hne
  | cons c r =>
    have h1 : wstep a c = (wfin a, []) := by rw [wstep, hl c (by simp), if_neg (by simp)]; rfl
    rw [List.foldl_cons, h1]
    have h2 : ∀ (r : List UInt8), (∀ c ∈ r, partB c.toNat = false) → ∀ o : List (List UInt8), r.foldl wstep (o, []) = (o, []) := by
      intro r
      induction r with
      | nil => intro _ o; rfl
      | cons d r ih =>
        intro h o
        rw [List.foldl_cons, wstep, h d (by simp), if_neg (by simp), if_pos rfl]
        exact ih (fun e he => h e (by simp [he])) o
    exact h2 r (fun d hd => hl d (by simp [hd])) _

/-- A rune that is no letter covers no letter. -/
theorem decode_no (l : List UInt8) (pos : Nat) (h : pos < l.length) (hp : partB (Utf8.decode (bs l) pos).1 = false) :
    1 ≤ (Utf8.decode (bs l) pos).2 ∧ pos + (Utf8.decode (bs l) pos).2 ≤ l.length ∧ ∀ j, pos ≤ j → j < pos + (Utf8.decode (bs l) pos).2 → ∀ (hj : j < l.length), partB l[j].toNat = false := by
  have hd := decode_N (bs l) pos
  have hb : (bs l).data.toList = l := rfl
  rw [hb] at hd
  have e0 : l.getD pos 0 = l[pos] := by simp [List.getD, h]
  rw [e0] at hd
  have big : ∀ c : UInt8, 128 ≤ c.toNat → partB c.toNat = false := fun c hc => by
    cases hq : partB c.toNat with
    | false => rfl
    | true => have := partB_lt hq; omega
  have at_ : ∀ k, pos + k < l.length → l.getD (pos + k) 0 = l.getD (pos + k) 0 := fun _ _ => rfl
  generalize hn : l.length - pos = n at *
  have hn1 : 1 ≤ n := by omega
  rw [hd] at hp ⊢
  unfold decodeN at hp ⊢
  have one : ∀ (hb0 : partB l[pos].toNat = false), 1 ≤ 1 ∧ pos + 1 ≤ l.length ∧ ∀ j, pos ≤ j → j < pos + 1 → ∀ (hj : j < l.length), partB l[j].toNat = false := fun hb0 =>
    ⟨Nat.le_refl _, by omega, fun j h1 h2 hj => by obtain rfl : j = pos := by omega
                                                   exact hb0⟩
  have dk : ∀ k (hk : pos + k < l.length), l.getD (pos + k) 0 = l[pos + k] := fun k hk => by simp [List.getD, hk]
  split
  · rename_i h0
    rw [if_pos h0] at hp
    exact one hp
  · rename_i h0
    have hbig := big l[pos] (by omega)
    split
    · rename_i h1
      split
      · refine ⟨by omega, by omega, fun j h2 h3 hj => ?_⟩
        have hk := dk 1 (by omega)
        rw [hk] at h1
        rcases (by omega : j = pos ∨ j = pos + 1) with rfl | rfl
        · exact hbig
        · exact big _ (by omega)
      · exact one hbig
    · split
      · rename_i h1
        split
        · refine ⟨by omega, by omega, fun j h2 h3 hj => ?_⟩
          have hk := dk 1 (by omega)
          have hk2 := dk 2 (by omega)
          rw [hk, hk2] at h1
          rcases (by omega : j = pos ∨ j = pos + 1 ∨ j = pos + 2) with rfl | rfl | rfl
          · exact hbig
          · exact big _ (by omega)
          · exact big _ (by omega)
        · exact one hbig
      · split
        · rename_i h1
          split
          · refine ⟨by omega, by omega, fun j h2 h3 hj => ?_⟩
            have hk := dk 1 (by omega)
            have hk2 := dk 2 (by omega)
            have hk3 := dk 3 (by omega)
            rw [hk, hk2, hk3] at h1
            rcases (by omega : j = pos ∨ j = pos + 1 ∨ j = pos + 2 ∨ j = pos + 3) with rfl | rfl | rfl | rfl
            · exact hbig
            · exact big _ (by omega)
            · exact big _ (by omega)
            · exact big _ (by omega)
          · exact one hbig
        · exact one hbig
/-- The piece that is open at pos. -/
def openW (l : List UInt8) (st : Option Nat) (pos : Nat) : List UInt8 := match st with
  | some a => toLowerA ((l.take pos).drop a)
  | none => []
def pieceW (l : List UInt8) (x : Nat × Nat) : List UInt8 := toLowerA ((l.take x.2).drop x.1)
theorem openW_ne {l : List UInt8} {a pos : Nat} (h : a < pos) (hp : pos ≤ l.length) : openW l (some a) pos ≠ [] := fun e => by
  have h1 := congrArg List.length e
  simp [openW, toLowerA] at h1
  omega
theorem openW_succ {l : List UInt8} {a pos : Nat} (h : a ≤ pos) (hp : pos < l.length) : openW l (some a) (pos + 1) = toLowerA ((l.take pos).drop a) ++ [lowerB l[pos]] := by
  have h1 : l.take (pos + 1) = l.take pos ++ [l[pos]] := List.take_succ_eq_append_getElem hp
  rw [openW, h1, List.drop_append_of_le_length (by simp; omega)]
  simp [toLowerA]
theorem spans_words (l : List UInt8) : ∀ (f pos : Nat) (st : Option Nat) (acc : List (Nat × Nat)), l.length ≤ pos + f → pos ≤ l.length → (∀ a, st = some a → a < pos) →
    (closeSpans (bs l) (spansFromP noPart (bs l) f pos st acc)).map (pieceW l) = wfin ((l.drop pos).foldl wstep (acc.map (pieceW l), openW l st pos)) := by
  intro f
  have base : ∀ (pos : Nat) (st : Option Nat) (acc : List (Nat × Nat)), pos = l.length → (∀ a, st = some a → a < pos) → (closeSpans (bs l) (acc, st)).map (pieceW l) = wfin ((l.drop pos).foldl wstep (acc.map (pieceW l), openW l st pos)) := by
    intro pos st acc hp hst
    subst hp
    rw [List.drop_of_length_le (Nat.le_refl _), List.foldl_nil]
    cases st with
    | none => simp [closeSpans, wfin, openW]
    | some a =>
      have h1 := openW_ne (hst a rfl) (Nat.le_refl l.length)
      rw [wfin, if_neg h1]
      simp [closeSpans, openW, pieceW, bs_size]
  induction f with
  | zero =>
    intro pos st acc hf hp hst
    exact base pos st acc (by omega) hst
  | succ f ih =>
    intro pos st acc hf hp hst
    by_cases hlt : pos < l.length
    · have hs : pos < (bs l).size := hlt
      unfold spansFromP
      rw [if_pos hs]
      cases hq : partB (Utf8.decode (bs l) pos).1 with
      | false =>
        obtain ⟨n1, n2, n3⟩ := decode_no l pos hlt hq
        generalize (Utf8.decode (bs l) pos).2 = n at *
        have hno : noPart (Utf8.decode (bs l) pos).1 = true := by rw [noPart, hq]; rfl
        rw [if_pos hno]
        have hsplit : l.drop pos = (l.drop pos).take n ++ l.drop (pos + n) := by
          rw [← List.drop_drop, List.take_append_drop]
        have hall : ∀ c ∈ (l.drop pos).take n, partB c.toNat = false := fun c hc => by
          obtain ⟨j, hj⟩ := List.getElem?_of_mem hc
          rw [List.getElem?_take] at hj
          split at hj
          · rename_i hjn
            rw [List.getElem?_drop] at hj
            obtain ⟨hjl, e⟩ := List.getElem?_eq_some_iff.1 hj
            rw [← e]
            exact n3 (pos + j) (by omega) (by omega) hjl
          · cases hj
        have hne : (l.drop pos).take n ≠ [] := fun e => by
          have := congrArg List.length e
          simp at this
          omega
        rw [hsplit, List.foldl_append, wstep_no hall hne]
        cases st with
        | none =>
          simp only
          rw [ih (pos + n) none acc (by omega) (by omega) (fun a h => by cases h)]
          simp [wfin, openW]
          try rfl
        | some a =>
          simp only
          rw [ih (pos + n) none (acc ++ [(a, pos)]) (by omega) (by omega) (fun a h => by cases h)]
          have h1 := openW_ne (hst a rfl) hp
          rw [show wfin (acc.map (pieceW l), openW l (some a) pos) = acc.map (pieceW l) ++ [openW l (some a) pos] from by rw [wfin, if_neg h1]]
          simp [openW, pieceW]
      | true =>
        have hb : (l[pos]).toNat < 128 := by
          rcases Nat.lt_or_ge (l[pos]).toNat 128 with h | h
          · exact h
          · have h1 := (decode_high (bs l) pos hs h).1
            have h2 := partB_lt hq
            omega
        have hd := decode_ascii (bs l) pos hs hb
        have hno : noPart (Utf8.decode (bs l) pos).1 = false := by rw [noPart, hq]; rfl
        rw [if_neg (by rw [hno]; simp)]
        rw [hd] at hq ⊢
        have hq' : partB (l[pos]).toNat = true := hq
        have hcons : l.drop pos = l[pos] :: l.drop (pos + 1) := List.drop_eq_getElem_cons hlt
        rw [hcons, List.foldl_cons]
        have hstep : ∀ o now, wstep (o, now) l[pos] = (o, now ++ [lowerB l[pos]]) := fun o now => by rw [wstep, hq', if_pos rfl]
        rw [hstep]
        cases st with
        | none =>
          simp only
          rw [ih (pos + 1) (some pos) acc (by omega) (by omega) (fun a h => by cases h; omega), openW_succ (Nat.le_refl _) hlt]
          simp [openW, toLowerA]
          try rfl
        | some a =>
          simp only
          rw [ih (pos + 1) (some a) acc (by omega) (by omega) (fun b h => by cases h; have := hst a rfl; omega), openW_succ (by have := hst a rfl; omega) hlt]
          simp [openW]
          try rfl
    · rw [spansFromP_end _ _ _ _ _ _ (by rw [bs_size]; exact hlt)]
      exact base pos st acc (by omega) hst
/-- THE LAW: the pieces of strings.FieldsFunc with small letters are the words. -/
theorem fields_words (l : List UInt8) : (goFieldsP noPart (bs l)).map (fun s => toLowerA s.data.toList) = wordsF l := by
  have h := spans_words l l.length 0 none [] (by omega) (by omega) (fun a h => by cases h)
  rw [List.drop_zero] at h
  unfold goFieldsP spansOfP wordsF
  rw [List.map_map, ← bs_size] at *
  refine Eq.trans ?_ (Eq.trans h (by simp [openW]))
  refine List.map_congr_left fun x _ => ?_
  simp only [Function.comp, pieceW, bs_extract]
  rfl
end Go.Proofs.YtpcfmmiiokbjbaaDoor
