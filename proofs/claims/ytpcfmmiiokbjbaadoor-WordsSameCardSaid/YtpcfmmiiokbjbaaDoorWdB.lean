/- Parts, lines and digests of texts in plain Lean. -/
import Derived.Test.YtpcfmmiiokbjbaaDoorWdA
namespace Go.Proofs.YtpcfmmiiokbjbaaDoor

/-- A text that is cut to fit. -/
def fitW (size : Nat) (s : List UInt8) : List UInt8 := if size < s.length then s.take (size - 1) ++ [43] else s
def partsL (size : Nat) : Nat → List UInt8 → List (List UInt8)
  | 0, s => [fitW size s]
  | n + 1, s => if size < s.length then s.take size :: partsL size n (s.drop size) else [s]
/-- The parts of a text. -/
def partsF (s : List UInt8) (size most : Int) : List (List UInt8) := if size < 2 ∨ most < 1 then [] else partsL size.toNat (most - 1).toNat s
/-- The line of a text. -/
def lineF (s : List UInt8) (most : Int) : List UInt8 := (s.takeWhile fun c => c != 10).take most.toNat

theorem fitW_le {size : Nat} (h : 2 ≤ size) (s : List UInt8) : (fitW size s).length ≤ size := by
  unfold fitW
  split
  · simp; omega
  · omega
theorem fitW_nil {size : Nat} (s : List UInt8) (h : fitW size s = []) : s = [] := by
  unfold fitW at h
  split at h
  · have := congrArg List.length h; simp at this
  · exact h
theorem partsL_len (size : Nat) : ∀ (n : Nat) (s : List UInt8), 1 ≤ (partsL size n s).length ∧ (partsL size n s).length ≤ n + 1
  | 0, s => by simp [partsL]
  | n + 1, s => by
    rw [partsL]
    split
    · have := partsL_len size n (s.drop size)
      simp only [List.length_cons]
      omega
    · simp
theorem partsL_each {size : Nat} (h : 2 ≤ size) : ∀ (n : Nat) (s : List UInt8) (i : Nat) (x : List UInt8), (partsL size n s)[i]? = some x → x.length ≤ size ∧ (i + 1 < (partsL size n s).length → x.length = size) ∧ (x = [] → s = [])
  | 0, s, i, x, hx => by
    rw [partsL] at hx ⊢
    cases i with
    | zero =>
      simp at hx
      subst hx
      exact ⟨fitW_le h s, fun h => by simp at h, fitW_nil s⟩
    | succ i => simp at hx
  | n + 1, s, i, x, hx => by
    rw [partsL] at hx ⊢
    split at hx
    · rename_i hs
      rw [if_pos hs]
      cases i with
      | zero =>
        simp at hx
        subst hx
        refine ⟨by simp; omega, fun _ => by simp; omega, fun e => ?_⟩
        have := congrArg List.length e
        rw [List.length_take, List.length_nil] at this
        omega
      | succ i =>
        rw [List.getElem?_cons_succ] at hx
        have h1 := partsL_each h n (s.drop size) i x hx
        refine ⟨h1.1, fun h2 => h1.2.1 (by simpa using h2), fun e => ?_⟩
        have := congrArg List.length (h1.2.2 e)
        simp at this
        omega
    · rename_i hs
      rw [if_neg hs]
      cases i with
      | zero =>
        simp at hx
        subst hx
        exact ⟨by omega, fun h => by simp at h, fun e => e⟩
      | succ i => simp at hx
theorem partsL_all {size : Nat} (h : 2 ≤ size) : ∀ (n : Nat) (s : List UInt8), (s.length ≤ size * (n + 1) → (partsL size n s).flatten = s) ∧
    (size * (n + 1) < s.length → (partsL size n s).length = n + 1 ∧ (partsL size n s).flatten = s.take (size * (n + 1) - 1) ++ [43])
  | 0, s => by
    constructor
    · intro hs
      rw [partsL, fitW, if_neg (by simp at hs; omega)]
      simp
    · intro hs
      rw [partsL, fitW, if_pos (by simp at hs; omega)]
      simp
  | n + 1, s => by
    have ih := partsL_all h n (s.drop size)
    have e : size * (n + 1 + 1) = size * (n + 1) + size := Nat.mul_succ size (n + 1)
    have hpos : size ≤ size * (n + 1) := Nat.le_mul_of_pos_right _ (by omega)
    rw [e]
    constructor
    · intro hs
      rw [partsL]
      split
      · rw [List.flatten_cons, ih.1 (by simp; omega), List.take_append_drop]
      · simp
    · intro hs
      have hs2 : size < s.length := by omega
      rw [partsL, if_pos hs2]
      have h2 := ih.2 (by simp; omega)
      refine ⟨by simp [h2.1], ?_⟩
      rw [List.flatten_cons, h2.2, ← List.append_assoc]
      congr 1
      have e2 : size * (n + 1) + size - 1 = size + (size * (n + 1) - 1) := by omega
      rw [e2, List.take_add]
/-- How the program goes on. -/
theorem partsL_step {size n : Nat} {s : List UInt8} (h : size < s.length) (hn : 0 < n) : partsL size n s = s.take size :: partsL size (n - 1) (s.drop size) := by
  obtain ⟨m, rfl⟩ : ∃ m, n = m + 1 := ⟨n - 1, by omega⟩
  rw [partsL, if_pos h]
  rfl
theorem partsL_end {size n : Nat} {s : List UInt8} (h : ¬ (size < s.length ∧ 0 < n)) : partsL size n s = [fitW size s] := by
  cases n with
  | zero => rfl
  | succ n =>
    have h1 : ¬ size < s.length := fun h2 => h ⟨h2, by omega⟩
    rw [partsL, if_neg h1, fitW, if_neg h1]

theorem lineF_len (s : List UInt8) (most : Int) : (lineF s most).length ≤ s.length ∧ (lineF s most).length ≤ most.toNat := by
  have h1 := (List.takeWhile_sublist (fun c => c != (10 : UInt8)) (l := s)).length_le
  unfold lineF
  simp only [List.length_take]
  omega
/-- What the reference's loop has read. -/
theorem line_take (s : List UInt8) : ∀ (k : Nat), (∀ j (hj : j < s.length), j < k → s[j] ≠ 10) → k ≤ s.length → s.takeWhile (fun c => c != 10) = s.take k ++ (s.drop k).takeWhile (fun c => c != 10) := by
  intro k
  induction k generalizing s with
  | zero => intro _ _; simp
  | succ k ih =>
    intro h hk
    cases s with
    | nil => simp at hk
    | cons c r =>
      have hc : c ≠ 10 := by have := h 0 (by simp) (by omega); simpa using this
      rw [List.takeWhile_cons, if_pos (by simpa using hc), List.take_succ_cons, List.drop_succ_cons, List.cons_append]
      congr 1
      exact ih r (fun j hj hlt => by have := h (j + 1) (by simp; omega) (by omega); simpa using this) (by simpa using hk)
theorem line_stop {s : List UInt8} {k : Nat} {most : Int} (h : ∀ j (hj : j < s.length), j < k → s[j] ≠ 10) (hk : k ≤ s.length) (hm : (k : Int) ≤ max most 0) (he : k = s.length ∨ max most 0 ≤ (k : Int) ∨ ∃ hj : k < s.length, s[k] = 10) : lineF s most = s.take k := by
  unfold lineF
  rw [line_take s k h hk]
  have hl : (s.take k).length = k := by simp; omega
  rcases he with he | he | ⟨hj, he⟩
  · subst he
    rw [List.drop_of_length_le (Nat.le_refl _), List.takeWhile_nil, List.append_nil, List.take_take]
    congr 1
    omega
  · have e : most.toNat = k := by omega
    rw [e, List.take_append_of_le_length (by omega), List.take_take, Nat.min_self]
  · rw [List.drop_eq_getElem_cons hj, List.takeWhile_cons, if_neg (by simp [he]), List.append_nil, List.take_take]
    congr 1
    omega
end Go.Proofs.YtpcfmmiiokbjbaaDoor
