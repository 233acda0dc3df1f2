/- Contracts of layer 22: comparing, cloning, and dropping by the reference. -/
import Derived.Test.YtbpbdehnkkheiaaTgA
import Derived.Test.YtbpbdehnkkheiaaMem
namespace Go.Proofs.Ytbpbdehnkkheiaa
open Go.RowKit

theorem slP : SlTy Try.prog 25 38 4 32 := by
  obtain ⟨i, hi, hz, hs, hb⟩ := info_parts (show (Try.prog.info? 38).map (fun i => (i.zero, i.size, i.bytes)) = some (some (.agg #[.int .i64 0, .int .i64 0, .int .i64 0, .int .i64 0]), 4, 32) by kernel_rfl)
  exact ⟨Try.underlying25, ⟨i, _, hi, hz, hs, hb, rfl⟩, by decide, by decide⟩
theorem layP : Lay 4 Pair.cells := ⟨fun _ => rfl, fun x u hu => by
  simp only [Pair.cells, List.mem_cons, List.not_mem_nil, or_false] at hu
  rcases hu with rfl | rfl | rfl | rfl <;> rfl⟩
abbrev OwnP (w : World) (base : Nat) := OwnL w base 38 4 Pair.cells

theorem RdP_one {w : World} {b : Nat} {p : Pair} (h0 : w.cell? ⟨b, 0, none⟩ = some (.int .i64 p.net)) (h1 : w.cell? ⟨b, 1, none⟩ = some (.int .i64 p.loc)) (h2 : w.cell? ⟨b, 2, none⟩ = some (.int .i64 p.ev)) (h3 : w.cell? ⟨b, 3, none⟩ = some (.int .i64 p.part)) :
    RdP w (b + 1) (some ⟨b, 0, none⟩) [p] := by
  intro k x hx
  have hk : k = 0 := by have := (List.getElem?_eq_some_iff.1 hx).1; simp at this; omega
  subst hk
  obtain rfl : p = x := by simpa using hx
  refine ⟨b, 0, rfl, by omega, fun j v hj => ?_⟩
  match j, hj with
  | 0, hj => simp [Pair.cells] at hj; subst hj; simpa using h0
  | 1, hj => simp [Pair.cells] at hj; subst hj; simpa using h1
  | 2, hj => simp [Pair.cells] at hj; subst hj; simpa using h2
  | 3, hj => simp [Pair.cells] at hj; subst hj; simpa using h3
theorem eql_pair (a b c d e f g h : Int) (w : World) : (binOp .eql 38 (.agg #[.int .i64 a, .int .i64 b, .int .i64 c, .int .i64 d]) (.agg #[.int .i64 e, .int .i64 f, .int .i64 g, .int .i64 h])).run Try.prog w = .ok (.bool (a == e && (b == f && (c == g && d == h)))) w := by
  by_cases h1 : a = e <;> by_cases h2 : b = f <;> by_cases h3 : c = g <;> by_cases h4 : d = h <;> simp [go_sem, h1, h2, h3, h4]
theorem neq_pair (a b c d e f g h : Int) (w : World) : (binOp .neq 38 (.agg #[.int .i64 a, .int .i64 b, .int .i64 c, .int .i64 d]) (.agg #[.int .i64 e, .int .i64 f, .int .i64 g, .int .i64 h])).run Try.prog w = .ok (.bool (!(a == e && (b == f && (c == g && d == h))))) w := by
  by_cases h1 : a = e <;> by_cases h2 : b = f <;> by_cases h3 : c = g <;> by_cases h4 : d = h <;> simp [go_sem, h1, h2, h3, h4]
theorem pair_ne (p q : Pair) (h : p ≠ q) : (p.net == q.net && (p.loc == q.loc && (p.ev == q.ev && p.part == q.part))) = false := by
  obtain ⟨a, b, c, d⟩ := p
  obtain ⟨e, f, g, i⟩ := q
  rw [← Bool.not_eq_true]
  intro hh
  simp at hh
  exact h (by simp [hh])

theorem same_hit (xs ys : List Pair) (hl : xs.length = ys.length) (k : Nat) {p q : Pair} (hp : xs[k]? = some p) (hq : ys[k]? = some q) (hne : p ≠ q) : decide (xs = ys) = false := by
  rw [decide_eq_false_iff_not]
  rintro rfl
  rw [hp] at hq
  injection hq with hq
  exact hne hq

def dropF (net ev : Int) (xs : List Pair) : List Pair := xs.filter (fun p => !(p.net == net && p.ev == ev))
theorem dropF_snoc (net ev : Int) (xs : List Pair) (k : Nat) {p : Pair} (h : xs[k]? = some p) : dropF net ev (xs.take (k + 1)) = dropF net ev (xs.take k) ++ (if (p.net == net && p.ev == ev) = true then [] else [p]) := by
  obtain ⟨hk, rfl⟩ := List.getElem?_eq_some_iff.1 h
  rw [List.take_succ_eq_append_getElem hk, dropF, dropF, List.filter_append]
  cases h : (xs[k].net == net && xs[k].ev == ev)
  · rw [List.filter_cons_of_pos (by rw [h]; rfl)]; rfl
  · rw [List.filter_cons_of_neg (by rw [h]; simp)]; rfl
theorem dropF_len (net ev : Int) (xs : List Pair) (k : Nat) : (dropF net ev (xs.take k)).length ≤ k := Nat.le_trans (List.length_filter_le _ _) (List.length_take_le _ _)

set_option maxHeartbeats 400000 in
theorem clone_any (xs : List Pair) (A : Option Addr) (c : Nat) (w : World) (hr : RdP w w.heap.size A xs) (hm : xs.length ≤ 1000000) :
    Calls Try.prog 24 #[.slice A xs.length c] w fun e w' => ∃ A' c', e = .returned (.slice A' xs.length c') ∧ OwnP w' w.heap.size A' c' xs ∧ Below w.heap.size w w' := by
  have hm2 : xs.length ≤ 9223372036854775807 := by omega
  rcases A with _ | a
  · have hx : xs = [] := by
      rcases xs with _ | ⟨x, r⟩
      · rfl
      · obtain ⟨b, off, h0, _⟩ := hr 0 x rfl
        cases h0
    subst hx
    have h0 := fun w => Lib.run_eql_slice_nil (P := Try.prog) w 25 38 none 0 c 0 0 Try.underlying25
    go_enter Try.func24, Try.ntmps24
    go_wp2
    go_ret
    exact ⟨none, 0, rfl, OwnL.nil_, Below.refl _ _⟩
  · have h0 := fun w => Lib.run_eql_slice_nil (P := Try.prog) w 25 38 (some a) xs.length c 0 0 Try.underlying25
    have b1 : (([] : List Pair).length + xs.length) * 32 ≤ 140737488355328 := by simp; omega
    have b2 : w.heap.size ≤ (w.alloc (.cells #[] 38)).heap.size := by simp
    have b3 : Below w.heap.size w (w.alloc (.cells #[] 38)) := (Below.refl _ _).alloc (Nat.le_refl _) _
    have B1 := Lib.hid b1
    have B2 := Lib.hid b2
    clear b1 b2
    go_enter Try.func24, Try.ntmps24
    go_wp2_with (first | (at_builtin; refine wp_append_l rfl (.tmp 5) (.tmp 6) rfl slP layP w.heap.size (xs := []) (ys := xs) (B := w.heap.size) rfl rfl (OwnL.empty w 38 w.heap.size (Nat.le_refl _) _ rfl) rfl rfl (hr.below b3) B1.out B2.out ?_; intro A2 c2 w2 hown hg hbl hat))
    go_ret
    exact ⟨A2, c2, rfl, hown, b3.trans hbl⟩
end Go.Proofs.Ytbpbdehnkkheiaa
