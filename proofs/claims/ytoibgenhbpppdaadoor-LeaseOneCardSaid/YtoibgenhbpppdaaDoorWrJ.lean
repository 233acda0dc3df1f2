/- Contracts of lingualaw01: few. -/
import Derived.Test.YtoibgenhbpppdaaDoorWrI
namespace Go.Proofs.YtoibgenhbpppdaaDoor
open Go.RowKit

def VM.ok (v : VM) : Bool := decide (v.l.length ≤ 400) && (decide (v.t.length ≤ 400) && (decide (v.s.length ≤ 400) && v.t.all fun x => decide (x.length ≤ 400)))
def VM.sz (v : VM) : Nat := v.s.length + v.l.length + v.t.length + tot v.t
def sumSz (xs : List VM) : Nat := (xs.map VM.sz).sum
def fewV (xs : List VM) : Bool := decide (xs.length ≤ 20) && (xs.all VM.ok && decide (sumSz xs ≤ 400))
theorem sumSz_succ (xs : List VM) (k : Nat) (hk : k < xs.length) : sumSz (xs.take (k + 1)) = sumSz (xs.take k) + xs[k].sz := by
  rw [List.take_succ_eq_append_getElem hk]; simp only [sumSz, List.map_append, List.sum_append, List.map_cons, List.map_nil, List.sum_cons, List.sum_nil, Nat.add_zero]
theorem tot_succ (xs : List (List UInt8)) (k : Nat) (hk : k < xs.length) : tot (xs.take (k + 1)) = tot (xs.take k) + xs[k].length := by
  rw [List.take_succ_eq_append_getElem hk]; simp only [tot, List.map_append, List.sum_append, List.map_cons, List.map_nil, List.sum_cons, List.sum_nil, Nat.add_zero]
theorem tot_take_le (xs : List (List UInt8)) (k : Nat) : tot (xs.take k) ≤ tot xs := by
  conv => rhs; rw [← List.take_append_drop k xs]
  simp only [tot, List.map_append, List.sum_append]
  omega
theorem tot_bound (xs : List (List UInt8)) (m : Nat) (h : ∀ x ∈ xs, x.length ≤ m) : tot xs ≤ xs.length * m := by
  induction xs with
  | nil => simp [tot]
  | cons x r ih =>
    have h1 := h x (by simp)
    have h2 := ih (fun y hy => h y (by simp [hy]))
    simp only [tot, List.map_cons, List.sum_cons, List.length_cons, Nat.add_mul] at *
    omega
theorem VM.sz_le (v : VM) (h : v.ok = true) : v.sz ≤ 200000 := by
  unfold VM.ok at h
  simp only [Bool.and_eq_true, decide_eq_true_eq, List.all_eq_true] at h
  obtain ⟨h1, h2, h3, h4⟩ := h
  have := tot_bound v.t 400 h4
  have h5 : v.t.length * 400 ≤ 400 * 400 := Nat.mul_le_mul_right _ h2
  unfold VM.sz
  omega
theorem sum_le (xs : List VM) (h : ∀ x ∈ xs, x.ok = true) : sumSz xs ≤ xs.length * 200000 := by
  induction xs with
  | nil => simp [sumSz]
  | cons x r ih =>
    have h1 := VM.sz_le x (h x (by simp))
    have h2 := ih (fun y hy => h y (by simp [hy]))
    simp only [sumSz, List.map_cons, List.sum_cons, List.length_cons, Nat.add_mul] at *
    omega
theorem few_bad (xs : List VM) (k : Nat) (hk : k < xs.length) (h : xs[k].ok = false) : fewV xs = false := by
  have : xs.all VM.ok = false := by
    rw [List.all_eq_false]
    exact ⟨xs[k], List.getElem_mem hk, by simp [h]⟩
  simp [fewV, this]
theorem few_end (xs : List VM) (h20 : xs.length ≤ 20) (h : ∀ x ∈ xs, x.ok = true) : fewV xs = decide (sumSz xs ≤ 400) := by
  have : xs.all VM.ok = true := List.all_eq_true.2 h
  simp [fewV, this, h20]
theorem wrap_id {x : Int} (h : -9223372036854775808 ≤ x ∧ x ≤ 9223372036854775807) : wrap64 x = x := by unfold wrap64; omega
theorem take_grow {T : Type} (P : T → Prop) (q : List T) (k : Nat) (hk : k < q.length) (h : ∀ p ∈ q.take k, P p) (h1 : P q[k]) : ∀ p ∈ q.take (k + 1), P p := by
  intro p hp
  rw [List.take_succ_eq_append_getElem hk, List.mem_append, List.mem_singleton] at hp
  rcases hp with hp | rfl
  · exact h p hp
  · exact h1
theorem rd_val {w : World} {A : Option Addr} {xs : List VM} {k : Nat} (h : RdL 5 VM.cs w w.heap.size A xs) (hk : k < xs.length) : ∃ b off v, A = some ⟨b, off, none⟩ ∧ b < w.heap.size ∧ xs[k] = v ∧
    w.cell? ⟨b, off + k * 5, none⟩ = some (.int .i64 v.kind) ∧ w.cell? ⟨b, off + k * 5 + 1, none⟩ = some (.int .i64 v.n) ∧ w.cell? ⟨b, off + k * 5 + 2, none⟩ = some (.string (bs v.s)) ∧ w.cell? ⟨b, off + k * 5 + 3, none⟩ = some (.slice v.lA v.l.length v.lc) ∧ w.cell? ⟨b, off + k * 5 + 4, none⟩ = some (.slice v.tA v.t.length v.tc) := by
  obtain ⟨b, off, e, hb, hc⟩ := h.at_ hk
  exact ⟨b, off, xs[k], e, hb, rfl, by simpa using hc 0 _ rfl, hc 1 _ rfl, hc 2 _ rfl, hc 3 _ rfl, hc 4 _ rfl⟩

end Go.Proofs.YtoibgenhbpppdaaDoor
