/- Contracts of layer 22: Find and Local of the program, and the comparison of two lists. -/
import Derived.Test.YtbpbdehnkkheiaaTgC
namespace Go.Proofs.Ytbpbdehnkkheiaa
open Go.RowKit

theorem idx_some {T : Type} (f : T → Bool) (xs : List T) (i : Nat) (h : xs.findIdx? f = some i) : ∃ p, xs[i]? = some p ∧ xs.find? f = some p := by
  rw [List.findIdx?_eq_some_iff_getElem] at h
  obtain ⟨hi, hf, hn⟩ := h
  refine ⟨xs[i], List.getElem?_eq_getElem hi, find_hit f xs i (List.getElem?_eq_getElem hi) hf ?_⟩
  rw [List.find?_eq_none]
  intro x hx
  obtain ⟨j, hj, rfl⟩ := List.mem_take_iff_getElem.1 hx
  exact hn j (by omega)
theorem idxF_cases (f : Pair → Bool) (xs : List Pair) : (idxF f xs = -1 ∧ findF f xs = none) ∨ ∃ (i : Nat) (p : Pair), idxF f xs = i ∧ i < xs.length ∧ xs[i]? = some p ∧ findF f xs = some p := by
  cases h : xs.findIdx? f with
  | none =>
    refine .inl ⟨by simp [idxF, h], ?_⟩
    rw [findF, List.find?_eq_none]
    intro x hx
    have := List.findIdx?_eq_none_iff.1 h x hx
    simpa using this
  | some i =>
    obtain ⟨p, h1, h2⟩ := idx_some f xs i h
    exact .inr ⟨i, p, by simp [idxF, h], (List.getElem?_eq_some_iff.1 h1).1, h1, h2⟩

theorem enters_pFind1 : ∀ (args : Array Value) (w : World), (callFunc 46 args).run Try.prog w = .ok (.enter 46 args) w := fun _ _ => by kernel_rfl
set_option maxHeartbeats 400000 in
theorem find1_any (p : Pair) (net loc : Int) (a b : Nat) (w : World) (h1 : w.cell? ⟨a, 0, none⟩ = some (.int .i64 net)) (h2 : w.cell? ⟨b, 0, none⟩ = some (.int .i64 loc)) :
    Calls Try.prog 46 #[p.v, .pointer (some ⟨a, 0, none⟩), .pointer (some ⟨b, 0, none⟩)] w fun e w' => e = .returned (.bool (fNL net loc p)) ∧ Below w.heap.size w w' := by
  have l1 := World.block_lt_of_cell? w _ h1
  have l2 := World.block_lt_of_cell? w _ h2
  dsimp only at l1 l2
  obtain ⟨x, y, z, t⟩ := p
  unfold Pair.v fNL
  go_enter Try.func46, Try.ntmps46
  go_wp2
  all_goals go_ret
  all_goals refine ⟨?_, ((Below.refl _ _).alloc (Nat.le_refl _) _)⟩
  all_goals simp_all

set_option maxHeartbeats 400000 in
theorem pfind_any (xs : List Pair) (A : Option Addr) (c : Nat) (net loc : Int) (w : World) (hr : RdP w w.heap.size A xs) (hm : xs.length ≤ 9223372036854775807) :
    Calls Try.prog 37 #[.slice A xs.length c, .int .i64 net, .int .i64 loc] w fun e w' => e = .returned (.tuple #[.int .i64 (evOf (findF (fNL net loc) xs)), .int .i64 (partOf (findF (fNL net loc) xs)), .bool (findF (fNL net loc) xs).isSome]) ∧ Below w.heap.size w w' := by
  have hb0 : Below w.heap.size w ((w.alloc (.cells #[.int .i64 net] 3)).alloc (.cells #[.int .i64 loc] 3)) := ((Below.refl _ _).alloc (Nat.le_refl _) _).alloc (by first | omega | (simp; done) | (simp; omega)) _
  have hc := @indexF_any xs A c 46 #[.pointer (some ⟨w.heap.size, 0, none⟩), .pointer (some ⟨w.heap.size + 1, 0, none⟩)] (fNL net loc) ((w.alloc (.cells #[.int .i64 net] 3)).alloc (.cells #[.int .i64 loc] 3)) (hr.now hb0) hm enters_pFind1
    (fun w' p hb => find1_any p net loc w.heap.size (w.heap.size + 1) w' ((hb.cell (by first | omega | (simp; done) | (simp; omega))).trans (by first | omega | (simp; done) | (simp; omega))) ((hb.cell (by first | omega | (simp; done) | (simp; omega))).trans (by first | omega | (simp; done) | (simp; omega))))
  have HC := Lib.hid hc
  have HB := Lib.hid hb0
  clear hc hb0
  go_enter Try.func37, Try.ntmps37
  rcases idxF_cases (fNL net loc) xs with ⟨hi, hf⟩ | ⟨i, p, hi, hlt, hp, hf⟩
  · have HI := Lib.hid hi
    have HF := Lib.hid hf
    clear hi hf
    go_wp2_with (go_at_call 38; refine HC.out.mono ?_; rintro e w1 ⟨rfl, hb1⟩; rw [HI.out])
    go_ret3
    rw [HF.out]
    exact ⟨rfl, HB.out.trans (hb1.mono (by first | omega | (simp; done) | (simp; omega)))⟩
  · have HI := Lib.hid hi
    have HF := Lib.hid hf
    clear hi hf
    have HP := Lib.hid hp
    clear hp
    go_wp2_with (go_at_call 38; refine HC.out.mono ?_; rintro e w1 ⟨rfl, hb1⟩; rw [HI.out])
    have hb2 := HB.out.trans (hb1.mono (by first | omega | (simp; done) | (simp; omega)))
    obtain ⟨b, off, p', rfl, hbb, hp', c0, c1, c2, c3⟩ := RdP_at (hr.now hb2) hlt
    obtain rfl : p' = p := by have := HP.out; rw [hp'] at this; injection this
    clear hp'
    go_quiet (fail)
    go_wp2
    go_ret3
    rw [HF.out]
    exact ⟨rfl, below_drewN hb2 _⟩

end Go.Proofs.Ytbpbdehnkkheiaa
