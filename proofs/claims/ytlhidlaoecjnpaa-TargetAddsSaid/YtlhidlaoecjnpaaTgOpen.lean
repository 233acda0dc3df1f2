/- A slice of pairs, and a pair, among the arguments of a law of layer 22. -/
import Derived.Test.YtlhidlaoecjnpaaTgH
import Derived.Test.YtlhidlaoecjnpaaOpen
namespace Go.Proofs.Ytlhidlaoecjnpaa
open Go.ChangeShapes Go.WideShapes Go.RowKit Go.Deep

section
variable {H : Type} {enc0 : TypeId × Value → H} {w : World} {base : Nat} {spare : Nat → Bool} {held : Bool}
theorem fieldsP : ∃ f0 f1 f2 f3 : Field, Try.prog.underlying 24 = some (.struct #[f0, f1, f2, f3]) ∧ f0.type = 3 ∧ f1.type = 3 ∧ f2.type = 3 ∧ f3.type = 3 ∧ oneCellFields Try.prog #[f0, f1, f2, f3] = true :=
  ⟨_, _, _, _, Try.underlying24, rfl, rfl, rfl, rfl, by kernel_rfl⟩
theorem cells4 : Try.prog.cellsOf 24 = 4 := by kernel_rfl
theorem elemP : ∀ m cs x, DataW.trod enc0 Try.prog w base spare held m 24 cs = some x → ∃ y : Pair, y.cells = cs ∧ y.wf := by
  intro m cs x h
  obtain ⟨f0, f1, f2, f3, hu, t0, t1, t2, t3, hone⟩ := fieldsP
  obtain ⟨hl, hf⟩ := struct_cells hu hone (by rw [cells4]; rfl) h
  obtain ⟨v0, n0, y0, e0, h0⟩ := hf 0 f0 rfl
  obtain ⟨v1, n1, y1, e1, h1⟩ := hf 1 f1 rfl
  obtain ⟨v2, n2, y2, e2, h2⟩ := hf 2 f2 rfl
  obtain ⟨v3, n3, y3, e3, h3⟩ := hf 3 f3 rfl
  rw [t0] at h0
  rw [t1] at h1
  rw [t2] at h2
  rw [t3] at h3
  obtain ⟨a, rfl, wa⟩ := int_cell Try.underlying3 h0
  obtain ⟨b, rfl, wb⟩ := int_cell Try.underlying3 h1
  obtain ⟨c, rfl, wc⟩ := int_cell Try.underlying3 h2
  obtain ⟨d, rfl, wd⟩ := int_cell Try.underlying3 h3
  refine ⟨⟨a, b, c, d⟩, ?_, wa, wb, wc, wd⟩
  match cs, hl, e0, e1, e2, e3 with
  | [x0, x1, x2, x3], _, e0, e1, e2, e3 =>
    simp only [List.getElem?_cons_zero, List.getElem?_cons_succ, Option.some.injEq] at e0 e1 e2 e3
    subst e0 e1 e2 e3
    rfl
theorem open_pairs {A : Option Addr} {n c : Nat} {d : DataW H} {p : List MemPlace} (h : DataW.Trod enc0 Try.prog w base spare held 22 (.slice A n c) d p) :
    ∃ xs : List Pair, n = xs.length ∧ RdP w w.heap.size A xs ∧ (∀ x ∈ xs, x.wf) ∧ xs.length ≤ 9223372036854775807 := by
  obtain ⟨xs, h1, h2, h3, h4⟩ := open_list Try.underlying22 cells4 (by decide) (fun _ => rfl) elemP h
  refine ⟨xs, h1, h2, h3, ?_⟩
  simp only [maxLen] at h4
  omega
theorem open_pair {r : Reach} {b0 : Nat} {v : Value} {d : DataW H} {p : List MemPlace} (hv : Value.okWide Try.prog w r b0 24 v) (h : DataW.Trod enc0 Try.prog w base spare held 24 v d p) : ∃ x : Pair, v = x.v ∧ x.wf := by
  obtain ⟨f0, f1, f2, f3, hu, _⟩ := fieldsP
  obtain ⟨cs, rfl, hsz⟩ := okWide_struct hu hv
  obtain ⟨fuel, hf⟩ := h
  obtain ⟨y, hy, hw⟩ := elemP _ _ _ hf
  refine ⟨y, ?_, hw⟩
  simp only [Value.cells] at hy
  unfold Pair.v
  obtain ⟨l⟩ := cs
  simp only at hy
  rw [← hy]
  rfl
end
end Go.Proofs.Ytlhidlaoecjnpaa
