/- Acts and lists of numbers among the arguments of a law. -/
import Derived.Test.YtjgeefagnddpfaaDkK
import Derived.Test.YtjgeefagnddpfaaOpen
namespace Go.Proofs.Ytjgeefagnddpfaa
open Go.ChangeShapes Go.WideShapes Go.RowKit Go.Deep

theorem inI64_of_wf {n : Int} (h : (Lit.int .i64 n).wf = true) : inI64 n := by
  simp [Lit.wf, IntKind.min, IntKind.max, IntKind.bits, IntKind.signed] at h
  unfold inI64
  omega
section
variable {H : Type} {enc0 : TypeId × Value → H} {w : World} {base : Nat} {spare : Nat → Bool} {held : Bool}
theorem elemInt : ∀ m cs x, DataW.trod enc0 Try.prog w base spare held m 3 cs = some x → ∃ y : Int, intC y = cs ∧ inI64 y := by
  intro m cs x h
  obtain ⟨n, rfl, _, hw⟩ := DataW.trod_int Try.underlying3 h
  exact ⟨n, rfl, inI64_of_wf hw⟩
theorem open_ints {A : Option Addr} {n c : Nat} {d : DataW H} {p : List MemPlace} (h : DataW.Trod enc0 Try.prog w base spare held 31 (.slice A n c) d p) :
    ∃ xs : List Int, n = xs.length ∧ RdL 1 intC w w.heap.size A xs ∧ (∀ x ∈ xs, inI64 x) ∧ xs.length ≤ 9223372036854775807 := by
  obtain ⟨xs, h1, h2, h3, h4⟩ := open_list Try.underlying31 cells1 (by decide) (fun _ => rfl) elemInt h
  refine ⟨xs, h1, h2, h3, ?_⟩
  simp only [maxLen] at h4
  omega
theorem fieldsAct : ∃ fs : Array Field, Try.prog.underlying 33 = some (.struct fs) ∧ fs.size = 5 ∧ fs.toList.map (·.type) = [3, 3, 3, 9, 31] ∧ oneCellFields Try.prog fs = true :=
  ⟨_, Try.underlying33, by kernel_rfl, by kernel_rfl, by kernel_rfl⟩
theorem cells5 : Try.prog.cellsOf 33 = 5 := by kernel_rfl
theorem elemAct : ∀ m cs x, DataW.trod enc0 Try.prog w base spare held m 33 cs = some x → ∃ y : ActM, actC y = cs ∧ ActOk w y := by
  intro m l x hf
  obtain ⟨fs, hu, hsz, hty, hone⟩ := fieldsAct
  obtain ⟨hl, hc⟩ := struct_cells hu hone (by rw [cells5, hsz]) hf
  have hg : ∀ (i : Nat) (t : TypeId), (fs.toList.map (·.type))[i]? = some t → ∃ v n y, l[i]? = some v ∧ DataW.trod enc0 Try.prog w base spare held n t [v] = some y := by
    intro i t hi
    rw [List.getElem?_map] at hi
    obtain ⟨f, hf, rfl⟩ := Option.map_eq_some_iff.1 hi
    exact hc i f (by simpa using hf)
  rw [hty] at hg
  have hl5 : l.length = 5 := by rw [← hsz]; exact hl
  obtain ⟨v0, n0, y0, e0, h0⟩ := hg 0 _ rfl
  obtain ⟨x0, rfl, w0⟩ := int_cell Try.underlying3 h0
  obtain ⟨v1, n1, y1, e1, h1⟩ := hg 1 _ rfl
  obtain ⟨x1, rfl, w1⟩ := int_cell Try.underlying3 h1
  obtain ⟨v2, n2, y2, e2, h2⟩ := hg 2 _ rfl
  obtain ⟨x2, rfl, w2⟩ := int_cell Try.underlying3 h2
  obtain ⟨v3, n3, y3, e3, h3⟩ := hg 3 _ rfl
  obtain ⟨x3, rfl, w3⟩ := string_cell Try.underlying9 h3
  obtain ⟨v4, n4, y4, e4, h4⟩ := hg 4 _ rfl
  obtain ⟨A, n, c, d4, p4, rfl, k4⟩ := slice_cell Try.underlying31 h4
  obtain ⟨ts, rfl, g1, g2, g3⟩ := open_ints k4
  have hcs : l = [.int .i64 x0, .int .i64 x1, .int .i64 x2, .string x3, .slice A ts.length c] := List.ext_getElem? (fun i => match i with
    | 0 => e0
    | 1 => e1
    | 2 => e2
    | 3 => e3
    | 4 => e4
    | n + 5 => by rw [List.getElem?_eq_none (by omega), List.getElem?_eq_none (by simp)])
  subst hcs
  simp only [maxLen] at w3
  exact ⟨⟨x0, x1, x2, x3, ts, A, c⟩, rfl, inI64_of_wf w0, inI64_of_wf w1, inI64_of_wf w2, by simp only; omega, g3, g2, g1⟩
theorem open_acts {A : Option Addr} {n c : Nat} {d : DataW H} {p : List MemPlace} (h : DataW.Trod enc0 Try.prog w base spare held 22 (.slice A n c) d p) :
    ∃ xs : List ActM, n = xs.length ∧ RdL 5 actC w w.heap.size A xs ∧ (∀ x ∈ xs, ActOk w x) ∧ xs.length ≤ 9223372036854775807 := by
  obtain ⟨xs, h1, h2, h3, h4⟩ := open_list Try.underlying22 cells5 (by decide) (fun _ => rfl) elemAct h
  refine ⟨xs, h1, h2, h3, ?_⟩
  simp only [maxLen] at h4
  omega
end
end Go.Proofs.Ytjgeefagnddpfaa
