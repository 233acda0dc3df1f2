/- Pairs, and what an account has done, among the arguments of a law of layer 23. -/
import Derived.Test.YtbpbdehnkkheiaaBkC
import Derived.Test.YtbpbdehnkkheiaaWyOpen
namespace Go.Proofs.Ytbpbdehnkkheiaa
open Go.ChangeShapes Go.WideShapes Go.RowKit Go.Deep

def inW64 (n : Int) : Prop := -9223372036854775808 ≤ n ∧ n ≤ 9223372036854775807
theorem cells1 : Try.prog.cellsOf 3 = 1 := by kernel_rfl
theorem inW64_of_wf {n : Int} (h : (Lit.int .i64 n).wf = true) : inW64 n := by
  simp [Lit.wf, IntKind.min, IntKind.max, IntKind.bits, IntKind.signed] at h
  unfold inW64
  omega
section
variable {H : Type} {enc0 : TypeId × Value → H} {w : World} {base : Nat} {spare : Nat → Bool} {held : Bool}
theorem fieldsP : ∃ f0 f1 f2 f3 : Field, Try.prog.underlying 38 = some (.struct #[f0, f1, f2, f3]) ∧ f0.type = 3 ∧ f1.type = 3 ∧ f2.type = 3 ∧ f3.type = 3 ∧ oneCellFields Try.prog #[f0, f1, f2, f3] = true :=
  ⟨_, _, _, _, Try.underlying38, rfl, rfl, rfl, rfl, by kernel_rfl⟩
theorem cells4 : Try.prog.cellsOf 38 = 4 := by kernel_rfl
theorem elemP : ∀ m cs x, DataW.trod enc0 Try.prog w base spare held m 38 cs = some x → ∃ y : Pair, y.cells = cs ∧ True := by
  intro m cs x h
  obtain ⟨f0, f1, f2, f3, hu, t0, t1, t2, t3, hone⟩ := fieldsP
  obtain ⟨hl, hf⟩ := struct_cells hu hone (by rw [cells4]; rfl) h
  obtain ⟨v0, n0, y0, e0, h0⟩ := hf 0 f0 rfl
  obtain ⟨v1, n1, y1, e1, h1⟩ := hf 1 f1 rfl
  obtain ⟨v2, n2, y2, e2, h2⟩ := hf 2 f2 rfl
  obtain ⟨v3, n3, y3, e3, h3⟩ := hf 3 f3 rfl
  rw [t0] at h0
  rw [t1] at h1
  rw [t2] at h2
  rw [t3] at h3
  obtain ⟨a, rfl, wa⟩ := int_cell Try.underlying3 h0
  obtain ⟨b, rfl, wb⟩ := int_cell Try.underlying3 h1
  obtain ⟨c, rfl, wc⟩ := int_cell Try.underlying3 h2
  obtain ⟨d, rfl, wd⟩ := int_cell Try.underlying3 h3
  refine ⟨⟨a, b, c, d⟩, ?_, trivial⟩
  match cs, hl, e0, e1, e2, e3 with
  | [x0, x1, x2, x3], _, e0, e1, e2, e3 =>
    simp only [List.getElem?_cons_zero, List.getElem?_cons_succ, Option.some.injEq] at e0 e1 e2 e3
    subst e0 e1 e2 e3
    rfl
theorem open_pairs {A : Option Addr} {n c : Nat} {d : DataW H} {p : List MemPlace} (h : DataW.Trod enc0 Try.prog w base spare held 25 (.slice A n c) d p) :
    ∃ xs : List Pair, n = xs.length ∧ RdP w w.heap.size A xs ∧ (∀ x ∈ xs, True) ∧ xs.length ≤ 9223372036854775807 := by
  obtain ⟨xs, h1, h2, h3, h4⟩ := open_list Try.underlying25 cells4 (by decide) (fun _ => rfl) elemP h
  refine ⟨xs, h1, h2, h3, ?_⟩
  simp only [maxLen] at h4
  omega
theorem elemInt : ∀ m cs x, DataW.trod enc0 Try.prog w base spare held m 3 cs = some x → ∃ y : Int, intC y = cs ∧ inW64 y := by
  intro m cs x h
  obtain ⟨n, rfl, _, hw⟩ := DataW.trod_int Try.underlying3 h
  exact ⟨n, rfl, inW64_of_wf hw⟩
theorem open_ints {A : Option Addr} {n c : Nat} {d : DataW H} {p : List MemPlace} (h : DataW.Trod enc0 Try.prog w base spare held 26 (.slice A n c) d p) :
    ∃ xs : List Int, n = xs.length ∧ RdL 1 intC w w.heap.size A xs ∧ (∀ x ∈ xs, inW64 x) ∧ xs.length ≤ 9223372036854775807 := by
  obtain ⟨xs, h1, h2, h3, h4⟩ := open_list Try.underlying26 cells1 (by decide) (fun _ => rfl) elemInt h
  refine ⟨xs, h1, h2, h3, ?_⟩
  simp only [maxLen] at h4
  omega
theorem fieldsRaw : ∃ fs : Array Field, Try.prog.underlying 28 = some (.struct fs) ∧ fs.size = 10 ∧ fs.toList.map (·.type) = [3, 3, 3, 3, 3, 3, 3, 3, 9, 26] ∧ oneCellFields Try.prog fs = true :=
  ⟨_, Try.underlying28, by kernel_rfl, by kernel_rfl, by kernel_rfl⟩
theorem cells10 : Try.prog.cellsOf 28 = 10 := by kernel_rfl
theorem open_raw {r : Reach} {b0 : Nat} {v : Value} {d : DataW H} {p : List MemPlace} (hv : Value.okWide Try.prog w r b0 28 v) (h : DataW.Trod enc0 Try.prog w base spare held 28 v d p) :
    ∃ (y : RawM) (A : Option Addr) (c : Nat), v = y.v A c ∧ RawOk w w.heap.size A c y ∧ y.files.length ≤ c := by
  obtain ⟨fs, hu, hsz, hty, hone⟩ := fieldsRaw
  obtain ⟨cs, rfl, _⟩ := okWide_struct hu hv
  obtain ⟨fuel, hf⟩ := h
  obtain ⟨l⟩ := cs
  obtain ⟨hl, hc⟩ := struct_cells hu hone (by rw [cells10, hsz]) hf
  have hg : ∀ (i : Nat) (t : TypeId), (fs.toList.map (·.type))[i]? = some t → ∃ v n y, l[i]? = some v ∧ DataW.trod enc0 Try.prog w base spare held n t [v] = some y := by
    intro i t hi
    rw [List.getElem?_map] at hi
    obtain ⟨f, hf, rfl⟩ := Option.map_eq_some_iff.1 hi
    exact hc i f (by simpa using hf)
  rw [hty] at hg
  have hl10 : l.length = 10 := by rw [← hsz]; exact hl
  clear hc hl hone hty hf
  obtain ⟨v0, n0, y0, e0, h0⟩ := hg 0 _ rfl
  obtain ⟨x0, rfl, _⟩ := int_cell Try.underlying3 h0
  obtain ⟨v1, n1, y1, e1, h1⟩ := hg 1 _ rfl
  obtain ⟨x1, rfl, _⟩ := int_cell Try.underlying3 h1
  obtain ⟨v2, n2, y2, e2, h2⟩ := hg 2 _ rfl
  obtain ⟨x2, rfl, _⟩ := int_cell Try.underlying3 h2
  obtain ⟨v3, n3, y3, e3, h3⟩ := hg 3 _ rfl
  obtain ⟨x3, rfl, _⟩ := int_cell Try.underlying3 h3
  obtain ⟨v4, n4, y4, e4, h4⟩ := hg 4 _ rfl
  obtain ⟨x4, rfl, _⟩ := int_cell Try.underlying3 h4
  obtain ⟨v5, n5, y5, e5, h5⟩ := hg 5 _ rfl
  obtain ⟨x5, rfl, _⟩ := int_cell Try.underlying3 h5
  obtain ⟨v6, n6, y6, e6, h6⟩ := hg 6 _ rfl
  obtain ⟨x6, rfl, _⟩ := int_cell Try.underlying3 h6
  obtain ⟨v7, n7, y7, e7, h7⟩ := hg 7 _ rfl
  obtain ⟨x7, rfl, _⟩ := int_cell Try.underlying3 h7
  obtain ⟨v8, n8, y8, e8, h8⟩ := hg 8 _ rfl
  obtain ⟨x8, rfl, w8⟩ := string_cell Try.underlying9 h8
  obtain ⟨v9, n9, y9, e9, h9⟩ := hg 9 _ rfl
  obtain ⟨A, n, c, d9, p9, rfl, k9⟩ := slice_cell Try.underlying26 h9
  obtain ⟨ts, rfl, g1, g2, g3⟩ := open_ints k9
  obtain ⟨g4, _⟩ := open_list_cap Try.underlying26 k9
  have hcs : l = [.int .i64 x0, .int .i64 x1, .int .i64 x2, .int .i64 x3, .int .i64 x4, .int .i64 x5, .int .i64 x6, .int .i64 x7, .string x8, .slice A ts.length c] := List.ext_getElem? (fun i => match i with
    | 0 => e0
    | 1 => e1
    | 2 => e2
    | 3 => e3
    | 4 => e4
    | 5 => e5
    | 6 => e6
    | 7 => e7
    | 8 => e8
    | 9 => e9
    | n + 10 => by rw [List.getElem?_eq_none (by omega), List.getElem?_eq_none (by simp)])
  subst hcs
  simp only [maxLen] at w8
  exact ⟨⟨x0, x1, x2, x3, x4, x5, x6, x7, x8, ts⟩, A, c, rfl, ⟨g1, g3, by simp only; omega⟩, g4⟩
end
end Go.Proofs.Ytbpbdehnkkheiaa
