/- Contracts and plain laws, joined: JnOpen. -/
import Derived.Test.YtoicnokidlkjfaaGreatDoorQba
import Derived.Test.YtoicnokidlkjfaaGreatDoorQam
/- Operations, records and lists of numbers among the arguments of a law. -/
namespace Go.Proofs.YtoicnokidlkjfaaGreatDoor
open Go.ChangeShapes Go.WideShapes Go.RowKit Go.Deep

theorem inI64_of_wf {n : Int} (h : (Lit.int .i64 n).wf = true) : inI64 n := by
  simp [Lit.wf, IntKind.min, IntKind.max, IntKind.bits, IntKind.signed] at h
  unfold inI64
  omega
section
variable {H : Type} {enc0 : TypeId × Value → H} {w : World} {base : Nat} {spare : Nat → Bool} {held : Bool}
theorem elemIntC : ∀ m cs x, DataW.trod enc0 Tryz.prog w base spare held m 3 cs = some x → ∃ y : Int, intC y = cs ∧ inI64 y := by
  intro m cs x h
  obtain ⟨n, rfl, _, hw⟩ := DataW.trod_int Tryz.underlying3 h
  exact ⟨n, rfl, inI64_of_wf hw⟩
theorem open_intsC {A : Option Addr} {n c : Nat} {d : DataW H} {p : List MemPlace} (h : DataW.Trod enc0 Tryz.prog w base spare held 36 (.slice A n c) d p) :
    ∃ xs : List Int, n = xs.length ∧ RdL 1 intC w w.heap.size A xs ∧ (∀ x ∈ xs, inI64 x) ∧ xs.length ≤ 9223372036854775807 := by
  obtain ⟨xs, h1, h2, h3, h4⟩ := open_list Tryz.underlying36 cells1 (by decide) (fun _ => rfl) elemIntC h
  refine ⟨xs, h1, h2, h3, ?_⟩
  simp only [maxLen] at h4
  omega
theorem cellsStrJ : Tryz.prog.cellsOf 9 = 1 := by kernel_rfl
theorem elemStrJ : ∀ m cs x, DataW.trod enc0 Tryz.prog w base spare held m 9 cs = some x → ∃ y : List UInt8, strE y = cs ∧ y.length ≤ 9223372036854775807 := by
  intro m cs x h
  obtain ⟨s, rfl, _, hs⟩ := DataW.trod_string Tryz.underlying9 h
  have e : s.data.toList.length = s.size := by rw [Array.length_toList]; rfl
  simp only [maxLen] at hs
  exact ⟨s.data.toList, rfl, by omega⟩
theorem open_strsJ {A : Option Addr} {n c : Nat} {d : DataW H} {p : List MemPlace} (h : DataW.Trod enc0 Tryz.prog w base spare held 46 (.slice A n c) d p) :
    ∃ xs : List (List UInt8), n = xs.length ∧ RdL 1 strE w w.heap.size A xs ∧ (∀ x ∈ xs, x.length ≤ 9223372036854775807) ∧ xs.length ≤ 9223372036854775807 ∧ n ≤ c := by
  obtain ⟨g4, _⟩ := open_list_cap Tryz.underlying46 h
  obtain ⟨xs, h1, h2, h3, h4⟩ := open_list Tryz.underlying46 cellsStrJ (by decide) (fun _ => rfl) elemStrJ h
  refine ⟨xs, h1, h2, h3, ?_, g4⟩
  simp only [maxLen] at h4
  omega
theorem fieldsOp : ∃ fs : Array Field, Tryz.prog.underlying 38 = some (.struct fs) ∧ fs.size = 4 ∧ fs.toList.map (·.type) = [3, 9, 3, 36] ∧ oneCellFields Tryz.prog fs = true :=
  ⟨_, Tryz.underlying38, by kernel_rfl, by kernel_rfl, by kernel_rfl⟩
theorem cells4 : Tryz.prog.cellsOf 38 = 4 := by kernel_rfl
theorem elemOp : ∀ m cs x, DataW.trod enc0 Tryz.prog w base spare held m 38 cs = some x → ∃ y : OpM, opC y = cs ∧ OpOk w y := by
  intro m l x hf
  obtain ⟨fs, hu, hsz, hty, hone⟩ := fieldsOp
  obtain ⟨hl, hc⟩ := struct_cells hu hone (by rw [cells4, hsz]) hf
  have hg : ∀ (i : Nat) (t : TypeId), (fs.toList.map (·.type))[i]? = some t → ∃ v n y, l[i]? = some v ∧ DataW.trod enc0 Tryz.prog w base spare held n t [v] = some y := by
    intro i t hi
    rw [List.getElem?_map] at hi
    obtain ⟨f, hf, rfl⟩ := Option.map_eq_some_iff.1 hi
    exact hc i f (by simpa using hf)
  rw [hty] at hg
  have hl4 : l.length = 4 := by rw [← hsz]; exact hl
  obtain ⟨v0, n0, y0, e0, h0⟩ := hg 0 _ rfl
  obtain ⟨x0, rfl, w0⟩ := int_cell Tryz.underlying3 h0
  obtain ⟨v1, n1, y1, e1, h1⟩ := hg 1 _ rfl
  obtain ⟨x1, rfl, w1⟩ := string_cell Tryz.underlying9 h1
  obtain ⟨v2, n2, y2, e2, h2⟩ := hg 2 _ rfl
  obtain ⟨x2, rfl, w2⟩ := int_cell Tryz.underlying3 h2
  obtain ⟨v3, n3, y3, e3, h3⟩ := hg 3 _ rfl
  obtain ⟨A, n, c, d4, p4, rfl, k4⟩ := slice_cell Tryz.underlying36 h3
  obtain ⟨ts, rfl, g1, g2, g3⟩ := open_intsC k4
  have hcs : l = [.int .i64 x0, .string x1, .int .i64 x2, .slice A ts.length c] := List.ext_getElem? (fun i => match i with
    | 0 => e0
    | 1 => e1
    | 2 => e2
    | 3 => e3
    | n + 4 => by rw [List.getElem?_eq_none (by omega), List.getElem?_eq_none (by simp)])
  subst hcs
  simp only [maxLen] at w1
  have e : x1.data.toList.length = x1.size := by rw [Array.length_toList]; rfl
  exact ⟨⟨x0, x1.data.toList, x2, ts, A, c⟩, rfl, inI64_of_wf w0, inI64_of_wf w2, by simp only; omega, g3, g2, g1⟩
theorem open_ops {A : Option Addr} {n c : Nat} {d : DataW H} {p : List MemPlace} (h : DataW.Trod enc0 Tryz.prog w base spare held 22 (.slice A n c) d p) :
    ∃ xs : List OpM, n = xs.length ∧ RdL 4 opC w w.heap.size A xs ∧ (∀ x ∈ xs, OpOk w x) ∧ xs.length ≤ 9223372036854775807 := by
  obtain ⟨xs, h1, h2, h3, h4⟩ := open_list Tryz.underlying22 cells4 (by decide) (fun _ => rfl) elemOp h
  refine ⟨xs, h1, h2, h3, ?_⟩
  simp only [maxLen] at h4
  omega
end
end Go.Proofs.YtoicnokidlkjfaaGreatDoor
