/- Contracts and plain laws, joined: JnOpen. -/
import Derived.Test.YtjmkodkechahdaaGreatDoorQbb
import Derived.Test.YtjmkodkechahdaaGreatDoorQao
/- Operations, records and lists of numbers among the arguments of a law. -/
set_option linter.unusedSimpArgs false
set_option linter.unusedVariables false
namespace Go.Proofs.YtjmkodkechahdaaGreatDoor
open Go.ChangeShapes Go.WideShapes Go.RowKit Go.Deep

theorem inI64_of_wf {n : Int} (h : (Lit.int .i64 n).wf = true) : inI64 n := by
  simp [Lit.wf, IntKind.min, IntKind.max, IntKind.bits, IntKind.signed] at h
  unfold inI64
  omega
section
variable {H : Type} {enc0 : TypeId × Value → H} {w : World} {base : Nat} {spare : Nat → Bool} {held : Bool}
theorem elemIntC : ∀ m cs x, DataW.trod enc0 Tryz.prog w base spare held m 3 cs = some x → ∃ y : Int, intC y = cs ∧ inI64 y := by
  intro m cs x h
  obtain ⟨n, rfl, _, hw⟩ := DataW.trod_int Tryz.underlying3 h
  exact ⟨n, rfl, inI64_of_wf hw⟩
theorem open_intsC {A : Option Addr} {n c : Nat} {d : DataW H} {p : List MemPlace} (h : DataW.Trod enc0 Tryz.prog w base spare held 31 (.slice A n c) d p) :
    ∃ xs : List Int, n = xs.length ∧ RdL 1 intC w w.heap.size A xs ∧ (∀ x ∈ xs, inI64 x) ∧ xs.length ≤ 9223372036854775807 := by
  obtain ⟨xs, h1, h2, h3, h4⟩ := open_list Tryz.underlying31 cells1 (by decide) (fun _ => rfl) elemIntC h
  refine ⟨xs, h1, h2, h3, ?_⟩
  simp only [maxLen] at h4
  omega
theorem cellsStrJ : Tryz.prog.cellsOf 9 = 1 := by kernel_rfl
theorem elemStrJ : ∀ m cs x, DataW.trod enc0 Tryz.prog w base spare held m 9 cs = some x → ∃ y : List UInt8, strE y = cs ∧ y.length ≤ 9223372036854775807 := by
  intro m cs x h
  obtain ⟨s, rfl, _, hs⟩ := DataW.trod_string Tryz.underlying9 h
  have e : s.data.toList.length = s.size := by rw [Array.length_toList]; rfl
  simp only [maxLen] at hs
  exact ⟨s.data.toList, rfl, by omega⟩
theorem open_strsJ {A : Option Addr} {n c : Nat} {d : DataW H} {p : List MemPlace} (h : DataW.Trod enc0 Tryz.prog w base spare held 32 (.slice A n c) d p) :
    ∃ xs : List (List UInt8), n = xs.length ∧ RdL 1 strE w w.heap.size A xs ∧ (∀ x ∈ xs, x.length ≤ 9223372036854775807) ∧ xs.length ≤ 9223372036854775807 ∧ n ≤ c := by
  obtain ⟨g4, _⟩ := open_list_cap Tryz.underlying32 h
  obtain ⟨xs, h1, h2, h3, h4⟩ := open_list Tryz.underlying32 cellsStrJ (by decide) (fun _ => rfl) elemStrJ h
  refine ⟨xs, h1, h2, h3, ?_, g4⟩
  simp only [maxLen] at h4
  omega
end
end Go.Proofs.YtjmkodkechahdaaGreatDoor
