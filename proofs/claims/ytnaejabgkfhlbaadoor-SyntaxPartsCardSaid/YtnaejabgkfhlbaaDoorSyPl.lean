/- Plain laws of SyntaxParts: what leaving a part out does to the text. -/
import Derived.Test.YtnaejabgkfhlbaaDoorSyU
set_option linter.unusedSimpArgs false
set_option linter.unusedVariables false
namespace Go.Proofs.YtnaejabgkfhlbaaDoor
open Go.RowKit

def noWithin (p : Prof) : Prof := { p with within_ := 0 }
def noFiles (p : Prof) : Prof := { p with files := 0, bytes := 0, types := [] }
def noKeep (p : Prof) : Prof := { p with keep := 0 }
theorem rt_noWithin {p : Prof} (h : Rt p) : Rt (noWithin p) := by
  obtain ⟨a1, a2, a3, a4, a5, a6, a7, a8, a9, b1, b2, b3, b4, b5, b6, b7, b8⟩ := h
  exact ⟨by show (p.edit = 0 ∧ (0 : Int) = 0) ∨ (p.edit = 2 ∧ (0 : Int) ≤ 0 ∧ (0 : Int) ≤ 1073741824); omega, a2, a3, a4, a5, a6, a7, a8, a9, b1, b2, b3, b4, b5, b6, b7, b8⟩
theorem rt_noFiles {p : Prof} (h : Rt p) : Rt (noFiles p) := by
  obtain ⟨a1, a2, a3, a4, a5, a6, a7, a8, a9, b1, b2, b3, b4, b5, b6, b7, b8⟩ := h
  exact ⟨a1, a2, a3, a4, a5, a6, a7, a8, a9, ⟨Int.le_refl 0, show (0 : Int) ≤ 1073741824 by decide⟩, b2, b3, b4, b5, ⟨Int.le_refl 0, show (0 : Int) ≤ 1073741824 by decide⟩, b7, .inl ⟨rfl, rfl, rfl⟩⟩
theorem rt_noKeep {p : Prof} (h : Rt p) : Rt (noKeep p) := by
  obtain ⟨a1, a2, a3, a4, a5, a6, a7, a8, a9, b1, b2, b3, b4, b5, b6, b7, b8⟩ := h
  exact ⟨a1, a2, a3, a4, a5, a6, a7, a8, a9, b1, b2, b3, b4, ⟨Int.le_refl 0, show (0 : Int) ≤ 1073741824 by decide⟩, b6, b7, b8⟩
theorem len_within (p : Prof) : (printL (noWithin p)).length + (editB p).length = (printL p).length + (editB (noWithin p)).length := by
  have h1 : filesB (noWithin p) = filesB p := rfl
  have h2 : keepB (noWithin p) = keepB p := rfl
  have h3 : levelW (noWithin p) = levelW p := rfl
  unfold printL headL
  rw [h1, h2, h3]
  simp only [noWithin, List.length_append]
  omega
theorem len_files (p : Prof) : (printL (noFiles p)).length + (filesB p).length = (printL p).length + (filesB (noFiles p)).length := by
  have h1 : editB (noFiles p) = editB p := rfl
  have h2 : keepB (noFiles p) = keepB p := rfl
  have h3 : levelW (noFiles p) = levelW p := rfl
  unfold printL headL
  rw [h1, h2, h3]
  simp only [noFiles, List.length_append]
  omega
theorem len_keep (p : Prof) : (printL (noKeep p)).length + (keepB p).length = (printL p).length + (keepB (noKeep p)).length := by
  have h1 : editB (noKeep p) = editB p := rfl
  have h2 : filesB (noKeep p) = filesB p := rfl
  have h3 : levelW (noKeep p) = levelW p := rfl
  unfold printL headL
  rw [h1, h2, h3]
  simp only [noKeep, List.length_append]
  omega
theorem within_lt {p : Prof} (h : Rt p) : ((printF (noWithin p)).length < (printF p).length ↔ 0 < p.within_) ∧ (printF (noWithin p) = printF p ↔ p.within_ = 0) := by
  have hl := len_within p
  rw [print_lines, print_lines] at hl
  by_cases hw : 0 < p.within_
  · have he : p.edit = 2 := by rcases h.edit with h1 | h1 <;> omega
    have h1 : 12 ≤ (editB p).length ∧ (editB (noWithin p)).length = 11 := by
      unfold editB
      rw [if_pos hw, if_neg (by show ¬ (0 : Int) < 0; decide)]
      have : (noWithin p).edit = 2 := he
      rw [this]
      refine ⟨?_, by decide⟩
      rw [lineB_len]
      simp
    refine ⟨⟨fun _ => hw, fun _ => by omega⟩, ⟨fun e => ?_, fun e => by omega⟩⟩
    rw [e] at hl
    omega
  · have hw0 : p.within_ = 0 := by rcases h.edit with h1 | h1 <;> omega
    have e : noWithin p = p := by unfold noWithin; rw [← hw0]
    rw [e]
    exact ⟨⟨fun h => absurd h (Nat.lt_irrefl _), fun h => absurd h hw⟩, fun _ => hw0, fun _ => rfl⟩
theorem lineB_pos (ws : List (List UInt8)) : 0 < (lineB ws).length := by rw [lineB_len]; omega
theorem files_lt {p : Prof} (h : Rt p) : (printF (noFiles p)).length < (printF p).length ↔ 0 < p.files := by
  have hl := len_files p
  rw [print_lines, print_lines] at hl
  have h0 : filesB (noFiles p) = [] := rfl
  rw [h0] at hl
  unfold filesB at hl
  by_cases hw : 0 < p.files
  · rw [if_pos hw] at hl
    have := lineB_pos (filesW p)
    simp at hl
    exact ⟨fun _ => hw, fun _ => by omega⟩
  · rw [if_neg hw] at hl
    simp at hl
    exact ⟨fun h => by omega, fun h => absurd h hw⟩
theorem keep_lt {p : Prof} (h : Rt p) : (printF (noKeep p)).length < (printF p).length ↔ 0 < p.keep := by
  have hl := len_keep p
  rw [print_lines, print_lines] at hl
  have h0 : keepB (noKeep p) = [] := rfl
  rw [h0] at hl
  unfold keepB at hl
  by_cases hw : 0 < p.keep
  · rw [if_pos hw] at hl
    have := lineB_pos [kKeep, Lib.itoa p.keep]
    simp at hl
    exact ⟨fun _ => hw, fun _ => by omega⟩
  · rw [if_neg hw] at hl
    simp at hl
    exact ⟨fun h => by omega, fun h => absurd h hw⟩
end Go.Proofs.YtnaejabgkfhlbaaDoor
