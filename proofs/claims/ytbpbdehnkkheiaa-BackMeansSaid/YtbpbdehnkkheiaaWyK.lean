/- Contract of ways.Compile. -/
import Derived.Test.YtbpbdehnkkheiaaWyJ
import Derived.Deep.RegionHeld3
namespace Go.Proofs.Ytbpbdehnkkheiaa
open Go.RowKit

theorem check_files (p : Prof) (h : profCheck p = 0) : p.files ≤ 4 := by
  unfold profCheck at h
  split at h
  · split at h
    · cases h
    · rename_i h2
      simp [offB, boundsB, inR] at h2
      omega
  · cases h
theorem ownOfMade {w' : World} {base g : Nat} {t : TypeId} (h : w'.ownsRow base t 2 (.slice (some ⟨g, 0, none⟩) 9 9) 9 (madeCells (Value.agg #[.int .i64 0, .int .i64 0]).cells (9 * 2)).toList) : OwnL w' base t 2 wayC (some ⟨g, 0, none⟩) 9 (List.replicate 9 ((0 : Int), (0 : Int))) := by
  unfold OwnL
  rw [show (madeCells (Value.agg #[.int .i64 0, .int .i64 0]).cells (9 * 2)).toList = (List.replicate 9 ((0 : Int), (0 : Int))).flatMap wayC from by kernel_rfl] at h
  exact h
theorem react_first (p : Prof) (pb : Bool) (h1 : 1 ≤ p.parts) (hp : decide (1 < p.parts) = pb) (hr : p.react = true) : firstW [(!pb, 0, 0), (true, 0, 1), (true, 3, 2)] = reactW p := by
  subst hp
  by_cases h : p.parts = 1
  · simp [firstW, reactW, hr, h]
  · have : 1 < p.parts := by omega
    simp [firstW, reactW, hr, h, this]
theorem file_first (p : Prof) (h : p.files ≤ 4) : firstW [(p.files == 4, 0, 0), (decide (0 < p.files), 4, 1), (true, 2, 2)] = fileW p := by
  by_cases h4 : p.files = 4
  · simp [firstW, fileW, h4]
  · by_cases h0 : 0 < p.files
    · simp [firstW, fileW, h4, h0, show ¬ 4 ≤ p.files by omega, show 1 ≤ p.files by omega]
    · simp [firstW, fileW, h4, h0, show ¬ 4 ≤ p.files by omega, show ¬ 1 ≤ p.files by omega]
end Go.Proofs.Ytbpbdehnkkheiaa
