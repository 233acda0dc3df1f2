/- Contracts of linguaref01's reader: lists. -/
import Derived.Test.YtoibgenhbpppdaaDoorWrT
namespace Go.Proofs.YtoibgenhbpppdaaDoor
open Go.RowKit

theorem good_text {s : RS} (hg : Good s) : Good (rText s).2 := fun h => by
  have hn : Good (rNum 58 0 s).2 := good_num hg
  have hc : ∀ q : RS, Good q → Good (rClose 44 q) := fun q hq h => by
    unfold rClose at h ⊢
    split
    · rename_i hp
      rw [if_pos hp] at h
      show q.rest.tail = []
      rw [hq h]; rfl
    · rfl
  have h3 : Good (rClose 44 ⟨(rNum 58 0 s).2.rest.drop (rNum 58 0 s).1.toNat, (rNum 58 0 s).2.bad⟩) := hc _ (fun hb => by
    show (rNum 58 0 s).2.rest.drop _ = []
    rw [hn hb]; simp)
  unfold rText at h ⊢
  simp only at h ⊢
  split
  · rfl
  · rename_i h1
    rw [if_neg h1] at h
    split
    · rename_i hb; exact h3 hb
    · rename_i hb; rw [if_neg hb] at h; exact absurd h hb
/-- The rest of 'items', behind the rounds. -/
theorem items_end {T : Type} {one : RS → T × RS} {s q : RS} {m : Int} {out : List T} {s' : RS} (hr : rNum 91 0 s = (m, q)) (hl : itLoop one m.toNat q [] = (out, s')) :
    rItems one s = if (rClose 93 s').bad then ([], rClose 93 s') else (out, rClose 93 s') := by
  unfold rItems
  simp only [hr, hl]
end Go.Proofs.YtoibgenhbpppdaaDoor
