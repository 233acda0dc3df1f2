/- Contract of the reference of profile.Check. -/
import Derived.Test.YtbpbdehnkkheiaaWyF
namespace Go.Proofs.Ytbpbdehnkkheiaa
open Go.RowKit

def outA (p : Prof) : Bool := decide (p.size < 40) || (decide (4000 < p.size) || (decide (p.parts < 1) || (decide (20 < p.parts) || (decide (4 < p.files) || decide (65536 < p.bytes)))))
def outB (p : Prof) : Bool := decide (p.rate < 1) || ((p.down != 0) && decide (p.window ≤ p.down))
def noneB (p : Prof) : Bool := (p.files == 0) && ((p.bytes == 0) && decide (p.types = []))
def someB (p : Prof) : Bool := (p.files == 0) || ((p.bytes == 0) || decide (p.types = []))
def outC (p : Prof) : Bool := !noneB p && someB p
theorem off_eq (p : Prof) : offB p = (outA p || (outB p || outC p)) := by
  have h0 : togetherB p = !outC p := by
    unfold togetherB outC noneB someB
    cases (p.files == 0) <;> cases (p.bytes == 0) <;> cases (decide (p.types = [])) <;> rfl
  unfold offB boundsB outA outB
  rw [h0, Bool.eq_iff_iff]
  simp [inR]
  cases outC p <;> simp
  all_goals omega

theorem nodup_two {xs : List ByteArray} {j k : Nat} {s : ByteArray} (hj : xs[j]? = some s) (hk : xs[k]? = some s) (hl : j < k) : ¬ xs.Nodup := by
  intro hn
  obtain ⟨h1, e1⟩ := List.getElem?_eq_some_iff.1 hj
  obtain ⟨h2, e2⟩ := List.getElem?_eq_some_iff.1 hk
  have := nodup_inj hn h1 h2 (e1.trans e2.symm)
  omega

end Go.Proofs.Ytbpbdehnkkheiaa
