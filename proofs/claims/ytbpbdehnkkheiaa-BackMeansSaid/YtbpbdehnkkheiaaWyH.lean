/- Contracts of the small functions of the reference of the ways. -/
import Derived.Test.YtbpbdehnkkheiaaWyG
namespace Go.Proofs.Ytbpbdehnkkheiaa
open Go.RowKit

abbrev wayV (x : Int × Int) : Value := .agg #[.int .i64 x.1, .int .i64 x.2]
def longW (p : Prof) : Int × Int := if 2 ≤ p.parts then (if 4400 ≤ p.size * p.parts then (1, 1) else (4, 1)) else (4, 0)
def editsB (p : Prof) : Bool := (p.edit == 2) && (p.within_ == 0)
def editW (p : Prof) : Int × Int := if editsB p then (0, 0) else (3, 2)
def goneW (p : Prof) : Int × Int := if p.delete = 0 then (if editsB p then (2, 0) else (3, 2)) else (0, 0)
def reactW (p : Prof) : Int × Int := if p.react then (if p.parts = 1 then (0, 0) else (0, 1)) else (3, 2)
def replyW (p : Prof) : Int × Int := if p.thread = 2 then (0, 0) else if p.thread = 1 then (2, 1) else (2, 2)
def ownW (b : Bool) : Int × Int := if b then (0, 0) else (2, 2)
def fileW (p : Prof) : Int × Int := if 4 ≤ p.files then (0, 0) else if 1 ≤ p.files then (4, 1) else (2, 2)

theorem boxFree (w : World) (cs : Array Value) (t : TypeId) {w' : World} (hb : Below (w.alloc (.cells cs t)).heap.size (w.alloc (.cells cs t)) w') (b : Nat) (he : b = w.heap.size) (o : Nat) : w'.frozen? ⟨b, o, none⟩ = false := by
  subst he
  rw [hb.frozen (p := ⟨w.heap.size, o, none⟩) (by simp)]
  simp
theorem boxCell (w : World) (cs : Array Value) (t : TypeId) {w' : World} (hb : Below (w.alloc (.cells cs t)).heap.size (w.alloc (.cells cs t)) w') (b : Nat) (he : b = w.heap.size) (j : Nat) (v : Value) (hj : cs[j]? = some v) : w'.cell? ⟨b, j, none⟩ = some v := by
  subst he
  exact boxCells w cs t hb j v hj
theorem below_res {B : Nat} {w0 w w1 : World} {cs : Array Value} {t : TypeId} (h : Below B w0 w) (hb : Below (w.alloc (.cells cs t)).heap.size (w.alloc (.cells cs t)) w1) (hs : B ≤ w.heap.size) : Below B w0 w1 :=
  (h.alloc hs _).trans (hb.mono (by simp; omega))

end Go.Proofs.Ytbpbdehnkkheiaa
