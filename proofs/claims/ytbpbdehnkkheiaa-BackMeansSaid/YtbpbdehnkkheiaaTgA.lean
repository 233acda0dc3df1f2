import Derived.Test.YtbpbdehnkkheiaaRows
import Derived.Test.YtbpbdehnkkheiaaKit
namespace Go.Proofs.Ytbpbdehnkkheiaa
open Go.RowKit

structure Pair where
  net : Int
  loc : Int
  ev : Int
  part : Int
deriving DecidableEq

def Pair.cells (p : Pair) : List Value := [.int .i64 p.net, .int .i64 p.loc, .int .i64 p.ev, .int .i64 p.part]
def Pair.v (p : Pair) : Value := .agg #[.int .i64 p.net, .int .i64 p.loc, .int .i64 p.ev, .int .i64 p.part]
abbrev RdP := RdL 4 Pair.cells

theorem RdP_at {w : World} {B : Nat} {A : Option Addr} {xs : List Pair} {k : Nat} (h : RdP w B A xs) (hk : k < xs.length) : ∃ b off p, A = some ⟨b, off, none⟩ ∧ b < B ∧ xs[k]? = some p ∧
    w.cell? ⟨b, off + k * 4, none⟩ = some (.int .i64 p.net) ∧ w.cell? ⟨b, off + k * 4 + 1, none⟩ = some (.int .i64 p.loc) ∧ w.cell? ⟨b, off + k * 4 + 2, none⟩ = some (.int .i64 p.ev) ∧ w.cell? ⟨b, off + k * 4 + 3, none⟩ = some (.int .i64 p.part) := by
  obtain ⟨b, off, e, hb, hc⟩ := h.at_ hk
  exact ⟨b, off, _, e, hb, List.getElem?_eq_getElem hk, hc 0 _ rfl, hc 1 _ rfl, hc 2 _ rfl, hc 3 _ rfl⟩

theorem box4 (w : World) (a b c d : Value) (t : TypeId) {w' : World} (hb : Below (w.heap.size + 1) (w.alloc (.cells #[a, b, c, d] t)) w') :
    w'.cell? ⟨w.heap.size, 0, none⟩ = some a ∧ w'.cell? ⟨w.heap.size, 1, none⟩ = some b ∧ w'.cell? ⟨w.heap.size, 2, none⟩ = some c ∧ w'.cell? ⟨w.heap.size, 3, none⟩ = some d :=
  ⟨(hb.cell (by simp)).trans (by simp), (hb.cell (by simp)).trans (by simp), (hb.cell (by simp)).trans (by simp), (hb.cell (by simp)).trans (by simp)⟩

def excl (a b : Pair) : Bool := a.net == b.net && (a.loc == b.loc || a.ev == b.ev && a.part == b.part)
def inB (n m : Int) : Bool := decide (0 ≤ n) && decide (n ≤ m)
def validP (p : Pair) : Bool := inB p.net 11 && inB p.loc 1099511627776 && inB p.ev 99999 && inB p.part 99
def rightGo (pre : List Pair) : List Pair → Bool
  | [] => true
  | p :: r => validP p && pre.all (fun q => !excl p q) && rightGo (pre ++ [p]) r
def rightB (xs : List Pair) : Bool := rightGo [] xs

end Go.Proofs.Ytbpbdehnkkheiaa
