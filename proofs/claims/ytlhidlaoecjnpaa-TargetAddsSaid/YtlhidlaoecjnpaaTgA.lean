import Derived.Test.YtlhidlaoecjnpaaRows
import Derived.Test.YtlhidlaoecjnpaaKit
namespace Go.Proofs.Ytlhidlaoecjnpaa
open Go.RowKit

structure Pair where
  net : Int
  loc : Int
  ev : Int
  part : Int
deriving DecidableEq

def Pair.cells (p : Pair) : List Value := [.int .i64 p.net, .int .i64 p.loc, .int .i64 p.ev, .int .i64 p.part]
def Pair.v (p : Pair) : Value := .agg #[.int .i64 p.net, .int .i64 p.loc, .int .i64 p.ev, .int .i64 p.part]
abbrev RdP := RdL 4 Pair.cells

theorem RdP_at {w : World} {B : Nat} {A : Option Addr} {xs : List Pair} {k : Nat} (h : RdP w B A xs) (hk : k < xs.length) : ∃ b off p, A = some ⟨b, off, none⟩ ∧ b < B ∧ xs[k]? = some p ∧
    w.cell? ⟨b, off + k * 4, none⟩ = some (.int .i64 p.net) ∧ w.cell? ⟨b, off + k * 4 + 1, none⟩ = some (.int .i64 p.loc) ∧ w.cell? ⟨b, off + k * 4 + 2, none⟩ = some (.int .i64 p.ev) ∧ w.cell? ⟨b, off + k * 4 + 3, none⟩ = some (.int .i64 p.part) := by
  obtain ⟨b, off, e, hb, hc⟩ := h.at_ hk
  exact ⟨b, off, _, e, hb, List.getElem?_eq_getElem hk, hc 0 _ rfl, hc 1 _ rfl, hc 2 _ rfl, hc 3 _ rfl⟩

theorem box4 (w : World) (a b c d : Value) (t : TypeId) {w' : World} (hb : Below (w.heap.size + 1) (w.alloc (.cells #[a, b, c, d] t)) w') :
    w'.cell? ⟨w.heap.size, 0, none⟩ = some a ∧ w'.cell? ⟨w.heap.size, 1, none⟩ = some b ∧ w'.cell? ⟨w.heap.size, 2, none⟩ = some c ∧ w'.cell? ⟨w.heap.size, 3, none⟩ = some d :=
  ⟨(hb.cell (by simp)).trans (by simp), (hb.cell (by simp)).trans (by simp), (hb.cell (by simp)).trans (by simp), (hb.cell (by simp)).trans (by simp)⟩

def excl (a b : Pair) : Bool := a.net == b.net && (a.loc == b.loc || a.ev == b.ev && a.part == b.part)
def inB (n m : Int) : Bool := decide (0 ≤ n) && decide (n ≤ m)
def validP (p : Pair) : Bool := inB p.net 11 && inB p.loc 1099511627776 && inB p.ev 99999 && inB p.part 99
def rightGo (pre : List Pair) : List Pair → Bool
  | [] => true
  | p :: r => validP p && pre.all (fun q => !excl p q) && rightGo (pre ++ [p]) r
def rightB (xs : List Pair) : Bool := rightGo [] xs

set_option maxHeartbeats 400000 in
theorem in_any (n m : Int) (w : World) :
    Calls Try.prog 30 #[.int .i64 n, .int .i64 m] w fun e w' => e = .returned (.bool (inB n m)) ∧ w = w' := by
  unfold inB
  go_enter Try.func30, Try.ntmps30
  go_wp2
  all_goals go_ret
  · exact ⟨by simp_all, rfl⟩
  · exact ⟨by simp; omega, rfl⟩

set_option maxHeartbeats 400000 in
theorem excl_any (p q : Pair) (w : World) :
    Calls Try.prog 24 #[p.v, q.v] w fun e w' => e = .returned (.bool (excl p q)) ∧ Below w.heap.size w w' := by
  obtain ⟨a, b, c, d⟩ := p
  obtain ⟨e, f, g, h⟩ := q
  unfold Pair.v excl
  go_enter Try.func24, Try.ntmps24
  go_wp2
  all_goals go_ret
  all_goals refine ⟨?_, ((Below.refl _ _).alloc (Nat.le_refl _) _).alloc (by simp) _⟩
  all_goals simp_all

set_option maxHeartbeats 400000 in
theorem rvalid_any (p : Pair) (w : World) :
    Calls Try.prog 20 #[p.v] w fun e w' => e = .returned (.bool (validP p)) ∧ Below w.heap.size w w' := by
  obtain ⟨a, b, c, d⟩ := p
  unfold Pair.v validP
  go_enter Try.func20, Try.ntmps20
  go_wp2_with (go_at_call 30; refine (in_any _ _ _).mono ?_; rintro e w' ⟨rfl, rfl⟩)
  all_goals go_ret
  all_goals refine ⟨?_, ((Below.refl _ _).alloc (Nat.le_refl _) _)⟩
  all_goals simp_all

set_option maxHeartbeats 400000 in
theorem pvalid_any (p : Pair) (w : World) :
    Calls Try.prog 22 #[p.v] w fun e w' => e = .returned (.bool (validP p)) ∧ Below w.heap.size w w' := by
  obtain ⟨a, b, c, d⟩ := p
  unfold Pair.v validP inB
  go_enter Try.func22, Try.ntmps22
  go_wp2
  all_goals go_ret
  all_goals refine ⟨?_, ((Below.refl _ _).alloc (Nat.le_refl _) _)⟩
  all_goals first | (simp; omega) | (simp_all; omega) | simp_all
end Go.Proofs.Ytlhidlaoecjnpaa
