/- Contracts and plain laws, joined: Make. -/
import Derived.Test.YtjmkodkechahdaaGreatDoorQal
import Derived.Test.YtjmkodkechahdaaGreatDoorQac
import Derived.Laws.MakeOwn
/- make([]byte, n): a row of zeros that the call owns; over any program. -/
set_option linter.unusedSimpArgs false
set_option linter.unusedVariables false
namespace Go.Proofs.YtjmkodkechahdaaGreatDoor
open Go.RowKit

theorem madeBytes (n : Nat) : (madeCells (Value.int .u8 0).cells n).toList = Lib.byteCells (List.replicate n 0) := by
  have h1 : (madeCells (Value.int .u8 0).cells n) = (Array.range n).map fun _ => Value.int .u8 0 := by
    unfold madeCells
    refine Array.map_congr_left fun i _ => ?_
    have : (Value.int IntKind.u8 0).cells = #[Value.int .u8 0] := rfl
    rw [this]
    have h2 : (#[Value.int IntKind.u8 0] : Array Value).size = 1 := rfl
    rw [h2, Nat.mod_one]
    rfl
  rw [h1]
  simp [Lib.byteCells]
  apply List.ext_getElem?
  intro i
  simp [List.getElem?_map, List.getElem?_range', List.getElem?_replicate]
  by_cases h : i < n
  · simp [h]
  · simp [h]
/-- An operation that is wanted, as one without a guard. -/
theorem wpList_unguard {P : Program} {w : World} {ops : Array Oper} {rest : List Oper} {o : Oper} {a : Act} {Q : Exit → Act → World → Prop} (hw : Region.wanted o (yielded ops a.tmps) = true) (h : wpList P ops Q ({ o with guard := none } :: rest) a w) : wpList P ops Q (o :: rest) a w := by
  have h2 : Region.wanted { o with guard := none } (yielded ops a.tmps) = true := by simp [Region.wanted]
  simp only [wpList, hw, h2, if_true] at h ⊢
  exact h
theorem wp_make_b {P : Program} {w : World} {e t : TypeId} {ops : Array Oper} {rest : List Oper} {o : Oper} {a : Act} {Q : Exit → Act → World → Prop} (hgd : o.guard = none) (x y : Operand)
    (ho : o.op = .makeSlice t x y) {inf : TypeInfo} (ht : P.underlying t = some (.slice e)) (hi : P.info? e = some inf) (hz : inf.zero = some (.int .u8 0)) (hsz : inf.size = 1) (hby : inf.bytes = 1)
    {n : Int} (hx : a.eval x = .int .i64 n) (hy : a.eval y = .int .i64 n) (h0 : 0 ≤ n) (hn : n ≤ 1000000000000)
    (hK : ∀ w2, OwnB w2 w.heap.size e w.heap.size n.toNat (List.replicate n.toNat 0) → Below w.heap.size w w2 → wpList P ops Q rest (a.put o.dst (.slice (some ⟨w.heap.size, 0, none⟩) n.toNat n.toNat)) w2) : wpList P ops Q (o :: rest) a w := by
  refine wpList_plain hgd fun K hK' => ?_
  have hrun := run_make (P := P) w t e inf (.int .u8 0) ht hi hz .i64 .i64 n n h0 (Int.le_refl _) (by rw [hby]; omega) (by omega)
  unfold Oper.wp
  simp [execOp, ho, hx, hy, hrun, Result.andThen]
  refine hK' _ _ (hK _ ⟨Nat.le_refl _, ⟨_, (0, 0), heap_alloc_new w _, fun j _ h => by have := h.2; simp only at this; omega, ?_, ?_⟩, ?_, ?_⟩ ((Below.refl _ _).alloc (Nat.le_refl _) _))
  · rw [size_madeCells, hsz, Nat.mul_one]
  · rw [madeBytes, hsz, Nat.mul_one, List.length_replicate]
    refine List.take_of_length_le ?_
    rw [byteCells_len, List.length_replicate]
    exact Nat.le_refl _
  · simp
  · simp only [maxLen]; omega
/-- .. and as a string of bytes. -/
theorem wp_string_bs {P : Program} {w : World} {base g c : Nat} {e : TypeId} {l : List UInt8} {ops : Array Oper} {rest : List Oper} {o : Oper} {a : Act} {Q : Exit → Act → World → Prop} (hgd : o.guard = none) (x : Operand) (src dst : TypeId)
    (ho : o.op = .convert src dst x) (hs : P.underlying src = some (.slice e)) (he : P.underlying e = some (.int .u8)) (hd : P.underlying dst = some .string)
    {n : Nat} (hx : a.eval x = .slice (some ⟨g, 0, none⟩) n c) (hn : n = l.length) (h : OwnB w base e g c l)
    (hK : wpList P ops Q rest (a.put o.dst (.string (bs l))) w) : wpList P ops Q (o :: rest) a w :=
  wp_string_b hgd x src dst ho hs he hd hx hn h hK
end Go.Proofs.YtjmkodkechahdaaGreatDoor
