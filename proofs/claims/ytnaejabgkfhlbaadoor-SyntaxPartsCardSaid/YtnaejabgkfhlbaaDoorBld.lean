/- A strings.Builder of the call's own, as a list of bytes (the same as in XWrC, without the lists). -/
import Derived.Test.YtnaejabgkfhlbaaDoorWrB
set_option linter.unusedSimpArgs false
set_option linter.unusedVariables false
namespace Go.Proofs.YtnaejabgkfhlbaaDoor
open Go.RowKit

/-- The builder in block b (of the call's own from B on) holds the bytes l. -/
def Bld (B b : Nat) (l : List UInt8) (w : World) : Prop := Lib.IsBuilderF 68 5 B b (Lib.byteCells l) w
theorem strCells_bs (l : List UInt8) : Lib.strCells (bs l) = Lib.byteCells l := by simp [Lib.strCells, Lib.byteCells, bs]
theorem Bld.now {B b : Nat} {l : List UInt8} {w w' : World} (h : Bld B b l w) (hb : Below w.heap.size w w') : Bld B b l w' := by
  have one : ∀ p, Lib.BuilderAtF 68 5 B b p (Lib.byteCells l) w → Lib.BuilderAtF 68 5 B b p (Lib.byteCells l) w' := by
    rintro p ⟨hB, v, hv, hown, hne⟩
    refine ⟨hB, v, (hb.block _ (box_lt hv)).trans hv, hown.kept (grown_of_below hb none) ?_, hne⟩
    cases h : v.ownBlock with
    | none => exact .inl rfl
    | some k => exact .inr (by simp)
  rcases h with h | h
  · exact .inl (one _ h)
  · exact .inr (one _ h)
theorem bld_write {B b : Nat} {l m : List UInt8} {w : World} (h : Bld B b l w) (hlen : l.length + m.length ≤ 140737488355328) (hBw : B ≤ w.heap.size) :
    Calls Tryd.prog 48 #[.pointer (some ⟨b, 0, none⟩), .string (bs m)] w fun e w' => e = .returned (.tuple #[.int .i64 m.length, .nilIface]) ∧ Bld B b (l ++ m) w' ∧ Below B w w' := by
  refine (writeString_any B b _ (bs m) w h (by rw [Lib.byteCells_length, bs_size]; omega) hBw).mono ?_
  rintro e w' ⟨rfl, h1, h2⟩
  refine ⟨by rw [bs_size], ?_, h2⟩
  unfold Bld
  rw [Lib.byteCells_append, ← strCells_bs m]
  exact h1
theorem bld_string {B b : Nat} {l : List UInt8} {w : World} (h : Bld B b l w) (hBw : B ≤ w.heap.size) :
    Calls Tryd.prog 55 #[.pointer (some ⟨b, 0, none⟩)] w fun e w' => e = .returned (.string (bs l)) ∧ Bld B b l w' ∧ Below B w w' := by
  refine (Tryd.Builder_String_any_k B b l w h hBw).mono ?_
  rintro e w' ⟨rfl, h1, h2, _⟩
  exact ⟨rfl, h1, h2⟩
theorem bld_new (w : World) : Bld w.heap.size w.heap.size [] (w.alloc (.cells #[.pointer none, .slice none 0 0] 68)) :=
  .of (Lib.fresh_isBuilder 68 5 w)

theorem flat_succ {T : Type} (one : T → List UInt8) (xs : List T) (k : Nat) (hk : k < xs.length) : (xs.take (k + 1)).flatMap one = (xs.take k).flatMap one ++ one xs[k] := by
  rw [List.take_succ_eq_append_getElem hk, List.flatMap_append]; simp
theorem flat_le {T : Type} (one : T → List UInt8) (xs : List T) (k : Nat) : ((xs.take k).flatMap one).length ≤ (xs.flatMap one).length := by
  conv => rhs; rw [← List.take_append_drop k xs, List.flatMap_append, List.length_append]
  omega

end Go.Proofs.YtnaejabgkfhlbaaDoor
