/- Contracts and plain laws, joined: JnH. -/
import Derived.Test.YtjmkodkechahdaaGreatDoorQau
import Derived.WalkMore
/- Contracts of package journal: Sum, form, read. -/
set_option linter.unusedSimpArgs false
set_option linter.unusedVariables false
namespace Go.Proofs.YtjmkodkechahdaaGreatDoor
open Go.RowKit

theorem slStrJ : SlTy Tryz.prog 32 9 1 16 := by
  obtain ⟨i, hi, h0, h1, h2⟩ := info_parts (show (Tryz.prog.info? 9).map (fun i => (i.zero, i.size, i.bytes)) = some (some (.string ByteArray.empty), 1, 16) by kernel_rfl)
  exact ⟨Tryz.underlying32, ⟨i, _, hi, h0, h1, h2, rfl⟩, by decide, by decide⟩
theorem strLayJ : Lay 1 strE := ⟨fun _ => rfl, fun x u hu => by simp only [strE, List.mem_singleton] at hu; subst hu; rfl⟩
/-- The tests of read, one behind the other. -/
theorem nextJ_tests (s : List UInt8) : nextJ s = if 20000 < (rText ⟨s, false⟩).1.length then none else if (rNum 59 0 (rText ⟨s, false⟩).2).1 ≠ sumF (rText ⟨s, false⟩).1 then none else
    if s.length < (formF (rText ⟨s, false⟩).1).length then none else if s.take (formF (rText ⟨s, false⟩).1).length ≠ formF (rText ⟨s, false⟩).1 then none else some (rText ⟨s, false⟩).1 := by
  unfold nextJ
  by_cases h1 : 20000 < (rText ⟨s, false⟩).1.length
  · rw [if_neg (by omega), if_pos h1]
  · rw [if_neg h1]
    by_cases h2 : (rNum 59 0 (rText ⟨s, false⟩).2).1 ≠ sumF (rText ⟨s, false⟩).1
    · rw [if_neg (fun h => h2 h.2.1), if_pos h2]
    · rw [if_neg h2]
      by_cases h3 : s.length < (formF (rText ⟨s, false⟩).1).length
      · rw [if_neg (fun h => by have := h.2.2.length_le; omega), if_pos h3]
      · rw [if_neg h3]
        by_cases h4 : s.take (formF (rText ⟨s, false⟩).1).length ≠ formF (rText ⟨s, false⟩).1
        · rw [if_neg (fun h => h4 (List.prefix_iff_eq_take.1 h.2.2).symm), if_pos h4]
        · rw [if_neg h4, if_pos ⟨by omega, Classical.not_not.1 h2, List.prefix_iff_eq_take.2 (Classical.not_not.1 h4).symm⟩]
/-- What stands between two rounds of read. -/
structure RdW (s : List UInt8) (w wr : World) (out : List (List UInt8)) (A : Option Addr) (c : Nat) : Prop where
  eq : formsF out ++ s.drop (formsF out).length = s
  rc : out ++ recs (s.drop (formsF out).length) = recs s
  b : Below w.heap.size w wr
  own : OwnL wr w.heap.size 9 1 strE A c out
theorem RdW.len {s : List UInt8} {w wr : World} {out : List (List UInt8)} {A : Option Addr} {c : Nat} (h : RdW s w wr out A c) : (formsF out).length ≤ s.length ∧ out.length ≤ (formsF out).length := by
  refine ⟨?_, enc_len formF formF_pos out⟩
  have := congrArg List.length h.eq
  rw [List.length_append] at this
  omega
theorem RdW.next {s : List UInt8} {w wr : World} {out : List (List UInt8)} {A : Option Addr} {c : Nat} (h : RdW s w wr out A c) {t : List UInt8} (hn : nextJ (s.drop (formsF out).length) = some t) :
    formsF (out ++ [t]) ++ s.drop (formsF (out ++ [t])).length = s ∧ (out ++ [t]) ++ recs (s.drop (formsF (out ++ [t])).length) = recs s := by
  obtain ⟨_, tl, ht⟩ := (nextJ_iff _ _).1 hn
  have e : (formsF (out ++ [t])).length = (formsF out).length + (formF t).length := by rw [formsF_snoc, List.length_append]
  have e2 : s.drop (formsF (out ++ [t])).length = tl := by
    rw [e, ← List.drop_drop, ← ht, List.drop_left]
  rw [e2]
  constructor
  · rw [formsF_snoc, List.append_assoc, ht]
    exact h.eq
  · rw [← h.rc, recs_some hn, ← ht, List.drop_left]
    simp
theorem RdW.on {s : List UInt8} {w wr wx : World} {out : List (List UInt8)} {A : Option Addr} {c : Nat} (h : RdW s w wr out A c) (hb : Below wr.heap.size wr wx) : RdW s w wx out A c :=
  ⟨h.eq, h.rc, h.b.trans (hb.mono h.b.size), h.own.below hb⟩
theorem RdW.turn {s : List UInt8} {w wr wx : World} {out : List (List UInt8)} {A : Option Addr} {c b : Nat} (h : RdW s w wr out A c) (t : Turn (One b) wr wx) (hb : w.heap.size ≤ b) (hA : ∀ i, slBlk A = some i → i ≠ b) : RdW s w wx out A c :=
  ⟨h.eq, h.rc, h.b.trans (turn_below t h.b.size hb), h.own.turn (fun i hi hl => t.block i hl (hA i hi))⟩
end Go.Proofs.YtjmkodkechahdaaGreatDoor
