/- Contracts of package wire: reading lists. -/
import Derived.Test.YtoibgenhbpppdaaDoorWrF
namespace Go.Proofs.YtoibgenhbpppdaaDoor
open Go.RowKit

theorem slInt : SlTy Tryd.prog 37 3 1 8 := by
  obtain ⟨i, hi, h0, h1, h2⟩ := info_parts (show (Tryd.prog.info? 3).map (fun i => (i.zero, i.size, i.bytes)) = some (some (.int .i64 0), 1, 8) by kernel_rfl)
  exact ⟨Tryd.underlying37, ⟨i, _, hi, h0, h1, h2, rfl⟩, by decide, by decide⟩
theorem slStr : SlTy Tryd.prog 24 9 1 16 := by
  obtain ⟨i, hi, h0, h1, h2⟩ := info_parts (show (Tryd.prog.info? 9).map (fun i => (i.zero, i.size, i.bytes)) = some (some (.string ByteArray.empty), 1, 16) by kernel_rfl)
  exact ⟨Tryd.underlying24, ⟨i, _, hi, h0, h1, h2, rfl⟩, by decide, by decide⟩
theorem intLay : Lay 1 intE := ⟨fun _ => rfl, fun x u hu => by simp only [intE, List.mem_singleton] at hu; subst hu; rfl⟩
theorem strLay : Lay 1 strE := ⟨fun _ => rfl, fun x u hu => by simp only [strE, List.mem_singleton] at hu; subst hu; rfl⟩
theorem Turn.more {F : Nat → Prop} {a b c : World} (h : Turn F a b) (k : Below a.heap.size b c) : Turn F a c :=
  ⟨k.os.trans h.os, k.tape.trans h.tape, k.output.trans h.output, Nat.le_trans h.size k.size, fun i hi hn => (k.block i hi).trans (h.block i hi hn)⟩

/-- The rounds of 'items'. -/
def itLoop {T : Type} (one : RS → T × RS) : Nat → RS → List T → List T × RS
  | 0, s, out => (out, s)
  | n + 1, s, out => if s.bad then (out, s) else itLoop one n (one s).2 (out ++ [(one s).1])
theorem itLoop_bad {T : Type} (one : RS → T × RS) (n : Nat) (s : RS) (out : List T) (h : s.bad = true) : itLoop one n s out = (out, s) := by
  cases n <;> simp [itLoop, h]
theorem itLoop_go {T : Type} (one : RS → T × RS) (n : Nat) (s : RS) (out : List T) (h : s.bad = false) : itLoop one (n + 1) s out = itLoop one n (one s).2 (out ++ [(one s).1]) := by
  simp [itLoop, h]
/-- What 'items' does. -/
def rItems {T : Type} (one : RS → T × RS) (s : RS) : List T × RS :=
  let r := rNum 91 0 s
  let q := itLoop one r.1.toNat r.2 []
  let s3 := rClose 93 q.2
  if s3.bad then ([], s3) else (q.1, s3)
/-- A reading takes at least a byte, or fails. -/
def Eats {T : Type} (one : RS → T × RS) : Prop := ∀ s, s.bad = false → (one s).2.rest.length + 1 ≤ s.rest.length ∨ ((one s).2.rest.length = 0 ∧ (one s).2.bad = true)
def one1 (b : Bool) : Nat := if b then 1 else 0

theorem rNum_eats (e : UInt8) (m : Int) : Eats (rNum e m) := fun s hs => by
  have h1 := indexByte_in (s.rest.take 21) e
  have h2 : (s.rest.take 21).length ≤ s.rest.length := by simp; omega
  unfold rNum RS.fail
  simp only
  split
  · exact .inr ⟨rfl, rfl⟩
  · have h3 := h1 (by omega)
    split
    · split
      · left
        show (s.rest.drop ((Lib.indexByte (s.rest.take 21) e).toNat + 1)).length + 1 ≤ _
        rw [List.length_drop]
        omega
      · exact .inr ⟨rfl, rfl⟩
    · exact .inr ⟨rfl, rfl⟩
theorem rText_eats : Eats rText := fun s hs => by
  have h1 := rNum_eats 58 0 s hs
  unfold rText
  simp only
  split
  · exact .inr ⟨rfl, rfl⟩
  · generalize rNum 58 0 s = r at *
    have h2 := rClose_rest 44 ⟨r.2.rest.drop r.1.toNat, r.2.bad⟩
    have h3 : (rClose 44 ⟨r.2.rest.drop r.1.toNat, r.2.bad⟩).bad = true → r.2.bad = true ∨ (rClose 44 ⟨r.2.rest.drop r.1.toNat, r.2.bad⟩).rest.length = 0 := by
      unfold rClose RS.fail
      split
      · exact fun h => .inl h
      · exact fun _ => .inr rfl
    have h4 : r.2.bad = true → (rClose 44 ⟨r.2.rest.drop r.1.toNat, r.2.bad⟩).bad = true := by
      unfold rClose RS.fail
      split
      · exact fun h => h
      · exact fun _ => rfl
    generalize rClose 44 ⟨r.2.rest.drop r.1.toNat, r.2.bad⟩ = s3 at *
    simp only [List.length_drop] at h2
    split
    · rename_i hb
      show s3.rest.length + 1 ≤ _ ∨ (s3.rest.length = 0 ∧ s3.bad = true)
      rcases h1 with h1 | ⟨h1, hbad⟩
      · exact .inl (by omega)
      · exact .inr ⟨by omega, hb⟩
    · rename_i hb
      show s3.rest.length + 1 ≤ _ ∨ (s3.rest.length = 0 ∧ s3.bad = true)
      rcases h1 with h1 | ⟨h1, hbad⟩
      · exact .inl (by omega)
      · exact absurd (h4 hbad) hb
end Go.Proofs.YtoibgenhbpppdaaDoor
