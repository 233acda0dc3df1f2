/- Contracts and plain laws, joined: SyT. -/
import Derived.Test.YtnaejabgkfhlbaaDoorQap
import Derived.Test.YtnaejabgkfhlbaaDoorQan
/- Contracts of strings.Join (two words and more, a blank between) and of the function that writes a line. -/
set_option linter.unusedSimpArgs false
set_option linter.unusedVariables false
namespace Go.Proofs.YtnaejabgkfhlbaaDoor
open Go.RowKit

/-- Words, each with a blank ahead. -/
def joinT (r : List (List UInt8)) : List UInt8 := r.flatMap fun s => 32 :: s
theorem joinT_len (r : List (List UInt8)) : (joinT r).length = r.length + (r.flatMap id).length := by
  induction r with
  | nil => rfl
  | cons x r ih =>
    have e : joinT (x :: r) = 32 :: (x ++ joinT r) := rfl
    rw [e]
    simp only [List.length_cons, List.length_append, List.flatMap_cons, id]
    omega
theorem joinT_succ (r : List (List UInt8)) (k : Nat) (hk : k < r.length) : joinT (r.take (k + 1)) = joinT (r.take k) ++ [32] ++ r[k] := by
  unfold joinT
  rw [flat_succ _ r k hk, List.append_assoc]
  rfl
theorem joinT_le (r : List (List UInt8)) (k : Nat) : (joinT (r.take k)).length ≤ (joinT r).length := flat_le _ r k
/-- A line: words with blanks between, and what ends it. -/
def lineB (ws : List (List UInt8)) : List UInt8 := (ws.flatMap fun s => s ++ [32]) ++ [59, 10]
theorem join_line (x : List UInt8) (r : List (List UInt8)) : x ++ joinT r ++ [32, 59, 10] = lineB (x :: r) := by
  have h : ∀ r : List (List UInt8), joinT r ++ [32, 59, 10] = 32 :: lineB r := fun r => by
    induction r with
    | nil => rfl
    | cons y r ih =>
      have e : joinT (y :: r) = 32 :: (y ++ joinT r) := rfl
      rw [e, List.cons_append, List.append_assoc, ih]
      simp [lineB]
  rw [List.append_assoc, h]
  simp [lineB]
theorem lineB_len (ws : List (List UInt8)) : (lineB ws).length = (ws.flatMap id).length + ws.length + 2 := by
  unfold lineB
  rw [List.length_append]
  congr 1
  induction ws with
  | nil => rfl
  | cons x r ih =>
    simp only [List.flatMap_cons, List.length_append, List.length_cons, List.length_nil, id] at ih ⊢
    omega
theorem grow_bld (w : World) (n : Nat) (hn : n ≤ 281474976710656) : Calls Tryd.prog 76 #[.pointer (some ⟨w.heap.size, 0, none⟩), .int .i64 n] (w.alloc (.cells #[.pointer none, .slice none 0 0] 68)) fun e w' => e = .returned (.tuple #[]) ∧ Bld w.heap.size w.heap.size [] w' ∧ Below w.heap.size w w' := by
  refine (Tryd.Builder_Grow_fresh w.heap.size w.heap.size n _ (Nat.le_refl _) (MapKept.heap_alloc w _).1 (by simp) hn).mono ?_
  rintro e w' ⟨rfl, h1, h2⟩
  exact ⟨rfl, .of (.inr h1), ((Below.refl _ _).alloc (Nat.le_refl _) _).trans h2⟩
set_option maxRecDepth 100000 in
set_option maxHeartbeats 2000000 in
theorem join_any (x : List UInt8) (r : List (List UInt8)) (b off c n : Nat) (w : World) (hn : n = (x :: r).length) (h2 : 2 ≤ n) (hc : n ≤ c) (hb : b < w.heap.size)
    (hcell : ∀ k (hk : k < (x :: r).length), w.cell? ⟨b, off + k, none⟩ = some (.string (bs (x :: r)[k]))) (hlen : (x ++ joinT r).length ≤ 1000000) :
    Calls Tryd.prog 49 #[.slice (some ⟨b, off, none⟩) n c, .string (bs [32])] w fun e w' => e = .returned (.string (bs (x ++ joinT r))) ∧ Below w.heap.size w w' := by
  have hsum : (n - 1) + ((x :: r).flatMap id).length ≤ 1000000 := by
    rw [List.length_append, joinT_len] at hlen
    rw [hn]
    simp only [List.flatMap_cons, List.length_append, id, List.length_cons]
    omega
  have hrn : r.length = n - 1 := by rw [hn]; rfl
  have hn6 : n ≤ 1000001 := by omega
  have HN := Lib.hid hn
  have HRN := Lib.hid hrn
  have HC := Lib.hid hcell
  have HL := Lib.hid hlen
  clear hn hcell hrn hlen
  have hdv : ¬ (9223372036854775807 / ((n : Int) - 1) ≤ 1) := by
    intro h
    have e : (9223372036854775807 : Int) / ((n : Int) - 1) ≥ 2 := by
      rw [ge_iff_le, Int.le_ediv_iff_mul_le (by omega)]
      omega
    omega
  have hne0 : ((n : Int) == 0) = false := beq_eq_false_iff_ne.2 (by omega)
  have hne1 : ((n : Int) == 1) = false := beq_eq_false_iff_ne.2 (by omega)
  have hs1 : (bs [32]).size = 1 := rfl
  go_enter Tryd.func49, Tryd.ntmps49
  go_wp2_with fail
  go_loop [5, 41] (fun s i => ∃ k : Nat, k ≤ n ∧ i = .int .i64 k ∧ s = .int .i64 (((n - 1) + (((x :: r).take k).flatMap id).length : Nat) : Int)) (fun _ i => n - (intOf i).toNat)
  case atStart => exact ⟨0, Nat.zero_le _, rfl, by simp; omega⟩
  case round =>
    obtain ⟨k, hk, rfl, rfl⟩ := hrel
    by_cases hkn : k < n
    · have hkl : k < (x :: r).length := HN.out ▸ hkn
      have hck := HC.out k hkl
      have hle := flat_le id (x :: r) (k + 1)
      have hst := flat_succ id (x :: r) k hkl
      have hst2 := congrArg List.length hst
      rw [List.length_append] at hst2
      have HS := Lib.hid hst2
      clear hst
      have hsz : (bs (x :: r)[k]).size = ((x :: r)[k]).length := bs_size _
      simp only [id] at hst2
      generalize (x :: r)[k] = y at *
      generalize hA : (((x :: r).take k).flatMap id).length = A0 at *
      generalize hA1 : (((x :: r).take (k + 1)).flatMap id).length = A1 at *
      generalize ((x :: r).flatMap id).length = T at *
      have HA1 := Lib.hid hA1
      clear hA hA1 HS
      go_wp2_with fail
      go_round
      case rel => exact ⟨k + 1, by omega, by go_num, by rw [HA1.out, hst2]; refine congrArg _ ?_; omega⟩
      case measure => simp [intOf]; omega
    · have hke : k = n := by omega
      subst hke
      have hall : (x :: r).take k = x :: r := List.take_of_length_le (by rw [← HN.out]; exact Nat.le_refl _)
      rw [hall]
      generalize ((x :: r).flatMap id).length = T at *
      clear hall
      go_wp2_with fail
      have hk1 : (((k : Int) - 1) + (T : Int)) = ((k - 1 + T : Nat) : Int) := by omega
      first | rw [hk1] | skip
      refine (grow_bld w (k - 1 + T) (by omega)).mono ?_
      rintro e w1 ⟨rfl, h1, hb1⟩
      have c0 : w1.cell? ⟨b, off, none⟩ = some (.string (bs x)) := by
        have := HC.out 0 (by simp)
        rw [hb1.cell (p := ⟨b, off, none⟩) hb]
        simpa using this
      have HB1 := Lib.hid h1
      have HW1 := Lib.hid hb1
      clear h1 hb1 hk1
      go_wp2_with fail
      refine (bld_write HB1.out (by have := HL.out; simp at this ⊢; omega) HW1.out.size).mono ?_
      rintro e w2 ⟨rfl, h2', hb2⟩
      have HB2 := Lib.hid h2'
      have HW2 := Lib.hid (HW1.out.trans hb2)
      clear h2' hb2
      go_wp2_with fail
      go_loopw [65] (fun i wr => ∃ j : Nat, j ≤ k - 1 ∧ i = .int .i64 j ∧ Bld w.heap.size w.heap.size (x ++ joinT (r.take j)) wr ∧ Below w.heap.size w wr) (fun i _ => k - (intOf i).toNat)
      case atStart => exact ⟨0, Nat.zero_le _, rfl, by simpa [joinT] using HB2.out, HW2.out⟩
      case round =>
        obtain ⟨j, hj, rfl, hbl, hwr⟩ := hrel
        have HB3 := Lib.hid hbl
        have HW3 := Lib.hid hwr
        clear hbl hwr
        by_cases hjk : j < k - 1
        · have hjl : j < r.length := HRN.out ▸ hjk
          have hcy : wr.cell? ⟨b, off + 1 + j, none⟩ = some (.string (bs r[j])) := by
            have := HC.out (j + 1) (by simp; omega)
            rw [HW3.out.cell (p := ⟨b, off + 1 + j, none⟩) hb, show off + 1 + j = off + (j + 1) by omega, this]
            rfl
          have HS := Lib.hid (joinT_succ r j hjl)
          have HJ := Lib.hid (joinT_le r (j + 1))
          generalize r[j] = y at *
          go_wp2_with fail
          refine (bld_write HB3.out (by have h1 := HL.out; have h2 := HJ.out; rw [HS.out] at h2; simp only [List.length_append, List.length_cons, List.length_nil] at h1 h2 ⊢; omega) HW3.out.size).mono ?_
          rintro e w4 ⟨rfl, h4, hb4⟩
          have HB4 := Lib.hid h4
          have HW4 := Lib.hid (HW3.out.trans hb4)
          clear h4 hb4
          go_wp2_with fail
          refine (bld_write HB4.out (by have h1 := HL.out; have h2 := HJ.out; rw [HS.out] at h2; simp only [List.length_append, List.length_cons, List.length_nil] at h1 h2 ⊢; omega) HW4.out.size).mono ?_
          rintro e w5 ⟨rfl, h5, hb5⟩
          have HB5 := Lib.hid h5
          have HW5 := Lib.hid (HW4.out.trans hb5)
          clear h5 hb5
          go_wp2_with fail
          go_roundw
          case rel => exact ⟨j + 1, by omega, by go_num, by have := HB5.out; rw [HS.out]; simpa using this, HW5.out⟩
          case measure => simp [intOf]; omega
        · have hje : j = k - 1 := by omega
          have hall : r.take j = r := List.take_of_length_le (by rw [HRN.out]; omega)
          rw [hall] at HB3
          go_wp2_with fail
          refine (bld_string HB3.out HW3.out.size).mono ?_
          rintro e w6 ⟨rfl, h6, hb6⟩
          have HW6 := Lib.hid (HW3.out.trans hb6)
          clear h6 hb6
          go_wp2_with fail
          go_ret
          exact ⟨rfl, HW6.out⟩
set_option maxRecDepth 100000 in
set_option maxHeartbeats 1000000 in
theorem line_any (B b : Nat) (l : List UInt8) (x : List UInt8) (r : List (List UInt8)) (q off c n : Nat) (w : World) (hn : n = (x :: r).length) (h2 : 2 ≤ n) (hc : n ≤ c) (hq : q < w.heap.size)
    (hcell : ∀ k (hk : k < (x :: r).length), w.cell? ⟨q, off + k, none⟩ = some (.string (bs (x :: r)[k]))) (hB : Bld B b l w) (hBw : B ≤ w.heap.size) (hl : l.length ≤ 1000000) (hlen : (lineB (x :: r)).length ≤ 1000000) :
    Calls Tryd.prog 47 #[.slice (some ⟨q, off, none⟩) n c, .pointer (some ⟨b, 0, none⟩)] w fun e w' => e = .returned (.tuple #[]) ∧ Bld B b (l ++ lineB (x :: r)) w' ∧ Below B w w' := by
  have hj := congrArg List.length (join_line x r)
  rw [List.length_append] at hj
  simp only [List.length_cons, List.length_nil] at hj
  have HJ := Lib.hid (join_any x r q off c n w hn h2 hc hq hcell (by omega))
  have HB := Lib.hid hB
  have HBw := Lib.hid hBw
  have HE := Lib.hid (join_line x r)
  clear hcell hB hBw hn
  have hjl : (x ++ joinT r).length ≤ 1000000 := by omega
  clear hj
  generalize hP : x ++ joinT r = P at *
  clear hP
  go_enter Tryd.func47, Tryd.ntmps47
  go_wp2_with fail
  refine HJ.out.mono ?_
  rintro e w1 ⟨rfl, hb1⟩
  have HB1 := Lib.hid (HB.out.now hb1)
  have HW1 := Lib.hid (hb1.mono HBw.out)
  clear hb1
  go_wp2_with (first
      | ((with_reducible show wpList _ _ _ (Oper.mk _ (Op.binOp .add 9 _ _ _) _ _ _ _ :: _) _ _); refine wp_cat rfl rfl Tryd.underlying9 rfl rfl (by first | omega | (simp; done) | (simp; omega)) ?_)
      | fail)
  have hE := HE.out
  rw [hE]
  refine (bld_write HB1.out (by omega) (Nat.le_trans HBw.out HW1.out.size)).mono ?_
  rintro e w2 ⟨rfl, h2', hb2⟩
  have HB2 := Lib.hid h2'
  have HW2 := Lib.hid (HW1.out.trans hb2)
  clear h2' hb2
  go_wp2_with fail
  go_end0
  exact ⟨rfl, HB2.out, HW2.out⟩
end Go.Proofs.YtnaejabgkfhlbaaDoor
