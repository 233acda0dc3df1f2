/- Contracts of linguaref10: letter, Same, Ints, Few; of words: part. -/
import Derived.Test.YtpcfmmiiokbjbaaDoorWdC
import Derived.Test.YtpcfmmiiokbjbaaDoorLst
import Derived.Test.YtpcfmmiiokbjbaaDoorBytL
namespace Go.Proofs.YtpcfmmiiokbjbaaDoor
open Go.RowKit

def letF (c : UInt8) : UInt8 := if partB c.toNat then Lib.lowerB c else 0
theorem let_all : ∀ i : Fin 256, (letF (UInt8.ofNat i.val)).toNat = if (97 ≤ i.val ∧ i.val ≤ 122) ∨ (48 ≤ i.val ∧ i.val ≤ 57) then i.val else if 65 ≤ i.val ∧ i.val ≤ 90 then i.val + 32 else 0 := by decide +kernel
theorem let_eq (c : UInt8) : (letF c).toNat = if (97 ≤ c.toNat ∧ c.toNat ≤ 122) ∨ (48 ≤ c.toNat ∧ c.toNat ≤ 57) then c.toNat else if 65 ≤ c.toNat ∧ c.toNat ≤ 90 then c.toNat + 32 else 0 := by
  have h := let_all ⟨c.toNat, by have := c.toNat_lt; omega⟩
  simpa using h
theorem let_zero (c : UInt8) : letF c = 0 ↔ partB c.toNat = false := by
  rw [← UInt8.toNat_inj, let_eq]
  have h0 : (0 : UInt8).toNat = 0 := rfl
  rw [h0]
  have hp : partB c.toNat = false ↔ ¬ ((97 ≤ c.toNat ∧ c.toNat ≤ 122) ∨ (65 ≤ c.toNat ∧ c.toNat ≤ 90) ∨ (48 ≤ c.toNat ∧ c.toNat ≤ 57)) := by
    rw [← Bool.not_eq_true]
    simp [partB]
  rw [hp]
  split
  · omega
  · split <;> omega
set_option maxHeartbeats 1000000 in
theorem letter_any (c : UInt8) (w : World) : Calls Tryd.prog 27 #[.int .u8 c.toNat] w fun e w' => e = .returned (.int .u8 (letF c).toNat) ∧ w = w' := by
  have HE := Lib.hid (let_eq c)
  have hc := c.toNat_lt
  generalize letF c = r at *
  generalize c.toNat = n at *
  have hc0 : (0 : Int) ≤ n := by omega
  have hc1 : (n : Int) ≤ 255 := by omega
  go_enter Tryd.func27, Tryd.ntmps27
  by_cases h1 : (97 : Int) ≤ n ∧ (n : Int) ≤ 122
  · have d1 : decide ((97 : Int) ≤ n) = true := by simp; omega
    have d2 : decide ((n : Int) ≤ 122) = true := by simp; omega
    have HR : Hid (r.toNat = n) := Lib.hid (by rw [HE.out, if_pos (by omega)])
    clear h1
    go_wp2
    all_goals go_ret
    all_goals exact ⟨ret_int (by rw [HR.out]), rfl⟩
  · by_cases h2 : (48 : Int) ≤ n ∧ (n : Int) ≤ 57
    · have HR : Hid (r.toNat = n) := Lib.hid (by rw [HE.out, if_pos (by omega)])
      go_wp2
      all_goals go_ret
      all_goals first | exact ⟨ret_int (by rw [HR.out]), rfl⟩ | (exfalso; omega)
    · by_cases h3 : (65 : Int) ≤ n ∧ (n : Int) ≤ 90
      · have HR : Hid (r.toNat = n + 32) := Lib.hid (by rw [HE.out, if_neg (by omega), if_pos (by omega)])
        go_wp2
        all_goals go_ret
        all_goals first | exact ⟨ret_int (by rw [HR.out]; omega), rfl⟩ | (exfalso; omega)
      · have HR : Hid (r.toNat = 0) := Lib.hid (by rw [HE.out, if_neg (by omega), if_neg (by omega)])
        go_wp2
        all_goals go_ret
        all_goals first | exact ⟨ret_int (by rw [HR.out]; rfl), rfl⟩ | (exfalso; omega)
set_option maxHeartbeats 1000000 in
theorem part_any (n : Nat) (hn : n ≤ 1114111) (w : World) : Calls Tryd.prog 25 #[.int .i32 n] w fun e w' => e = .returned (.bool (partB n)) ∧ w = w' := by
  have HE := Lib.hid (show partB n = ((decide (97 ≤ n) && decide (n ≤ 122)) || ((decide (65 ≤ n) && decide (n ≤ 90)) || (decide (48 ≤ n) && decide (n ≤ 57)))) from rfl)
  generalize partB n = r at *
  go_enter Tryd.func25, Tryd.ntmps25
  go_wp2
  all_goals go_ret
  all_goals exact ⟨ret_bool (by rw [HE.out, Bool.eq_iff_iff]; simp; omega), rfl⟩
set_option maxHeartbeats 1000000 in
theorem sameW_any (xs ys : List (List UInt8)) (A B : Option Addr) (c d : Nat) (w : World) (hr : RdL 1 strE w w.heap.size A xs) (hs : RdL 1 strE w w.heap.size B ys) (hx : xs.length ≤ 9223372036854775807) (hy : ys.length ≤ 9223372036854775807) :
    Calls Tryd.prog 9 #[.slice A xs.length c, .slice B ys.length d] w fun e w' => e = .returned (.bool (xs == ys)) ∧ Below w.heap.size w w' := by
  have HR := Lib.hid hr
  have HS := Lib.hid hs
  have HFin : Hid (∀ b : Bool, (xs = ys ↔ b = true) → (xs == ys) = b) := Lib.hid fun b h => by
    cases b with
    | true => simpa using h.2 rfl
    | false => simp only [beq_eq_false_iff_ne]; intro e; exact absurd (h.1 e) (by simp)
  clear hr hs
  by_cases hl : xs.length = ys.length
  · have hl2 : ((xs.length : Int) != ys.length) = false := by simp [hl]
    go_enter Tryd.func9, Tryd.ntmps9
    have HL := Lib.hid hl
    clear hl
    go_wp2
    go_loopw [5] (fun i wr => ∃ k : Nat, k ≤ xs.length ∧ i = .int .i64 k ∧ xs.take k = ys.take k ∧ Below w.heap.size w wr) (fun i _ => xs.length - (intOf i).toNat)
    case atStart => exact ⟨0, Nat.zero_le _, rfl, by simp, Below.refl _ _⟩
    case round =>
      obtain ⟨k, hk, rfl, hf, hbw⟩ := hrel
      have HF := Lib.hid hf
      have HB := Lib.hid hbw
      clear hf
      by_cases hlt : k < xs.length
      · have hlt2 : k < ys.length := by have := HL.out; omega
        obtain ⟨b, off, hA, hb, c0⟩ := rd_str' (HR.out.now hbw) hlt
        obtain ⟨b2, off2, hA2, hb2, c1⟩ := rd_str' (HS.out.now hbw) hlt2
        subst hA hA2
        have HSt := Lib.hid (eq_take xs ys k hlt hlt2 HF.out)
        have HNe := Lib.hid (ne_at xs ys k hlt hlt2)
        have hi0 : (0 : Int) ≤ (k : Int) := by omega
        have hi1 : (k : Int) < (xs.length : Int) := by omega
        have hi2 : (k : Int) < (ys.length : Int) := by omega
        clear hbw
        generalize xs[k] = x at *
        generalize ys[k] = y at *
        by_cases hv : x = y
        · have hv2 : ((bs x).toList != (bs y).toList) = false := by rw [bne, bs_beq, hv]; simp
          have hv3 : ((bs x).toList == (bs y).toList) = true := by rw [bne, Bool.not_eq_false'] at hv2; exact hv2
          have HV := Lib.hid hv
          clear hv
          go_wp2_with fail
          go_quiet (fail)
          go_wp2
          go_roundw
          case rel => exact ⟨k + 1, by omega, by go_num, HSt.out HV.out, below_drewN HB.out _⟩
          case measure => simp [intOf]; omega
        · have hv2 : ((bs x).toList != (bs y).toList) = true := by rw [bne, bs_beq]; simpa using hv
          have hv3 : ((bs x).toList == (bs y).toList) = false := by rw [bne, Bool.not_eq_true'] at hv2; exact hv2
          have HV := Lib.hid (HNe.out hv)
          clear hv
          go_wp2_with fail
          go_quiet (fail)
          go_wp2
          go_ret
          exact ⟨ret_bool (HFin.out false ⟨fun h => absurd h HV.out, fun h => by simp at h⟩).symm, below_drewN HB.out _⟩
      · have HE : Hid (xs = ys) := Lib.hid (by
          have h1 := HF.out
          have := HL.out
          rwa [List.take_of_length_le (by omega), List.take_of_length_le (by omega)] at h1)
        go_wp2
        go_ret
        exact ⟨ret_bool (HFin.out true ⟨fun _ => rfl, fun _ => HE.out⟩).symm, HB.out⟩
  · have hl2 : ((xs.length : Int) != ys.length) = true := by simp; omega
    have HN := Lib.hid hl
    clear hl
    go_enter Tryd.func9, Tryd.ntmps9
    go_wp2
    go_ret
    exact ⟨ret_bool (HFin.out false ⟨fun h => absurd (by rw [h]) HN.out, fun h => by simp at h⟩).symm, Below.refl _ _⟩
set_option maxHeartbeats 1000000 in
theorem intsW_any (xs ys : List Int) (A B : Option Addr) (c d : Nat) (w : World) (hr : RdL 1 intE w w.heap.size A xs) (hs : RdL 1 intE w w.heap.size B ys) (hx : xs.length ≤ 9223372036854775807) (hy : ys.length ≤ 9223372036854775807) :
    Calls Tryd.prog 16 #[.slice A xs.length c, .slice B ys.length d] w fun e w' => e = .returned (.bool (xs == ys)) ∧ Below w.heap.size w w' := by
  have HR := Lib.hid hr
  have HS := Lib.hid hs
  have HFin : Hid (∀ b : Bool, (xs = ys ↔ b = true) → (xs == ys) = b) := Lib.hid fun b h => by
    cases b with
    | true => simpa using h.2 rfl
    | false => simp only [beq_eq_false_iff_ne]; intro e; exact absurd (h.1 e) (by simp)
  clear hr hs
  by_cases hl : xs.length = ys.length
  · have hl2 : ((xs.length : Int) != ys.length) = false := by simp [hl]
    go_enter Tryd.func16, Tryd.ntmps16
    have HL := Lib.hid hl
    clear hl
    go_wp2
    go_loopw [5] (fun i wr => ∃ k : Nat, k ≤ xs.length ∧ i = .int .i64 k ∧ xs.take k = ys.take k ∧ Below w.heap.size w wr) (fun i _ => xs.length - (intOf i).toNat)
    case atStart => exact ⟨0, Nat.zero_le _, rfl, by simp, Below.refl _ _⟩
    case round =>
      obtain ⟨k, hk, rfl, hf, hbw⟩ := hrel
      have HF := Lib.hid hf
      have HB := Lib.hid hbw
      clear hf
      by_cases hlt : k < xs.length
      · have hlt2 : k < ys.length := by have := HL.out; omega
        obtain ⟨b, off, hA, hb, c0⟩ := rd_int' (HR.out.now hbw) hlt
        obtain ⟨b2, off2, hA2, hb2, c1⟩ := rd_int' (HS.out.now hbw) hlt2
        subst hA hA2
        have HSt := Lib.hid (eq_take xs ys k hlt hlt2 HF.out)
        have HNe := Lib.hid (ne_at xs ys k hlt hlt2)
        have hi0 : (0 : Int) ≤ (k : Int) := by omega
        have hi1 : (k : Int) < (xs.length : Int) := by omega
        have hi2 : (k : Int) < (ys.length : Int) := by omega
        clear hbw
        generalize xs[k] = x at *
        generalize ys[k] = y at *
        by_cases hv : x = y
        · have hv2 : (x != y) = false := by simp [hv]
          have hv3 : (x == y) = true := by rw [bne, Bool.not_eq_false'] at hv2; exact hv2
          have HV := Lib.hid hv
          clear hv
          go_wp2_with fail
          go_quiet (fail)
          go_wp2
          go_roundw
          case rel => exact ⟨k + 1, by omega, by go_num, HSt.out HV.out, below_drewN HB.out _⟩
          case measure => simp [intOf]; omega
        · have hv2 : (x != y) = true := by simp [hv]
          have hv3 : (x == y) = false := by rw [bne, Bool.not_eq_true'] at hv2; exact hv2
          have HV := Lib.hid (HNe.out hv)
          clear hv
          go_wp2_with fail
          go_quiet (fail)
          go_wp2
          go_ret
          exact ⟨ret_bool (HFin.out false ⟨fun h => absurd h HV.out, fun h => by simp at h⟩).symm, below_drewN HB.out _⟩
      · have HE : Hid (xs = ys) := Lib.hid (by
          have h1 := HF.out
          have := HL.out
          rwa [List.take_of_length_le (by omega), List.take_of_length_le (by omega)] at h1)
        go_wp2
        go_ret
        exact ⟨ret_bool (HFin.out true ⟨fun _ => rfl, fun _ => HE.out⟩).symm, HB.out⟩
  · have hl2 : ((xs.length : Int) != ys.length) = true := by simp; omega
    have HN := Lib.hid hl
    clear hl
    go_enter Tryd.func16, Tryd.ntmps16
    go_wp2
    go_ret
    exact ⟨ret_bool (HFin.out false ⟨fun h => absurd (by rw [h]) HN.out, fun h => by simp at h⟩).symm, Below.refl _ _⟩
end Go.Proofs.YtpcfmmiiokbjbaaDoor
