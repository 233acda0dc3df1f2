/- Contracts and plain laws, joined: WrH. -/
import Derived.Test.YtoicnokidlkjfaaDoorQaw
import Derived.Test.YtoicnokidlkjfaaDoorQan
/- Contracts of lingualaw01's own functions. -/
namespace Go.Proofs.YtoicnokidlkjfaaDoor
open Go.RowKit

theorem eq_take {T : Type} (xs ys : List T) (k : Nat) (hk : k < xs.length) (hk2 : k < ys.length) (h : xs.take k = ys.take k) (he : xs[k] = ys[k]) : xs.take (k + 1) = ys.take (k + 1) := by
  rw [List.take_succ_eq_append_getElem hk, List.take_succ_eq_append_getElem hk2, h, he]
theorem ne_at {T : Type} (xs ys : List T) (k : Nat) (hk : k < xs.length) (hk2 : k < ys.length) (he : ¬ xs[k] = ys[k]) : ¬ xs = ys := fun h => he (by subst h; rfl)
theorem rd_int' {w : World} {A : Option Addr} {xs : List Int} {k : Nat} (h : RdL 1 intE w w.heap.size A xs) (hk : k < xs.length) : ∃ b off, A = some ⟨b, off, none⟩ ∧ b < w.heap.size ∧ w.cell? ⟨b, off + k, none⟩ = some (.int .i64 xs[k]) := by
  obtain ⟨b, off, e, hb, hc⟩ := h.at_ hk
  exact ⟨b, off, e, hb, by simpa using hc 0 _ rfl⟩
theorem rd_str' {w : World} {A : Option Addr} {xs : List (List UInt8)} {k : Nat} (h : RdL 1 strE w w.heap.size A xs) (hk : k < xs.length) : ∃ b off, A = some ⟨b, off, none⟩ ∧ b < w.heap.size ∧ w.cell? ⟨b, off + k, none⟩ = some (.string (bs xs[k])) := by
  obtain ⟨b, off, e, hb, hc⟩ := h.at_ hk
  exact ⟨b, off, e, hb, by simpa using hc 0 _ rfl⟩
set_option maxHeartbeats 1000000 in
theorem sameS_any (xs ys : List (List UInt8)) (A B : Option Addr) (c d : Nat) (w : World) (hr : RdL 1 strE w w.heap.size A xs) (hs : RdL 1 strE w w.heap.size B ys) (hx : xs.length ≤ 9223372036854775807) (hy : ys.length ≤ 9223372036854775807) :
    Calls Tryd.prog 15 #[.slice A xs.length c, .slice B ys.length d] w fun e w' => e = .returned (.bool (xs == ys)) ∧ Below w.heap.size w w' := by
  have HR := Lib.hid hr
  have HS := Lib.hid hs
  have HFin : Hid (∀ b : Bool, (xs = ys ↔ b = true) → (xs == ys) = b) := Lib.hid fun b h => by
    cases b with
    | true => simpa using h.2 rfl
    | false => simp only [beq_eq_false_iff_ne]; intro e; exact absurd (h.1 e) (by simp)
  clear hr hs
  by_cases hl : xs.length = ys.length
  · have hl2 : ((xs.length : Int) != ys.length) = false := by simp [hl]
    go_enter Tryd.func15, Tryd.ntmps15
    have HL := Lib.hid hl
    clear hl
    go_wp2
    go_loopw [5] (fun i wr => ∃ k : Nat, k ≤ xs.length ∧ i = .int .i64 k ∧ xs.take k = ys.take k ∧ Below w.heap.size w wr) (fun i _ => xs.length - (intOf i).toNat)
    case atStart => exact ⟨0, Nat.zero_le _, rfl, by simp, Below.refl _ _⟩
    case round =>
      obtain ⟨k, hk, rfl, hf, hbw⟩ := hrel
      have HF := Lib.hid hf
      have HB := Lib.hid hbw
      clear hf
      by_cases hlt : k < xs.length
      · have hlt2 : k < ys.length := by have := HL.out; omega
        obtain ⟨b, off, hA, hb, c0⟩ := rd_str' (HR.out.now hbw) hlt
        obtain ⟨b2, off2, hA2, hb2, c1⟩ := rd_str' (HS.out.now hbw) hlt2
        subst hA hA2
        have HSt := Lib.hid (eq_take xs ys k hlt hlt2 HF.out)
        have HNe := Lib.hid (ne_at xs ys k hlt hlt2)
        have hi0 : (0 : Int) ≤ (k : Int) := by omega
        have hi1 : (k : Int) < (xs.length : Int) := by omega
        have hi2 : (k : Int) < (ys.length : Int) := by omega
        clear hbw
        generalize xs[k] = x at *
        generalize ys[k] = y at *
        by_cases hv : x = y
        · have hv2 : ((bs x).toList != (bs y).toList) = false := by rw [bne, bs_beq, hv]; simp
          have hv3 : ((bs x).toList == (bs y).toList) = true := by rw [bne, Bool.not_eq_false'] at hv2; exact hv2
          have HV := Lib.hid hv
          clear hv
          go_wp2_with fail
          go_quiet (fail)
          go_wp2
          go_roundw
          case rel => exact ⟨k + 1, by omega, by go_num, HSt.out HV.out, below_drewN HB.out _⟩
          case measure => simp [intOf]; omega
        · have hv2 : ((bs x).toList != (bs y).toList) = true := by rw [bne, bs_beq]; simpa using hv
          have hv3 : ((bs x).toList == (bs y).toList) = false := by rw [bne, Bool.not_eq_true'] at hv2; exact hv2
          have HV := Lib.hid (HNe.out hv)
          clear hv
          go_wp2_with fail
          go_quiet (fail)
          go_wp2
          go_ret
          exact ⟨ret_bool (HFin.out false ⟨fun h => absurd h HV.out, fun h => by simp at h⟩).symm, below_drewN HB.out _⟩
      · have HE : Hid (xs = ys) := Lib.hid (by
          have h1 := HF.out
          have := HL.out
          rwa [List.take_of_length_le (by omega), List.take_of_length_le (by omega)] at h1)
        go_wp2
        go_ret
        exact ⟨ret_bool (HFin.out true ⟨fun _ => rfl, fun _ => HE.out⟩).symm, HB.out⟩
  · have hl2 : ((xs.length : Int) != ys.length) = true := by simp; omega
    have HN := Lib.hid hl
    clear hl
    go_enter Tryd.func15, Tryd.ntmps15
    go_wp2
    go_ret
    exact ⟨ret_bool (HFin.out false ⟨fun h => absurd (by rw [h]) HN.out, fun h => by simp at h⟩).symm, Below.refl _ _⟩

/-- The kind of a value. -/
def VM.knd (v : VM) : Int := if v.kind.tmod 5 < 0 then v.kind.tmod 5 + 5 else v.kind.tmod 5
theorem VM.knd_in (v : VM) : 0 ≤ v.knd ∧ v.knd < 5 := by
  unfold VM.knd
  have h := Int.tmod_lt_of_pos v.kind (show (0 : Int) < 5 by decide)
  have h2 := Int.lt_tmod_of_pos v.kind (show (0 : Int) < 5 by decide)
  split <;> omega
def numV (n : Int) : Int := if n < 0 then -(n + 1) else n
theorem numV_in {n : Int} (h : InInt n) : InInt (numV n) ∧ 0 ≤ numV n := by
  unfold numV InInt at *
  split <;> omega
end Go.Proofs.YtoicnokidlkjfaaDoor
