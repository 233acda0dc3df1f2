/- Contract of linguaref10.Has. -/
import Derived.Test.YtpcfmmiiokbjbaaDoorLst
namespace Go.Proofs.YtpcfmmiiokbjbaaDoor
open Go.RowKit

/-- A list has a string. -/
def hasB (xs : List (List UInt8)) (s : List UInt8) : Bool := xs.contains s
theorem contains_at {xs : List (List UInt8)} {s : List UInt8} {k : Nat} (hk : k < xs.length) (h : xs[k] = s) : hasB xs s = true := by
  unfold hasB
  rw [List.contains_iff_mem]
  exact h ▸ List.getElem_mem hk
theorem contains_no {xs : List (List UInt8)} {s : List UInt8} (h : ∀ j (hj : j < xs.length), xs[j] ≠ s) : hasB xs s = false := by
  unfold hasB
  cases hc : xs.contains s with
  | false => rfl
  | true =>
    rw [List.contains_iff_mem] at hc
    obtain ⟨j, hj, e⟩ := List.getElem_of_mem hc
    exact absurd e (h j hj)
set_option maxHeartbeats 1000000 in
theorem has_any (xs : List (List UInt8)) (s : List UInt8) (A : Option Addr) (c : Nat) (w : World) (hr : RdL 1 strE w w.heap.size A xs) (hx : xs.length ≤ 9223372036854775807) :
    Calls Tryd.prog 30 #[.slice A xs.length c, .string (bs s)] w fun e w' => e = .returned (.bool (hasB xs s)) ∧ w = w' := by
  have HR := Lib.hid hr
  clear hr
  go_enter Tryd.func30, Tryd.ntmps30
  go_wp2_with fail
  go_loop [5] (fun i => ∃ k : Nat, k ≤ xs.length ∧ i = .int .i64 k ∧ (∀ j (hj : j < xs.length), j < k → xs[j] ≠ s)) (fun i => xs.length - (intOf i).toNat)
  case atStart => exact ⟨0, Nat.zero_le _, rfl, fun j _ h => by omega⟩
  case round =>
    obtain ⟨k, hk, rfl, hall⟩ := hrel
    have HA := Lib.hid hall
    clear hall
    by_cases hlt : k < xs.length
    · obtain ⟨b, off, hA, hbl, hc⟩ := rd_str' HR.out hlt
      subst hA
      have HY := Lib.hid (fun h => contains_at (s := s) hlt h)
      have HS := Lib.hid (fun (h : xs[k] ≠ s) j (hj : j < xs.length) (hj2 : j < k + 1) => (by
        by_cases e : j = k
        · subst e; exact h
        · exact HA.out j hj (by omega) : xs[j] ≠ s))
      generalize xs[k] = x at *
      by_cases he : x = s
      · have HD := Lib.hid (HY.out he)
        have q : ((bs x).toList == (bs s).toList) = true := by rw [bs_beq, he]; simp
        clear he
        go_wp2_with fail
        go_ret
        exact ⟨by rw [HD.out]; rfl, rfl⟩
      · have HD := Lib.hid (HS.out he)
        have q : ((bs x).toList == (bs s).toList) = false := by rw [bs_beq]; simpa using he
        clear he
        go_wp2_with fail
        go_round
        case rel => exact ⟨k + 1, by omega, by go_num, HD.out⟩
        case measure => simp [intOf]; omega
    · have HD := Lib.hid (contains_no (fun j hj => HA.out j hj (by omega)))
      go_wp2_with fail
      go_ret
      exact ⟨by rw [HD.out]; rfl, rfl⟩
end Go.Proofs.YtpcfmmiiokbjbaaDoor
