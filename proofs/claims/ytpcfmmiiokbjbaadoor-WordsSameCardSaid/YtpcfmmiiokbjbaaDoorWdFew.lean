/- Few: at most n texts of at most 300 bytes (linguaref10); for seats without the wire's readers. -/
import Derived.Test.YtpcfmmiiokbjbaaDoorLst
namespace Go.Proofs.YtpcfmmiiokbjbaaDoor
open Go.RowKit

def fewB (xs : List (List UInt8)) (n : Int) : Bool := decide ((xs.length : Int) ≤ n) && xs.all fun x => decide (x.length ≤ 300)
theorem fewB_no {xs : List (List UInt8)} {n : Int} (h : n < xs.length) : fewB xs n = false := by simp [fewB]; omega
theorem fewB_at {xs : List (List UInt8)} {n : Int} {k : Nat} (hk : k < xs.length) (h : 300 < xs[k].length) : fewB xs n = false := by
  have : (xs.all fun x => decide (x.length ≤ 300)) = false := by
    rw [List.all_eq_false]
    exact ⟨xs[k], List.getElem_mem hk, by simp; omega⟩
  rw [fewB, this, Bool.and_false]
theorem fewB_yes {xs : List (List UInt8)} {n : Int} (h : (xs.length : Int) ≤ n) (hx : ∀ j (hj : j < xs.length), xs[j].length ≤ 300) : fewB xs n = true := by
  have : (xs.all fun x => decide (x.length ≤ 300)) = true := by
    rw [List.all_eq_true]
    intro x hm
    obtain ⟨j, hj, rfl⟩ := List.getElem_of_mem hm
    simpa using hx j hj
  rw [fewB, this]; simp; omega
theorem fewB_inv {xs : List (List UInt8)} {n : Int} (h : fewB xs n = true) : (xs.length : Int) ≤ n ∧ ∀ x ∈ xs, x.length ≤ 300 := by
  simpa [fewB] using h
set_option maxHeartbeats 1000000 in
theorem fewW_any (xs : List (List UInt8)) (n : Int) (A : Option Addr) (c : Nat) (w : World) (hr : RdL 1 strE w w.heap.size A xs) (hx : xs.length ≤ 9223372036854775807) (h0 : 0 ≤ n) :
    Calls Tryd.prog 8 #[.slice A xs.length c, .int .i64 n] w fun e w' => e = .returned (.bool (fewB xs n)) ∧ w = w' := by
  have HR := Lib.hid hr
  clear hr
  go_enter Tryd.func8, Tryd.ntmps8
  go_wp2_with fail
  go_loop [5] (fun i => ∃ k : Nat, k ≤ xs.length ∧ (k : Int) ≤ n + 1 ∧ i = .int .i64 k ∧ (∀ j (hj : j < xs.length), j < k → xs[j].length ≤ 300)) (fun i => xs.length - (intOf i).toNat)
  case atStart => exact ⟨0, Nat.zero_le _, by omega, rfl, fun j _ h => by omega⟩
  case round =>
    obtain ⟨k, hk, hkn, rfl, hall⟩ := hrel
    have HA := Lib.hid hall
    clear hall
    by_cases hlt : k < xs.length
    · by_cases hle : (k : Int) ≤ n
      · obtain ⟨b, off, hA, hbl, hc⟩ := rd_str' HR.out hlt
        subst hA
        have HNo := Lib.hid (fun h => fewB_at (n := n) hlt h)
        have HS := Lib.hid (fun (h : xs[k].length ≤ 300) j (hj : j < xs.length) (hj2 : j < k + 1) => (by
          by_cases e : j = k
          · subst e; exact h
          · exact HA.out j hj (by omega) : xs[j].length ≤ 300))
        generalize xs[k] = s at *
        have hsz : (bs s).size = s.length := bs_size s
        by_cases h3 : (300 : Int) < s.length
        · have HD := Lib.hid (HNo.out (by omega))
          have d3 : decide (300 < s.length) = true := by simp; omega
          go_wp2_with fail
          go_ret
          exact ⟨by rw [HD.out]; rfl, rfl⟩
        · have HD := Lib.hid (HS.out (by omega))
          have d3 : decide (300 < s.length) = false := by simp; omega
          go_wp2_with fail
          go_round
          case rel => exact ⟨k + 1, by omega, by omega, by go_num, HD.out⟩
          case measure => simp [intOf]; omega
      · have HD : Hid (fewB xs n = false) := Lib.hid (fewB_no (by omega))
        have d4 : decide ((xs.length : Int) ≤ n) = false := by simp; omega
        go_wp2_with fail
        go_ret
        exact ⟨by rw [HD.out]; rfl, rfl⟩
    · by_cases hle : (xs.length : Int) ≤ n
      · have HD : Hid (fewB xs n = true) := Lib.hid (fewB_yes hle (fun j hj => HA.out j hj (by omega)))
        go_wp2_with fail
        go_ret
        exact ⟨by rw [HD.out]; rfl, rfl⟩
      · have HD : Hid (fewB xs n = false) := Lib.hid (fewB_no (by omega))
        go_wp2_with fail
        go_ret
        exact ⟨by rw [HD.out]; rfl, rfl⟩
end Go.Proofs.YtpcfmmiiokbjbaaDoor
