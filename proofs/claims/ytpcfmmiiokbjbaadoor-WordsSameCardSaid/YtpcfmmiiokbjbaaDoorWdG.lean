/- Contract of the reference's Line. -/
import Derived.Test.YtpcfmmiiokbjbaaDoorWdF
namespace Go.Proofs.YtpcfmmiiokbjbaaDoor
open Go.RowKit

set_option maxHeartbeats 1000000 in
theorem lineR_any (l : List UInt8) (most : Int) (w : World) (hl : l.length ≤ 1000000000000) (hm : InInt most) :
    Calls Tryd.prog 15 #[.string (bs l), .int .i64 most] w fun e w' => e = .returned (.string (bs (lineF l most))) ∧ w = w' := by
  have hsz : (bs l).size = l.length := bs_size l
  have hm1 := hm.1
  have hm2 := hm.2
  clear hm
  go_enter Tryd.func15, Tryd.ntmps15
  go_wp2_with fail
  go_loop [5] (fun i => ∃ k : Nat, k ≤ l.length ∧ i = .int .i64 k ∧ (k : Int) ≤ max most 0 ∧ (∀ j (hj : j < l.length), j < k → l[j] ≠ 10)) (fun i => l.length - (intOf i).toNat)
  case atStart => exact ⟨0, Nat.zero_le _, rfl, by omega, fun j _ h => by omega⟩
  case round =>
    obtain ⟨k, hk, rfl, hkm, hall⟩ := hrel
    have HAl := Lib.hid hall
    clear hall
    by_cases hlt : k < l.length
    · by_cases hmt : (k : Int) < most
      · have hget : ∀ h, (bs l)[k]'h = l[k]'hlt := fun h => rfl
        have HS := Lib.hid (fun (h : l[k]'hlt ≠ 10) j (hj : j < l.length) (hj2 : j < k + 1) => (by
          by_cases e : j = k
          · subst e; exact h
          · exact HAl.out j hj (by omega) : l[j] ≠ 10))
        have HD0 := Lib.hid (fun (h : l[k]'hlt = 10) => line_stop (most := most) HAl.out hk hkm (.inr (.inr ⟨hlt, h⟩)))
        generalize l[k]'hlt = c at *
        by_cases hc : c = 10
        · have HD := Lib.hid (HD0.out hc)
          have q : ((c.toNat : Int) != 10) = false := by rw [hc]; decide
          clear hc
          go_wp2_with fail
          go_ret
          refine ⟨?_, rfl⟩
          rw [HD.out]
          exact congrArg (fun x => Ending.returned (.string x)) (bs_take l k)
        · have HA2 := Lib.hid (HS.out hc)
          have q : ((c.toNat : Int) != 10) = true := by
            have : c.toNat ≠ 10 := fun h => hc (by rw [← UInt8.toNat_inj]; exact h)
            simp; omega
          clear hc
          go_wp2_with fail
          go_round
          case rel => exact ⟨k + 1, by omega, by go_num, by omega, HA2.out⟩
          case measure => simp [intOf]; omega
      · have HD := Lib.hid (line_stop (most := most) HAl.out hk hkm (.inr (.inl (by omega))))
        go_wp2_with fail
        go_ret
        refine ⟨?_, rfl⟩
        rw [HD.out]
        exact congrArg (fun x => Ending.returned (.string x)) (bs_take l k)
    · have HD := Lib.hid (line_stop (most := most) HAl.out hk hkm (.inl (by omega)))
      go_wp2_with fail
      go_ret
      refine ⟨?_, rfl⟩
      rw [HD.out]
      exact congrArg (fun x => Ending.returned (.string x)) (bs_take l k)
end Go.Proofs.YtpcfmmiiokbjbaaDoor
