/- Contracts of syntax.yes and of linguaref12: word, number. -/
import Derived.Test.YtnaejabgkfhlbaaDoorSyP
set_option linter.unusedSimpArgs false
set_option linter.unusedVariables false
namespace Go.Proofs.YtnaejabgkfhlbaaDoor
open Go.RowKit

def yesW (b : Bool) : List UInt8 := if b then kYes else kNo
theorem yes_any (q : Bool) (w : World) : Calls Tryd.prog 51 #[.bool q] w fun e w' => e = .returned (.string (bs (yesW q))) ∧ w = w' := by
  cases q
  · go_enter Tryd.func51, Tryd.ntmps51
    go_wp2_with fail
    go_ret
    exact ⟨rfl, rfl⟩
  · go_enter Tryd.func51, Tryd.ntmps51
    go_wp2_with fail
    go_ret
    exact ⟨rfl, rfl⟩
theorem rWordY_any (q : Bool) (w : World) : Calls Tryd.prog 56 #[.bool q] w fun e w' => e = .returned (.string (bs (yesW q))) ∧ w = w' := by
  cases q
  · go_enter Tryd.func56, Tryd.ntmps56
    go_wp2_with fail
    go_ret
    exact ⟨rfl, rfl⟩
  · go_enter Tryd.func56, Tryd.ntmps56
    go_wp2_with fail
    go_ret
    exact ⟨rfl, rfl⟩
theorem dig_at (d : Nat) (h : d < 10) : (⟨#[48, 49, 50, 51, 52, 53, 54, 55, 56, 57]⟩ : ByteArray).extract d (d + 1) = bs [UInt8.ofNat (48 + d)] := by
  have : ∀ i : Fin 10, ((⟨#[48, 49, 50, 51, 52, 53, 54, 55, 56, 57]⟩ : ByteArray).extract i.val (i.val + 1)).data.toList = [UInt8.ofNat (48 + i.val)] := by decide
  have h1 := this ⟨d, h⟩
  apply ByteArray.ext
  exact Array.toList_inj.1 h1
/-- One more digit. -/
theorem dig_step {N m : Nat} {t : List UInt8} (h : Lib.decDigits N = Lib.decDigits m ++ t) : (0 < m / 10 → Lib.decDigits N = Lib.decDigits (m / 10) ++ UInt8.ofNat (48 + m % 10) :: t) ∧ (m / 10 = 0 → Lib.decDigits N = UInt8.ofNat (48 + m % 10) :: t) := by
  by_cases hm : m < 10
  · rw [dd_small hm] at h
    refine ⟨fun h2 => by omega, fun _ => ?_⟩
    rw [h, Nat.mod_eq_of_lt hm]
    rfl
  · rw [dd_big hm, List.append_assoc] at h
    exact ⟨fun _ => h, fun h2 => by omega⟩
def NumR (N : Nat) (a s : Value) : Prop := ∃ (m : Nat) (t : List UInt8), m ≤ 1073741824 ∧ a = .int .i64 m ∧ s = .string (bs t) ∧ t.length ≤ 20 ∧ ((t = [] ∧ m = N) ∨ (t ≠ [] ∧ (0 < m → Lib.decDigits N = Lib.decDigits m ++ t) ∧ (m = 0 → Lib.decDigits N = t)))
def numLeft (a s : Value) : Nat := match s with
  | .string b => if b.size = 0 then 10000000000 else (intOf a).toNat
  | _ => 0
theorem numLeft_bs (a : Value) (t : List UInt8) : numLeft a (.string (bs t)) = if t.length = 0 then 10000000000 else (intOf a).toNat := rfl
set_option maxRecDepth 100000 in
set_option maxHeartbeats 1000000 in
theorem rNumF_any (N : Nat) (w : World) (hN : N ≤ 1073741824) : Calls Tryd.prog 57 #[.int .i64 N] w fun e w' => e = .returned (.string (bs (Lib.decDigits N))) ∧ w = w' := by
  go_enter Tryd.func57, Tryd.ntmps57
  go_wp2_with fail
  go_loop [0, 3] (NumR N) (numLeft)
  case atStart => exact ⟨N, [], hN, rfl, rfl, by simp, .inl ⟨rfl, rfl⟩⟩
  case round =>
    obtain ⟨m, t, hm, rfl, rfl, ht, hor⟩ := hrel
    have HO := Lib.hid hor
    clear hor
    have htl : (bs t).toList = t := bs_toList t
    have e0 : (⟨#[]⟩ : ByteArray).toList = [] := bs_toList []
    have hx := dig_at (m % 10) (by omega)
    have hlen := dd_len 9 N (by omega)
    by_cases hgo : 0 < m ∨ t = []
    · have hD : Hid (Lib.decDigits N = Lib.decDigits m ++ t) := Lib.hid (by
        rcases HO.out with ⟨h1, h2⟩ | ⟨h1, h2, h3⟩
        · rw [h1, h2, List.append_nil]
        · rcases hgo with h | h
          · exact h2 h
          · exact absurd h h1)
      have HS := Lib.hid (dig_step hD.out)
      have HL : Hid (t.length + 1 ≤ 20) := Lib.hid (by
        have h1 := congrArg List.length hD.out
        rw [List.length_append] at h1
        have h2 : 1 ≤ (Lib.decDigits m).length := by
          have := dd_ne m
          cases hq : Lib.decDigits m with
          | nil => exact absurd hq this
          | cons a b => simp
        omega)
      clear hlen HO
      generalize UInt8.ofNat (48 + m % 10) = d at *
      by_cases hm0 : 0 < m
      · have hgi : (0 : Int) < m := by omega
        clear hgo
        have hs1 : (bs [d]).size = 1 := bs_size _
        have hs2 : (bs t).size = t.length := bs_size t
        have hl2 := HL.out
        have hap : bs [d] ++ bs t = bs (d :: t) := bs_app [d] t
        go_wp2_with fail
        go_round
        case rel => exact ⟨m / 10, d :: t, by omega, by go_num, rfl, by simpa using hl2, .inr ⟨by simp, HS.out.1, HS.out.2⟩⟩
        case measure =>
          rw [numLeft_bs, numLeft_bs]
          simp only [intOf, List.length_cons]
          rw [if_neg (by omega)]
          split <;> omega
      · obtain rfl : m = 0 := by omega
        have hT : t = [] := by rcases hgo with h | h; omega; exact h
        subst hT
        clear hgo
        have hs1 : (bs [d]).size = 1 := bs_size _
        have hs2 : (bs []).size = 0 := bs_size []
        have hap : bs [d] ++ bs [] = bs [d] := bs_app [d] []
        go_wp2_with fail
        go_round
        case rel => exact ⟨0, [d], by omega, rfl, rfl, by simp, .inr ⟨by simp, HS.out.1, HS.out.2⟩⟩
        case measure =>
          rw [numLeft_bs, numLeft_bs]
          simp [intOf]
    · have hm0 : m = 0 := by omega
      have hne : t ≠ [] := fun h => hgo (.inr h)
      have HD : Hid (Lib.decDigits N = t) := Lib.hid (by
        rcases HO.out with ⟨h1, h2⟩ | ⟨h1, h2, h3⟩
        · exact absurd h1 hne
        · exact h3 hm0)
      have hb : (t == []) = false := by simpa using hne
      subst hm0
      clear hgo hne hlen
      go_wp2_with fail
      go_ret
      exact ⟨by rw [HD.out]; rfl, rfl⟩
end Go.Proofs.YtnaejabgkfhlbaaDoor
