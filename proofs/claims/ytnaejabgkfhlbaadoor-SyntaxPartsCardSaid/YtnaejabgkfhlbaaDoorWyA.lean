/- Contracts of words and lists of strings (layers 11 and 12, and package slices at []string). -/
import Derived.Test.YtnaejabgkfhlbaaDoorRows
import Derived.Test.YtnaejabgkfhlbaaDoorMem
set_option linter.unusedSimpArgs false
set_option linter.unusedVariables false
namespace Go.Proofs.YtnaejabgkfhlbaaDoor
open Go.RowKit

def letterI (n : Int) : Bool := decide (97 ≤ n) && decide (n ≤ 122)
def digitI (n : Int) : Bool := decide (48 ≤ n) && decide (n ≤ 57)
def wordI (n : Int) : Bool := letterI n || digitI n
def wordC (c : UInt8) : Bool := wordI c.toNat
/-- A valid word. -/
def wordL : List UInt8 → Bool
  | [] => false
  | c :: r => letterI c.toNat && decide (r.length ≤ 19) && (c :: r).all wordC
def wordB (s : ByteArray) : Bool := wordL s.data.toList

set_option maxHeartbeats 400000 in
theorem lexLetter_any (n : Int) (w : World) : Calls Tryd.prog 78 #[.int .u8 n] w fun e w' => e = .returned (.bool (letterI n)) ∧ w = w' := by
  unfold letterI
  go_enter Tryd.func78, Tryd.ntmps78
  go_wp2
  all_goals go_ret
  all_goals exact ⟨by first | (simp_all; done) | (simp; omega) | (simp_all; omega), rfl⟩
set_option maxHeartbeats 400000 in
theorem lexDigit_any (n : Int) (w : World) : Calls Tryd.prog 80 #[.int .u8 n] w fun e w' => e = .returned (.bool (digitI n)) ∧ w = w' := by
  unfold digitI
  go_enter Tryd.func80, Tryd.ntmps80
  go_wp2
  all_goals go_ret
  all_goals exact ⟨by first | (simp_all; done) | (simp; omega) | (simp_all; omega), rfl⟩
set_option maxHeartbeats 400000 in
theorem rLetter_any (n : Int) (w : World) : Calls Tryd.prog 82 #[.int .u8 n] w fun e w' => e = .returned (.bool (letterI n)) ∧ w = w' := by
  unfold letterI
  go_enter Tryd.func82, Tryd.ntmps82
  go_wp2
  all_goals go_ret
  all_goals exact ⟨by first | (simp_all; done) | (simp; omega) | (simp_all; omega), rfl⟩
set_option maxHeartbeats 400000 in
theorem rDigit_any (n : Int) (w : World) : Calls Tryd.prog 83 #[.int .u8 n] w fun e w' => e = .returned (.bool (digitI n)) ∧ w = w' := by
  unfold digitI
  go_enter Tryd.func83, Tryd.ntmps83
  go_wp2
  all_goals go_ret
  all_goals exact ⟨by first | (simp_all; done) | (simp; omega) | (simp_all; omega), rfl⟩
set_option maxHeartbeats 400000 in
theorem lexWord1_any (n : Int) (w : World) : Calls Tryd.prog 79 #[.int .u8 n] w fun e w' => e = .returned (.bool (wordI n)) ∧ w = w' := by
  unfold wordI
  cases h : letterI n
  · go_enter Tryd.func79, Tryd.ntmps79
    go_wp2_with (first | (go_at_call 78; refine (lexLetter_any _ _).mono ?_; rintro e w' ⟨rfl, rfl⟩) | (go_at_call 80; refine (lexDigit_any _ _).mono ?_; rintro e w' ⟨rfl, rfl⟩))
    go_ret
    exact ⟨by simp, rfl⟩
  · go_enter Tryd.func79, Tryd.ntmps79
    go_wp2_with (first | (go_at_call 78; refine (lexLetter_any _ _).mono ?_; rintro e w' ⟨rfl, rfl⟩) | (go_at_call 80; refine (lexDigit_any _ _).mono ?_; rintro e w' ⟨rfl, rfl⟩))
    go_ret
    exact ⟨by simp, rfl⟩

theorem all_take_snoc (f : UInt8 → Bool) (s : ByteArray) (k : Nat) (h : k < s.size) : (s.data.toList.take (k + 1)).all f = ((s.data.toList.take k).all f && f s[k]) := by
  rw [List.take_succ_eq_append_getElem (by simpa using h), List.all_append]
  simp
  rfl
theorem takeWhile_at (f : UInt8 → Bool) (l : List UInt8) (k : Nat) (h : (l.take k).all f = true) (hk : k ≤ l.length) (hn : ∀ c, l[k]? = some c → f c = false) : (l.takeWhile f).length = k := by
  have e : l = l.take k ++ l.drop k := (List.take_append_drop k l).symm
  rw [e, List.takeWhile_append_of_pos (fun a ha => List.all_eq_true.1 h a ha), List.length_append, List.length_take, Nat.min_eq_left hk]
  rcases hd : l.drop k with _ | ⟨c, r⟩
  · simp
  · have hc : l[k]? = some c := by
      have : (l.drop k)[0]? = some c := by rw [hd]; rfl
      rwa [List.getElem?_drop] at this
    rw [List.takeWhile_cons_of_neg (by rw [hn c hc]; simp)]
    simp

set_option maxHeartbeats 400000 in
theorem lexSpan_any (s : ByteArray) (K : FuncId) (f : Int → Bool) (w : World) (hs : s.size ≤ 9223372036854775807)
    (hK : ∀ (args : Array Value) (w : World), (callFunc K args).run Tryd.prog w = .ok (.enter K args) w)
    (hF : ∀ (n : Int) (w : World), Calls Tryd.prog K #[.int .u8 n] w fun e w' => e = .returned (.bool (f n)) ∧ w = w') :
    Calls Tryd.prog 64 #[.string s, .func (.func K) #[] #[]] w fun e w' => e = .returned (.int .i64 ((s.data.toList.takeWhile (fun c => f c.toNat)).length : Nat)) ∧ w = w' := by
  have HFF := Lib.hid hF
  clear hF
  go_enter Tryd.func64, Tryd.ntmps64
  go_wp2
  go_loop [5] (fun i => ∃ k : Nat, k ≤ s.size ∧ i = .int .i64 k ∧ (s.data.toList.take k).all (fun c => f c.toNat) = true) (fun i => s.size - (intOf i).toNat)
  case atStart => exact ⟨0, Nat.zero_le _, rfl, rfl⟩
  case round =>
    obtain ⟨k, hk, rfl, hf⟩ := hrel
    by_cases hlt : k < s.size
    · have HA := Lib.hid (all_take_snoc (fun c => f c.toNat) s k hlt)
      have HF := Lib.hid hf
      clear hf
      cases hv : f s[k].toNat
      · go_wp2_with fail
        refine (HFF.out _ _).mono ?_
        rintro e w1 ⟨rfl, rfl⟩
        rw [hv]
        go_wp2
        go_ret
        have := takeWhile_at (fun c => f c.toNat) s.data.toList k HF.out (by simpa using hk) (fun c hc => by
          obtain ⟨_, rfl⟩ := List.getElem?_eq_some_iff.1 hc
          exact hv)
        exact ⟨by rw [this]; rfl, rfl⟩
      · go_wp2_with fail
        refine (HFF.out _ _).mono ?_
        rintro e w1 ⟨rfl, rfl⟩
        rw [hv]
        go_wp2
        go_round
        case rel => exact ⟨k + 1, by omega, by go_num, by rw [HA.out, HF.out]; simpa using hv⟩
        case measure => simp [intOf]; omega
    · have hkk : k = s.size := by omega
      have := takeWhile_at (fun c => f c.toNat) s.data.toList k hf (by simpa using hk) (fun c hc => by
        have := (List.getElem?_eq_some_iff.1 hc).1
        simp at this
        omega)
      have HT := Lib.hid this
      clear this hkk hf
      go_wp2
      go_ret
      exact ⟨by rw [HT.out]; rfl, rfl⟩
end Go.Proofs.YtnaejabgkfhlbaaDoor
