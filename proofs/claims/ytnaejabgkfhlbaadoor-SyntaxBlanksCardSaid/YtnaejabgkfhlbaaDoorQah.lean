/- Contracts and plain laws, joined: WyA, WyB. -/
import Derived.Test.YtnaejabgkfhlbaaDoorRows
import Derived.Test.YtnaejabgkfhlbaaDoorQag
/- Contracts of words and lists of strings (layers 11 and 12, and package slices at []string). -/
set_option linter.unusedSimpArgs false
set_option linter.unusedVariables false
namespace Go.Proofs.YtnaejabgkfhlbaaDoor
open Go.RowKit

def letterI (n : Int) : Bool := decide (97 ≤ n) && decide (n ≤ 122)
def digitI (n : Int) : Bool := decide (48 ≤ n) && decide (n ≤ 57)
def wordI (n : Int) : Bool := letterI n || digitI n
def wordC (c : UInt8) : Bool := wordI c.toNat
/-- A valid word. -/
def wordL : List UInt8 → Bool
  | [] => false
  | c :: r => letterI c.toNat && decide (r.length ≤ 19) && (c :: r).all wordC
def wordB (s : ByteArray) : Bool := wordL s.data.toList

set_option maxHeartbeats 400000 in
theorem lexLetter_any (n : Int) (w : World) : Calls Tryd.prog 78 #[.int .u8 n] w fun e w' => e = .returned (.bool (letterI n)) ∧ w = w' := by
  unfold letterI
  go_enter Tryd.func78, Tryd.ntmps78
  go_wp2
  all_goals go_ret
  all_goals exact ⟨by first | (simp_all; done) | (simp; omega) | (simp_all; omega), rfl⟩
set_option maxHeartbeats 400000 in
theorem lexDigit_any (n : Int) (w : World) : Calls Tryd.prog 80 #[.int .u8 n] w fun e w' => e = .returned (.bool (digitI n)) ∧ w = w' := by
  unfold digitI
  go_enter Tryd.func80, Tryd.ntmps80
  go_wp2
  all_goals go_ret
  all_goals exact ⟨by first | (simp_all; done) | (simp; omega) | (simp_all; omega), rfl⟩
set_option maxHeartbeats 400000 in
theorem rLetter_any (n : Int) (w : World) : Calls Tryd.prog 82 #[.int .u8 n] w fun e w' => e = .returned (.bool (letterI n)) ∧ w = w' := by
  unfold letterI
  go_enter Tryd.func82, Tryd.ntmps82
  go_wp2
  all_goals go_ret
  all_goals exact ⟨by first | (simp_all; done) | (simp; omega) | (simp_all; omega), rfl⟩
set_option maxHeartbeats 400000 in
theorem rDigit_any (n : Int) (w : World) : Calls Tryd.prog 83 #[.int .u8 n] w fun e w' => e = .returned (.bool (digitI n)) ∧ w = w' := by
  unfold digitI
  go_enter Tryd.func83, Tryd.ntmps83
  go_wp2
  all_goals go_ret
  all_goals exact ⟨by first | (simp_all; done) | (simp; omega) | (simp_all; omega), rfl⟩
set_option maxHeartbeats 400000 in
theorem lexWord1_any (n : Int) (w : World) : Calls Tryd.prog 79 #[.int .u8 n] w fun e w' => e = .returned (.bool (wordI n)) ∧ w = w' := by
  unfold wordI
  cases h : letterI n
  · go_enter Tryd.func79, Tryd.ntmps79
    go_wp2_with (first | (go_at_call 78; refine (lexLetter_any _ _).mono ?_; rintro e w' ⟨rfl, rfl⟩) | (go_at_call 80; refine (lexDigit_any _ _).mono ?_; rintro e w' ⟨rfl, rfl⟩))
    go_ret
    exact ⟨by simp, rfl⟩
  · go_enter Tryd.func79, Tryd.ntmps79
    go_wp2_with (first | (go_at_call 78; refine (lexLetter_any _ _).mono ?_; rintro e w' ⟨rfl, rfl⟩) | (go_at_call 80; refine (lexDigit_any _ _).mono ?_; rintro e w' ⟨rfl, rfl⟩))
    go_ret
    exact ⟨by simp, rfl⟩

theorem all_take_snoc (f : UInt8 → Bool) (s : ByteArray) (k : Nat) (h : k < s.size) : (s.data.toList.take (k + 1)).all f = ((s.data.toList.take k).all f && f s[k]) := by
  rw [List.take_succ_eq_append_getElem (by simpa using h), List.all_append]
  simp
  rfl
theorem takeWhile_at (f : UInt8 → Bool) (l : List UInt8) (k : Nat) (h : (l.take k).all f = true) (hk : k ≤ l.length) (hn : ∀ c, l[k]? = some c → f c = false) : (l.takeWhile f).length = k := by
  have e : l = l.take k ++ l.drop k := (List.take_append_drop k l).symm
  rw [e, List.takeWhile_append_of_pos (fun a ha => List.all_eq_true.1 h a ha), List.length_append, List.length_take, Nat.min_eq_left hk]
  rcases hd : l.drop k with _ | ⟨c, r⟩
  · simp
  · have hc : l[k]? = some c := by
      have : (l.drop k)[0]? = some c := by rw [hd]; rfl
      rwa [List.getElem?_drop] at this
    rw [List.takeWhile_cons_of_neg (by rw [hn c hc]; simp)]
    simp

set_option maxHeartbeats 400000 in
theorem lexSpan_any (s : ByteArray) (K : FuncId) (f : Int → Bool) (w : World) (hs : s.size ≤ 9223372036854775807)
    (hK : ∀ (args : Array Value) (w : World), (callFunc K args).run Tryd.prog w = .ok (.enter K args) w)
    (hF : ∀ (n : Int) (w : World), Calls Tryd.prog K #[.int .u8 n] w fun e w' => e = .returned (.bool (f n)) ∧ w = w') :
    Calls Tryd.prog 64 #[.string s, .func (.func K) #[] #[]] w fun e w' => e = .returned (.int .i64 ((s.data.toList.takeWhile (fun c => f c.toNat)).length : Nat)) ∧ w = w' := by
  have HFF := Lib.hid hF
  clear hF
  go_enter Tryd.func64, Tryd.ntmps64
  go_wp2
  go_loop [5] (fun i => ∃ k : Nat, k ≤ s.size ∧ i = .int .i64 k ∧ (s.data.toList.take k).all (fun c => f c.toNat) = true) (fun i => s.size - (intOf i).toNat)
  case atStart => exact ⟨0, Nat.zero_le _, rfl, rfl⟩
  case round =>
    obtain ⟨k, hk, rfl, hf⟩ := hrel
    by_cases hlt : k < s.size
    · have HA := Lib.hid (all_take_snoc (fun c => f c.toNat) s k hlt)
      have HF := Lib.hid hf
      clear hf
      cases hv : f s[k].toNat
      · go_wp2_with fail
        refine (HFF.out _ _).mono ?_
        rintro e w1 ⟨rfl, rfl⟩
        rw [hv]
        go_wp2
        go_ret
        have := takeWhile_at (fun c => f c.toNat) s.data.toList k HF.out (by simpa using hk) (fun c hc => by
          obtain ⟨_, rfl⟩ := List.getElem?_eq_some_iff.1 hc
          exact hv)
        exact ⟨by rw [this]; rfl, rfl⟩
      · go_wp2_with fail
        refine (HFF.out _ _).mono ?_
        rintro e w1 ⟨rfl, rfl⟩
        rw [hv]
        go_wp2
        go_round
        case rel => exact ⟨k + 1, by omega, by go_num, by rw [HA.out, HF.out]; simpa using hv⟩
        case measure => simp [intOf]; omega
    · have hkk : k = s.size := by omega
      have := takeWhile_at (fun c => f c.toNat) s.data.toList k hf (by simpa using hk) (fun c hc => by
        have := (List.getElem?_eq_some_iff.1 hc).1
        simp at this
        omega)
      have HT := Lib.hid this
      clear this hkk hf
      go_wp2
      go_ret
      exact ⟨by rw [HT.out]; rfl, rfl⟩
end Go.Proofs.YtnaejabgkfhlbaaDoor
/- Contracts of words (layers 11 and 12). -/
set_option linter.unusedSimpArgs false
set_option linter.unusedVariables false
namespace Go.Proofs.YtnaejabgkfhlbaaDoor
open Go.RowKit

theorem enters_lexWord1 : ∀ (args : Array Value) (w : World), (callFunc 79 args).run Tryd.prog w = .ok (.enter 79 args) w := fun _ _ => by kernel_rfl
theorem size_toList (s : ByteArray) : s.data.toList.length = s.size := by rw [Array.length_toList]; rfl
theorem wordB_eq (s : ByteArray) (h : 0 < s.size) : wordB s = (letterI s[0].toNat && (decide (s.size ≤ 20) && s.data.toList.all wordC)) := by
  unfold wordB
  have hl := size_toList s
  rcases hd : s.data.toList with _ | ⟨c, r⟩
  · rw [hd] at hl; simp at hl; omega
  · have h0 : s.data.toList[0]? = some c := by rw [hd]; rfl
    obtain ⟨_, hc⟩ := List.getElem?_eq_some_iff.1 h0
    have hc' : s[0] = c := hc
    rw [hd] at hl
    simp only [List.length_cons] at hl
    rw [wordL, hc', Bool.and_assoc]
    congr 2
    rw [Bool.eq_iff_iff]
    simp
    omega
theorem wordB_empty (s : ByteArray) (h : s.size = 0) : wordB s = false := by
  have hl := size_toList s
  rw [h] at hl
  unfold wordB
  rw [List.eq_nil_of_length_eq_zero hl]
  rfl
theorem takeWhile_all (f : UInt8 → Bool) (l : List UInt8) : decide ((l.takeWhile f).length = l.length) = l.all f := by
  induction l with
  | nil => rfl
  | cons c r ih =>
    by_cases h : f c = true
    · rw [List.takeWhile_cons_of_pos h, List.all_cons, h, Bool.true_and, ← ih]
      simp
    · rw [List.takeWhile_cons_of_neg h, List.all_cons]
      simp [h]

set_option maxHeartbeats 400000 in
theorem lexWord_any (s : ByteArray) (w : World) (hs : s.size ≤ 9223372036854775807) : Calls Tryd.prog 58 #[.string s] w fun e w' => e = .returned (.bool (wordB s)) ∧ w = w' := by
  by_cases h0 : s.size = 0
  · have hw := wordB_empty s h0
    have hl := size_toList s
    rw [h0] at hl
    have he : s.toList = [] := by rw [ByteArray.toList_eq]; exact List.eq_nil_of_length_eq_zero hl
    rw [hw]
    clear hw h0 hl
    go_enter Tryd.func58, Tryd.ntmps58
    go_wp2
    go_ret
    exact ⟨rfl, rfl⟩
  · have hp : 0 < s.size := by omega
    have hw := wordB_eq s hp
    have hl := size_toList s
    have hne : ¬ s.toList = [] := by rw [ByteArray.toList_eq]; intro h; rw [h] at hl; simp at hl; omega
    have hne2 : s.toList.isEmpty = false := by rw [List.isEmpty_eq_false_iff]; exact hne
    have ht := takeWhile_all wordC s.data.toList
    rw [hl] at ht
    have HW := Lib.hid hw
    have HT := Lib.hid ht
    clear hw h0 hl ht
    cases hv : letterI s[0].toNat
    · go_enter Tryd.func58, Tryd.ntmps58
      go_wp2_with (first | (go_at_call 78; refine (lexLetter_any _ _).mono ?_; rintro e w' ⟨rfl, rfl⟩))
      go_ret
      exact ⟨by rw [HW.out, hv]; rfl, rfl⟩
    · by_cases h20 : s.size ≤ 20
      · go_enter Tryd.func58, Tryd.ntmps58
        go_wp2_with (first | (go_at_call 78; refine (lexLetter_any _ _).mono ?_; rintro e w' ⟨rfl, rfl⟩) | (go_at_call 64; refine (lexSpan_any s 79 wordI _ hs enters_lexWord1 lexWord1_any).mono ?_; rintro e w' ⟨rfl, rfl⟩))
        go_ret
        refine ⟨?_, rfl⟩
        rw [HW.out, hv, ← HT.out]
        refine ret_bool ?_
        rw [Bool.eq_iff_iff]
        simp [h20]
        exact Int.ofNat_inj
      · go_enter Tryd.func58, Tryd.ntmps58
        go_wp2_with (first | (go_at_call 78; refine (lexLetter_any _ _).mono ?_; rintro e w' ⟨rfl, rfl⟩))
        go_ret
        exact ⟨by rw [HW.out, hv]; simp [h20], rfl⟩

theorem all_drop1 (f : UInt8 → Bool) (s : ByteArray) (h : 0 < s.size) : s.data.toList.all f = (f s[0] && (s.data.toList.drop 1).all f) := by
  conv => lhs; rw [← List.drop_zero (l := s.data.toList), List.drop_eq_getElem_cons (by simpa using h)]
  rfl
theorem all_drop_step (f : UInt8 → Bool) (s : ByteArray) (k : Nat) (h : k < s.size) : (s.data.toList.drop k).all f = (f s[k] && (s.data.toList.drop (k + 1)).all f) := by
  rw [List.drop_eq_getElem_cons (by simpa using h)]
  rfl

set_option maxHeartbeats 400000 in
theorem rWord_any (s : ByteArray) (w : World) (hs : s.size ≤ 9223372036854775807) : Calls Tryd.prog 62 #[.string s] w fun e w' => e = .returned (.bool (wordB s)) ∧ w = w' := by
  by_cases h0 : s.size = 0
  · have hw := wordB_empty s h0
    rw [hw]
    clear hw
    go_enter Tryd.func62, Tryd.ntmps62
    go_wp2
    go_ret
    exact ⟨rfl, rfl⟩
  · have hp : 0 < s.size := by omega
    have hw := wordB_eq s hp
    have HW := Lib.hid hw
    clear hw h0
    by_cases h20 : s.size ≤ 20
    · cases hv : letterI s[0].toNat
      · go_enter Tryd.func62, Tryd.ntmps62
        go_wp2_with (first | (go_at_call 82; refine (rLetter_any _ _).mono ?_; rintro e w' ⟨rfl, rfl⟩))
        go_ret
        exact ⟨by rw [HW.out, hv]; rfl, rfl⟩
      · have hall := all_drop1 wordC s hp
        have h1 : wordC s[0] = true := by simp [wordC, wordI, hv]
        rw [h1, Bool.true_and] at hall
        have hw2 : wordB s = (s.data.toList.drop 1).all wordC := by rw [HW.out, hv, ← hall]; simp [h20]
        have HW2 := Lib.hid hw2
        clear hall h1 hw2
        go_enter Tryd.func62, Tryd.ntmps62
        go_wp2_with (first | (go_at_call 82; refine (rLetter_any _ _).mono ?_; rintro e w' ⟨rfl, rfl⟩))
        go_loop [3] (fun i => ∃ k : Nat, 1 ≤ k ∧ k ≤ s.size ∧ i = .int .i64 k ∧ (s.data.toList.drop k).all wordC = wordB s) (fun i => s.size - (intOf i).toNat)
        case atStart => exact ⟨1, by omega, by omega, rfl, HW2.out.symm⟩
        case round =>
          obtain ⟨k, hk1, hk, rfl, hf⟩ := hrel
          by_cases hlt : k < s.size
          · have HA := Lib.hid (all_drop_step wordC s k hlt)
            have HF := Lib.hid hf
            clear hf hv
            cases hv : letterI s[k].toNat
            · cases hd : digitI s[k].toNat
              · go_wp2_with (first | (go_at_call 82; refine (rLetter_any _ _).mono ?_; rintro e w' ⟨rfl, rfl⟩) | (go_at_call 83; refine (rDigit_any _ _).mono ?_; rintro e w' ⟨rfl, rfl⟩))
                go_ret
                exact ⟨by rw [← HF.out, HA.out]; simp [wordC, wordI, hv, hd], rfl⟩
              · go_wp2_with (first | (go_at_call 82; refine (rLetter_any _ _).mono ?_; rintro e w' ⟨rfl, rfl⟩) | (go_at_call 83; refine (rDigit_any _ _).mono ?_; rintro e w' ⟨rfl, rfl⟩))
                go_round
                case rel => exact ⟨k + 1, by omega, by omega, by go_num, by rw [← HF.out, HA.out]; simp [wordC, wordI, hv, hd]⟩
                case measure => simp [intOf]; omega
            · go_wp2_with (first | (go_at_call 82; refine (rLetter_any _ _).mono ?_; rintro e w' ⟨rfl, rfl⟩))
              go_round
              case rel => exact ⟨k + 1, by omega, by omega, by go_num, by rw [← HF.out, HA.out]; simp [wordC, wordI, hv]⟩
              case measure => simp [intOf]; omega
          · have hft : wordB s = true := by rw [← hf, List.drop_of_length_le (by rw [size_toList]; omega)]; rfl
            have HFT := Lib.hid hft
            clear hf hft hv
            go_wp2
            go_ret
            exact ⟨by rw [HFT.out]; rfl, rfl⟩
    · go_enter Tryd.func62, Tryd.ntmps62
      go_wp2
      go_ret
      exact ⟨by rw [HW.out]; simp [h20], rfl⟩
end Go.Proofs.YtnaejabgkfhlbaaDoor
