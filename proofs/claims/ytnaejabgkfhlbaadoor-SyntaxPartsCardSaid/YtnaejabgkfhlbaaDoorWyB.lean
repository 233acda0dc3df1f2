/- Contracts of words (layers 11 and 12). -/
import Derived.Test.YtnaejabgkfhlbaaDoorWyA
set_option linter.unusedSimpArgs false
set_option linter.unusedVariables false
namespace Go.Proofs.YtnaejabgkfhlbaaDoor
open Go.RowKit

theorem enters_lexWord1 : ∀ (args : Array Value) (w : World), (callFunc 79 args).run Tryd.prog w = .ok (.enter 79 args) w := fun _ _ => by kernel_rfl
theorem size_toList (s : ByteArray) : s.data.toList.length = s.size := by rw [Array.length_toList]; rfl
theorem wordB_eq (s : ByteArray) (h : 0 < s.size) : wordB s = (letterI s[0].toNat && (decide (s.size ≤ 20) && s.data.toList.all wordC)) := by
  unfold wordB
  have hl := size_toList s
  rcases hd : s.data.toList with _ | ⟨c, r⟩
  · rw [hd] at hl; simp at hl; omega
  · have h0 : s.data.toList[0]? = some c := by rw [hd]; rfl
    obtain ⟨_, hc⟩ := List.getElem?_eq_some_iff.1 h0
    have hc' : s[0] = c := hc
    rw [hd] at hl
    simp only [List.length_cons] at hl
    rw [wordL, hc', Bool.and_assoc]
    congr 2
    rw [Bool.eq_iff_iff]
    simp
    omega
theorem wordB_empty (s : ByteArray) (h : s.size = 0) : wordB s = false := by
  have hl := size_toList s
  rw [h] at hl
  unfold wordB
  rw [List.eq_nil_of_length_eq_zero hl]
  rfl
theorem takeWhile_all (f : UInt8 → Bool) (l : List UInt8) : decide ((l.takeWhile f).length = l.length) = l.all f := by
  induction l with
  | nil => rfl
  | cons c r ih =>
    by_cases h : f c = true
    · rw [List.takeWhile_cons_of_pos h, List.all_cons, h, Bool.true_and, ← ih]
      simp
    · rw [List.takeWhile_cons_of_neg h, List.all_cons]
      simp [h]

set_option maxHeartbeats 400000 in
theorem lexWord_any (s : ByteArray) (w : World) (hs : s.size ≤ 9223372036854775807) : Calls Tryd.prog 58 #[.string s] w fun e w' => e = .returned (.bool (wordB s)) ∧ w = w' := by
  by_cases h0 : s.size = 0
  · have hw := wordB_empty s h0
    have hl := size_toList s
    rw [h0] at hl
    have he : s.toList = [] := by rw [ByteArray.toList_eq]; exact List.eq_nil_of_length_eq_zero hl
    rw [hw]
    clear hw h0 hl
    go_enter Tryd.func58, Tryd.ntmps58
    go_wp2
    go_ret
    exact ⟨rfl, rfl⟩
  · have hp : 0 < s.size := by omega
    have hw := wordB_eq s hp
    have hl := size_toList s
    have hne : ¬ s.toList = [] := by rw [ByteArray.toList_eq]; intro h; rw [h] at hl; simp at hl; omega
    have hne2 : s.toList.isEmpty = false := by rw [List.isEmpty_eq_false_iff]; exact hne
    have ht := takeWhile_all wordC s.data.toList
    rw [hl] at ht
    have HW := Lib.hid hw
    have HT := Lib.hid ht
    clear hw h0 hl ht
    cases hv : letterI s[0].toNat
    · go_enter Tryd.func58, Tryd.ntmps58
      go_wp2_with (first | (go_at_call 78; refine (lexLetter_any _ _).mono ?_; rintro e w' ⟨rfl, rfl⟩))
      go_ret
      exact ⟨by rw [HW.out, hv]; rfl, rfl⟩
    · by_cases h20 : s.size ≤ 20
      · go_enter Tryd.func58, Tryd.ntmps58
        go_wp2_with (first | (go_at_call 78; refine (lexLetter_any _ _).mono ?_; rintro e w' ⟨rfl, rfl⟩) | (go_at_call 64; refine (lexSpan_any s 79 wordI _ hs enters_lexWord1 lexWord1_any).mono ?_; rintro e w' ⟨rfl, rfl⟩))
        go_ret
        refine ⟨?_, rfl⟩
        rw [HW.out, hv, ← HT.out]
        refine ret_bool ?_
        rw [Bool.eq_iff_iff]
        simp [h20]
        exact Int.ofNat_inj
      · go_enter Tryd.func58, Tryd.ntmps58
        go_wp2_with (first | (go_at_call 78; refine (lexLetter_any _ _).mono ?_; rintro e w' ⟨rfl, rfl⟩))
        go_ret
        exact ⟨by rw [HW.out, hv]; simp [h20], rfl⟩

theorem all_drop1 (f : UInt8 → Bool) (s : ByteArray) (h : 0 < s.size) : s.data.toList.all f = (f s[0] && (s.data.toList.drop 1).all f) := by
  conv => lhs; rw [← List.drop_zero (l := s.data.toList), List.drop_eq_getElem_cons (by simpa using h)]
  rfl
theorem all_drop_step (f : UInt8 → Bool) (s : ByteArray) (k : Nat) (h : k < s.size) : (s.data.toList.drop k).all f = (f s[k] && (s.data.toList.drop (k + 1)).all f) := by
  rw [List.drop_eq_getElem_cons (by simpa using h)]
  rfl

set_option maxHeartbeats 400000 in
theorem rWord_any (s : ByteArray) (w : World) (hs : s.size ≤ 9223372036854775807) : Calls Tryd.prog 62 #[.string s] w fun e w' => e = .returned (.bool (wordB s)) ∧ w = w' := by
  by_cases h0 : s.size = 0
  · have hw := wordB_empty s h0
    rw [hw]
    clear hw
    go_enter Tryd.func62, Tryd.ntmps62
    go_wp2
    go_ret
    exact ⟨rfl, rfl⟩
  · have hp : 0 < s.size := by omega
    have hw := wordB_eq s hp
    have HW := Lib.hid hw
    clear hw h0
    by_cases h20 : s.size ≤ 20
    · cases hv : letterI s[0].toNat
      · go_enter Tryd.func62, Tryd.ntmps62
        go_wp2_with (first | (go_at_call 82; refine (rLetter_any _ _).mono ?_; rintro e w' ⟨rfl, rfl⟩))
        go_ret
        exact ⟨by rw [HW.out, hv]; rfl, rfl⟩
      · have hall := all_drop1 wordC s hp
        have h1 : wordC s[0] = true := by simp [wordC, wordI, hv]
        rw [h1, Bool.true_and] at hall
        have hw2 : wordB s = (s.data.toList.drop 1).all wordC := by rw [HW.out, hv, ← hall]; simp [h20]
        have HW2 := Lib.hid hw2
        clear hall h1 hw2
        go_enter Tryd.func62, Tryd.ntmps62
        go_wp2_with (first | (go_at_call 82; refine (rLetter_any _ _).mono ?_; rintro e w' ⟨rfl, rfl⟩))
        go_loop [3] (fun i => ∃ k : Nat, 1 ≤ k ∧ k ≤ s.size ∧ i = .int .i64 k ∧ (s.data.toList.drop k).all wordC = wordB s) (fun i => s.size - (intOf i).toNat)
        case atStart => exact ⟨1, by omega, by omega, rfl, HW2.out.symm⟩
        case round =>
          obtain ⟨k, hk1, hk, rfl, hf⟩ := hrel
          by_cases hlt : k < s.size
          · have HA := Lib.hid (all_drop_step wordC s k hlt)
            have HF := Lib.hid hf
            clear hf hv
            cases hv : letterI s[k].toNat
            · cases hd : digitI s[k].toNat
              · go_wp2_with (first | (go_at_call 82; refine (rLetter_any _ _).mono ?_; rintro e w' ⟨rfl, rfl⟩) | (go_at_call 83; refine (rDigit_any _ _).mono ?_; rintro e w' ⟨rfl, rfl⟩))
                go_ret
                exact ⟨by rw [← HF.out, HA.out]; simp [wordC, wordI, hv, hd], rfl⟩
              · go_wp2_with (first | (go_at_call 82; refine (rLetter_any _ _).mono ?_; rintro e w' ⟨rfl, rfl⟩) | (go_at_call 83; refine (rDigit_any _ _).mono ?_; rintro e w' ⟨rfl, rfl⟩))
                go_round
                case rel => exact ⟨k + 1, by omega, by omega, by go_num, by rw [← HF.out, HA.out]; simp [wordC, wordI, hv, hd]⟩
                case measure => simp [intOf]; omega
            · go_wp2_with (first | (go_at_call 82; refine (rLetter_any _ _).mono ?_; rintro e w' ⟨rfl, rfl⟩))
              go_round
              case rel => exact ⟨k + 1, by omega, by omega, by go_num, by rw [← HF.out, HA.out]; simp [wordC, wordI, hv]⟩
              case measure => simp [intOf]; omega
          · have hft : wordB s = true := by rw [← hf, List.drop_of_length_le (by rw [size_toList]; omega)]; rfl
            have HFT := Lib.hid hft
            clear hf hft hv
            go_wp2
            go_ret
            exact ⟨by rw [HFT.out]; rfl, rfl⟩
    · go_enter Tryd.func62, Tryd.ntmps62
      go_wp2
      go_ret
      exact ⟨by rw [HW.out]; simp [h20], rfl⟩
end Go.Proofs.YtnaejabgkfhlbaaDoor
