/- Contracts of words (layers 11 and 12). -/
import Derived.Test.YtbpbdehnkkheiaaWyA
namespace Go.Proofs.Ytbpbdehnkkheiaa
open Go.RowKit

theorem enters_lexWord1 : ∀ (args : Array Value) (w : World), (callFunc 50 args).run Try.prog w = .ok (.enter 50 args) w := fun _ _ => by kernel_rfl
theorem size_toList (s : ByteArray) : s.data.toList.length = s.size := by rw [Array.length_toList]; rfl
theorem wordB_eq (s : ByteArray) (h : 0 < s.size) : wordB s = (letterI s[0].toNat && (decide (s.size ≤ 20) && s.data.toList.all wordC)) := by
  unfold wordB
  have hl := size_toList s
  rcases hd : s.data.toList with _ | ⟨c, r⟩
  · rw [hd] at hl; simp at hl; omega
  · have h0 : s.data.toList[0]? = some c := by rw [hd]; rfl
    obtain ⟨_, hc⟩ := List.getElem?_eq_some_iff.1 h0
    have hc' : s[0] = c := hc
    rw [hd] at hl
    simp only [List.length_cons] at hl
    rw [wordL, hc', Bool.and_assoc]
    congr 2
    rw [Bool.eq_iff_iff]
    simp
    omega
theorem wordB_empty (s : ByteArray) (h : s.size = 0) : wordB s = false := by
  have hl := size_toList s
  rw [h] at hl
  unfold wordB
  rw [List.eq_nil_of_length_eq_zero hl]
  rfl
theorem takeWhile_all (f : UInt8 → Bool) (l : List UInt8) : decide ((l.takeWhile f).length = l.length) = l.all f := by
  induction l with
  | nil => rfl
  | cons c r ih =>
    by_cases h : f c = true
    · rw [List.takeWhile_cons_of_pos h, List.all_cons, h, Bool.true_and, ← ih]
      simp
    · rw [List.takeWhile_cons_of_neg h, List.all_cons]
      simp [h]

set_option maxHeartbeats 400000 in
theorem lexWord_any (s : ByteArray) (w : World) (hs : s.size ≤ 9223372036854775807) : Calls Try.prog 43 #[.string s] w fun e w' => e = .returned (.bool (wordB s)) ∧ w = w' := by
  by_cases h0 : s.size = 0
  · have hw := wordB_empty s h0
    have hl := size_toList s
    rw [h0] at hl
    have he : s.toList = [] := by rw [ByteArray.toList_eq]; exact List.eq_nil_of_length_eq_zero hl
    rw [hw]
    clear hw h0 hl
    go_enter Try.func43, Try.ntmps43
    go_wp2
    go_ret
    exact ⟨rfl, rfl⟩
  · have hp : 0 < s.size := by omega
    have hw := wordB_eq s hp
    have hl := size_toList s
    have hne : ¬ s.toList = [] := by rw [ByteArray.toList_eq]; intro h; rw [h] at hl; simp at hl; omega
    have hne2 : s.toList.isEmpty = false := by rw [List.isEmpty_eq_false_iff]; exact hne
    have ht := takeWhile_all wordC s.data.toList
    rw [hl] at ht
    have HW := Lib.hid hw
    have HT := Lib.hid ht
    clear hw h0 hl ht
    cases hv : letterI s[0].toNat
    · go_enter Try.func43, Try.ntmps43
      go_wp2_with (first | (go_at_call 48; refine (lexLetter_any _ _).mono ?_; rintro e w' ⟨rfl, rfl⟩))
      go_ret
      exact ⟨by rw [HW.out, hv]; rfl, rfl⟩
    · by_cases h20 : s.size ≤ 20
      · go_enter Try.func43, Try.ntmps43
        go_wp2_with (first | (go_at_call 48; refine (lexLetter_any _ _).mono ?_; rintro e w' ⟨rfl, rfl⟩) | (go_at_call 49; refine (lexSpan_any s 50 wordI _ hs enters_lexWord1 lexWord1_any).mono ?_; rintro e w' ⟨rfl, rfl⟩))
        go_ret
        refine ⟨?_, rfl⟩
        rw [HW.out, hv, ← HT.out]
        refine ret_bool ?_
        rw [Bool.eq_iff_iff]
        simp [h20]
        exact Int.ofNat_inj
      · go_enter Try.func43, Try.ntmps43
        go_wp2_with (first | (go_at_call 48; refine (lexLetter_any _ _).mono ?_; rintro e w' ⟨rfl, rfl⟩))
        go_ret
        exact ⟨by rw [HW.out, hv]; simp [h20], rfl⟩

theorem all_drop1 (f : UInt8 → Bool) (s : ByteArray) (h : 0 < s.size) : s.data.toList.all f = (f s[0] && (s.data.toList.drop 1).all f) := by
  conv => lhs; rw [← List.drop_zero (l := s.data.toList), List.drop_eq_getElem_cons (by simpa using h)]
  rfl
theorem all_drop_step (f : UInt8 → Bool) (s : ByteArray) (k : Nat) (h : k < s.size) : (s.data.toList.drop k).all f = (f s[k] && (s.data.toList.drop (k + 1)).all f) := by
  rw [List.drop_eq_getElem_cons (by simpa using h)]
  rfl

end Go.Proofs.Ytbpbdehnkkheiaa
