import Derived.Test.YtlhidlaoecjnpaaTgA
namespace Go.Proofs.Ytlhidlaoecjnpaa
open Go.RowKit

theorem rightGo_step (xs : List Pair) (k : Nat) (p : Pair) (h : xs[k]? = some p) :
    rightGo (xs.take k) (xs.drop k) = (validP p && (xs.take k).all (fun q => !excl p q) && rightGo (xs.take (k+1)) (xs.drop (k+1))) := by
  obtain ⟨hk, rfl⟩ := List.getElem?_eq_some_iff.1 h
  rw [List.drop_eq_getElem_cons hk, List.take_succ_eq_append_getElem hk]
  rfl

theorem all_step {T : Type} (f : T → Bool) (xs : List T) (k j : Nat) {q : T} (hjk : j < k) (h : xs[j]? = some q) :
    ((xs.take k).drop j).all f = (f q && ((xs.take k).drop (j + 1)).all f) := by
  obtain ⟨hj, rfl⟩ := List.getElem?_eq_some_iff.1 h
  rw [List.drop_eq_getElem_cons (by simp; omega)]
  simp

set_option maxHeartbeats 1000000 in
theorem rright_any (xs : List Pair) (A : Option Addr) (c : Nat) (w : World) (hr : RdP w w.heap.size A xs) (hm : xs.length ≤ 9223372036854775807) :
    Calls Try.prog 17 #[.slice A xs.length c] w fun e w' => e = .returned (.bool (rightB xs)) ∧ Below w.heap.size w w' := by
  go_enter Try.func17, Try.ntmps17
  go_wp2
  go_loopw [3] (fun i wr => ∃ k : Nat, k ≤ xs.length ∧ i = .int .i64 k ∧ rightGo (xs.take k) (xs.drop k) = rightB xs ∧ Below w.heap.size w wr) (fun i _ => xs.length - (intOf i).toNat)
  case atStart => exact ⟨0, Nat.zero_le _, rfl, rfl, Below.refl _ _⟩
  case round =>
    obtain ⟨k, hk, rfl, hf, hb⟩ := hrel
    have HF := Lib.hid hf
    clear hf
    by_cases hlt : k < xs.length
    · obtain ⟨b, off, p, rfl, hbb, hp, c0, c1, c2, c3⟩ := RdP_at (hr.now hb) hlt
      have hstep := rightGo_step xs k p hp
      have HS := Lib.hid hstep
      clear hstep
      have HP := Lib.hid hp
      clear hp
      cases hv : validP p
      · go_wp2_with (first | (go_at_call 20; refine (rvalid_any p _).mono ?_; rintro e w1 ⟨rfl, hb1⟩))
        go_ret
        refine ⟨?_, hb.trans (hb1.mono hb.size)⟩
        have h1 := HS.out
        have h2 := HF.out
        simp_all
      · go_wp2_with (first | (go_at_call 20; refine (rvalid_any p _).mono ?_; rintro e w1 ⟨rfl, hb1⟩))
        have hb2 := hb.trans (hb1.mono hb.size)
        clear hb1 c0 c1 c2 c3
        go_loopw [4] (fun i wr => ∃ j : Nat, j ≤ k ∧ i = .int .i64 j ∧ ((xs.take k).drop j).all (fun q => !excl p q) = (xs.take k).all (fun q => !excl p q) ∧ Below w.heap.size w wr) (fun i _ => k - (intOf i).toNat)
        case atStart => exact ⟨0, Nat.zero_le _, rfl, rfl, hb2⟩
        case round =>
          obtain ⟨j, hj, rfl, hfj, hbj⟩ := hrel
          have HJ := Lib.hid hfj
          clear hfj
          by_cases hjk : j < k
          · obtain ⟨b', off', q, he, hbb', hq, d0, d1, d2, d3⟩ := RdP_at (hr.now hbj) (k := j) (by omega)
            obtain ⟨b'', off'', p', he', hbb'', hp', e0, e1, e2, e3⟩ := RdP_at (hr.now hbj) (k := k) (by omega)
            have hpp : p' = p := by have := HP.out; rw [hp'] at this; injection this
            obtain ⟨rfl, rfl⟩ : b = b' ∧ off = off' := by simpa using he
            obtain ⟨rfl, rfl⟩ : b = b'' ∧ off = off'' := by simpa using he'
            subst hpp
            have HQ := Lib.hid hq
            clear hq he he' hp'
            have hjl : j < xs.length := by omega
            go_wp2_with fail
            go_still_tail 8, (by kernel_rfl)
            change wpList _ _ _ _ _ wr.drew
            have hbd : Below w.heap.size w wr.drew := hbj.drew
            clear d0 d1 d2 d3 e0 e1 e2 e3
            generalize wr.drew = w2 at *
            go_wp2_with (first | (go_at_call 24; refine (excl_any p' q _).mono ?_; rintro e w3 ⟨rfl, hb3⟩))
            · have hx : excl p' q = true := by assumption
              go_ret
              refine ⟨?_, hbd.trans (hb3.mono hbd.size)⟩
              have h1 := HS.out
              have h2 := HF.out
              have h3 := HJ.out
              rw [all_step _ _ _ _ hjk HQ.out, hx] at h3
              rw [← h3] at h1
              simp_all
            · have hx : excl p' q = false := by assumption
              go_roundw
              case rel =>
                refine ⟨j + 1, by omega, by go_num, ?_, hbd.trans (hb3.mono hbd.size)⟩
                have h3 := HJ.out
                rw [all_step _ _ _ _ hjk HQ.out, hx] at h3
                simpa using h3
              case measure => simp [intOf]; omega
          · go_wp2
            go_roundw
            case rel =>
              refine ⟨k + 1, by omega, by go_num, ?_, hbj⟩
              have h1 := HS.out
              have h2 := HF.out
              have h3 := HJ.out
              rw [List.drop_of_length_le (by simp; omega)] at h3
              rw [← h3] at h1
              simp_all
            case measure => simp [intOf]; omega
    · go_wp2
      go_ret
      refine ⟨?_, hb⟩
      have h2 := HF.out
      rw [List.drop_of_length_le (by omega)] at h2
      rw [← h2]
      rfl
end Go.Proofs.Ytlhidlaoecjnpaa
