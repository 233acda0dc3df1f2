/- Contracts of the library's searches in lists of strings. -/
import Derived.Test.YtnaejabgkfhlbaaDoorWyC
set_option linter.unusedSimpArgs false
set_option linter.unusedVariables false
namespace Go.Proofs.YtnaejabgkfhlbaaDoor
open Go.RowKit

theorem str_neq {s p : ByteArray} (h : ¬ s = p) : (s.toList == p.toList) = false := by
  rw [beq_eq_false_iff_ne]
  intro he
  rw [ByteArray.toList_eq, ByteArray.toList_eq] at he
  exact h (ByteArray.ext (Array.toList_inj.1 he))
def eqS (s : ByteArray) : ByteArray → Bool := fun x => decide (s = x)
def hasS (xs : List ByteArray) (s : ByteArray) : Bool := xs.any (eqS s)
def idxS (f : ByteArray → Bool) (xs : List ByteArray) : Int := match xs.findIdx? f with | some i => (i : Int) | none => -1
theorem idxS_any (f : ByteArray → Bool) (xs : List ByteArray) : decide (0 ≤ idxS f xs) = xs.any f := by
  unfold idxS
  cases h : xs.findIdx? f with
  | none =>
    have h2 : xs.any f = false := by
      rw [List.any_eq_false]
      intro x hx
      simp [List.findIdx?_eq_none_iff.1 h x hx]
    rw [h2]
    rfl
  | some i =>
    obtain ⟨h1, h2, _⟩ := List.findIdx?_eq_some_iff_getElem.1 h
    have h3 : xs.any f = true := List.any_eq_true.2 ⟨_, List.getElem_mem h1, h2⟩
    rw [h3]
    simp
theorem idxS_any2 (f : ByteArray → Bool) (xs : List ByteArray) : (idxS f xs < 0) = (xs.any f = false) := by
  rw [← idxS_any]
  simp
theorem any_hit {T : Type} (f : T → Bool) (xs : List T) (k : Nat) {p : T} (h : xs[k]? = some p) (hf : f p = true) (hn : (xs.take k).any f = false) : xs.findIdx? f = some k := by
  obtain ⟨hk, rfl⟩ := List.getElem?_eq_some_iff.1 h
  rw [List.findIdx?_eq_some_iff_getElem]
  refine ⟨hk, hf, fun j hj => ?_⟩
  exact List.any_eq_false.1 hn xs[j] (by rw [List.mem_take_iff_getElem]; exact ⟨j, by omega, rfl⟩)
theorem any_miss {T : Type} (f : T → Bool) (xs : List T) (k : Nat) {p : T} (h : xs[k]? = some p) (hf : f p = false) (hn : (xs.take k).any f = false) : (xs.take (k + 1)).any f = false := by
  obtain ⟨hk, rfl⟩ := List.getElem?_eq_some_iff.1 h
  rw [List.take_succ_eq_append_getElem hk, List.any_append, hn]
  simp [hf]
theorem any_none {T : Type} (f : T → Bool) (xs : List T) (hn : xs.any f = false) : xs.findIdx? f = none := by
  rw [List.findIdx?_eq_none_iff]
  intro x hx
  simpa using List.any_eq_false.1 hn x hx

set_option maxHeartbeats 400000 in
theorem strIndex_any (xs : List ByteArray) (s : ByteArray) (A : Option Addr) (c : Nat) (w : World) (hr : RdS w w.heap.size A xs) (hm : xs.length ≤ 9223372036854775807) :
    Calls Tryd.prog 72 #[.slice A xs.length c, .string s] w fun e w' => e = .returned (.int .i64 (idxS (eqS s) xs)) ∧ w = w' := by
  go_enter Tryd.func72, Tryd.ntmps72
  go_wp2
  go_loopw [8] (fun i wr => ∃ k : Nat, k ≤ xs.length ∧ i = .int .i64 k ∧ (xs.take k).any (eqS s) = false ∧ w = wr) (fun i _ => xs.length - (intOf i).toNat)
  case atStart => exact ⟨0, Nat.zero_le _, rfl, rfl, rfl⟩
  case round =>
    obtain ⟨k, hk, rfl, hf, rfl⟩ := hrel
    have HF := Lib.hid hf
    clear hf
    by_cases hlt : k < xs.length
    · obtain ⟨b, off, p, rfl, hbb, hp, hc⟩ := RdS_at hr hlt
      have HP := Lib.hid hp
      clear hp
      by_cases hv : s = p
      · subst hv
        go_wp2
        go_ret
        exact ⟨by simp [idxS, any_hit (eqS s) xs k HP.out (by simp [eqS]) HF.out], by first | rfl | trivial⟩
      · have hv2 := str_neq hv
        go_wp2
        go_roundw
        case rel => exact ⟨k + 1, by omega, by go_num, any_miss _ xs k HP.out (by simp [eqS, hv]) HF.out, by first | rfl | trivial⟩
        case measure => simp [intOf]; omega
    · go_wp2
      go_ret
      have h2 := HF.out
      rw [List.take_of_length_le (by omega)] at h2
      exact ⟨by simp [idxS, any_none _ xs h2], by first | rfl | trivial⟩

set_option maxHeartbeats 400000 in
theorem strCont_any (xs : List ByteArray) (s : ByteArray) (A : Option Addr) (c : Nat) (w : World) (hr : RdS w w.heap.size A xs) (hm : xs.length ≤ 9223372036854775807) :
    Calls Tryd.prog 88 #[.slice A xs.length c, .string s] w fun e w' => e = .returned (.bool (hasS xs s)) ∧ w = w' := by
  go_enter Tryd.func88, Tryd.ntmps88
  go_wp2_with fail
  refine (strIndex_any xs s A c _ hr hm).mono ?_
  rintro e w1 ⟨rfl, rfl⟩
  go_wp2
  go_ret
  exact ⟨ret_bool (idxS_any _ _), rfl⟩

set_option maxHeartbeats 400000 in
theorem strIndexF_any (xs : List ByteArray) (A : Option Addr) (c : Nat) (K : FuncId) (caps : Array Value) (f : ByteArray → Bool) (w : World) (hr : RdS w w.heap.size A xs) (hm : xs.length ≤ 9223372036854775807)
    (hK : ∀ (args : Array Value) (w : World), (callFunc K args).run Tryd.prog w = .ok (.enter K args) w)
    (hF : ∀ s ∈ xs, Calls Tryd.prog K (#[.string s] ++ caps) w fun e w'' => e = .returned (.bool (f s)) ∧ w = w'') :
    Calls Tryd.prog 81 #[.slice A xs.length c, .func (.func K) #[] caps] w fun e w' => e = .returned (.int .i64 (idxS f xs)) ∧ w = w' := by
  have HFF := Lib.hid hF
  clear hF
  go_enter Tryd.func81, Tryd.ntmps81
  go_wp2
  go_loopw [8] (fun i wr => ∃ k : Nat, k ≤ xs.length ∧ i = .int .i64 k ∧ (xs.take k).any f = false ∧ w = wr) (fun i _ => xs.length - (intOf i).toNat)
  case atStart => exact ⟨0, Nat.zero_le _, rfl, rfl, rfl⟩
  case round =>
    obtain ⟨k, hk, rfl, hf, rfl⟩ := hrel
    have HF := Lib.hid hf
    clear hf
    by_cases hlt : k < xs.length
    · obtain ⟨b, off, p, rfl, hbb, hp, hc⟩ := RdS_at hr hlt
      have HP := Lib.hid hp
      clear hp
      cases hv : f p
      · go_wp2_with fail
        refine (HFF.out p (List.mem_of_getElem? HP.out)).mono ?_
        rintro e w1 ⟨rfl, rfl⟩
        go_wp2
        go_roundw
        case rel => exact ⟨k + 1, by omega, by go_num, any_miss _ xs k HP.out hv HF.out, by first | rfl | trivial⟩
        case measure => simp [intOf]; omega
      · go_wp2_with fail
        refine (HFF.out p (List.mem_of_getElem? HP.out)).mono ?_
        rintro e w1 ⟨rfl, rfl⟩
        go_wp2
        go_ret
        exact ⟨by simp [idxS, any_hit f xs k HP.out hv HF.out], rfl⟩
    · go_wp2
      go_ret
      have h2 := HF.out
      rw [List.take_of_length_le (by omega)] at h2
      exact ⟨by simp [idxS, any_none f xs h2], by first | rfl | trivial⟩

set_option maxHeartbeats 400000 in
theorem strContF_any (xs : List ByteArray) (A : Option Addr) (c : Nat) (K : FuncId) (caps : Array Value) (f : ByteArray → Bool) (w : World) (hr : RdS w w.heap.size A xs) (hm : xs.length ≤ 9223372036854775807)
    (hK : ∀ (args : Array Value) (w : World), (callFunc K args).run Tryd.prog w = .ok (.enter K args) w)
    (hF : ∀ s ∈ xs, Calls Tryd.prog K (#[.string s] ++ caps) w fun e w'' => e = .returned (.bool (f s)) ∧ w = w'') :
    Calls Tryd.prog 59 #[.slice A xs.length c, .func (.func K) #[] caps] w fun e w' => e = .returned (.bool (xs.any f)) ∧ w = w' := by
  go_enter Tryd.func59, Tryd.ntmps59
  go_wp2_with fail
  refine (strIndexF_any xs A c K caps f _ hr hm hK hF).mono ?_
  rintro e w1 ⟨rfl, rfl⟩
  go_wp2
  go_ret
  exact ⟨ret_bool (idxS_any _ _), rfl⟩

set_option maxHeartbeats 400000 in
theorem pRight1_any (s : ByteArray) (w : World) (hs : s.size ≤ 9223372036854775807) : Calls Tryd.prog 60 #[.string s] w fun e w' => e = .returned (.bool (!wordB s)) ∧ w = w' := by
  go_enter Tryd.func60, Tryd.ntmps60
  go_wp2_with fail
  refine (lexWord_any s _ hs).mono ?_
  rintro e w1 ⟨rfl, rfl⟩
  go_wp2
  go_ret
  exact ⟨rfl, by first | rfl | trivial⟩
end Go.Proofs.YtnaejabgkfhlbaaDoor
