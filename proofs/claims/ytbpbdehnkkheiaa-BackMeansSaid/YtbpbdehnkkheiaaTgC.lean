/- Contracts of layer 22: the searches of the reference, IndexFunc, Find and Local. -/
import Derived.Test.YtbpbdehnkkheiaaTgA
namespace Go.Proofs.Ytbpbdehnkkheiaa
open Go.RowKit

def findF (f : Pair → Bool) (xs : List Pair) : Option Pair := xs.find? f
def fNL (net loc : Int) : Pair → Bool := fun p => p.net == net && p.loc == loc
def fNEP (net ev part : Int) : Pair → Bool := fun p => p.net == net && (p.ev == ev && p.part == part)
def evOf : Option Pair → Int | some p => p.ev | none => 0
def partOf : Option Pair → Int | some p => p.part | none => 0
def locOf : Option Pair → Int | some p => p.loc | none => 0

theorem find_hit {T : Type} (f : T → Bool) (xs : List T) (k : Nat) {p : T} (h : xs[k]? = some p) (hf : f p = true) (hn : (xs.take k).find? f = none) : xs.find? f = some p := by
  obtain ⟨hk, rfl⟩ := List.getElem?_eq_some_iff.1 h
  conv => lhs; rw [← List.take_append_drop k xs]
  rw [List.find?_append, hn, List.drop_eq_getElem_cons hk, List.find?_cons_of_pos hf]
  rfl
theorem find_miss {T : Type} (f : T → Bool) (xs : List T) (k : Nat) {p : T} (h : xs[k]? = some p) (hf : f p = false) (hn : (xs.take k).find? f = none) : (xs.take (k + 1)).find? f = none := by
  obtain ⟨hk, rfl⟩ := List.getElem?_eq_some_iff.1 h
  rw [List.take_succ_eq_append_getElem hk, List.find?_append, hn, List.find?_cons_of_neg (by simp [hf])]
  rfl

def idxF (f : Pair → Bool) (xs : List Pair) : Int := match xs.findIdx? f with | some i => (i : Int) | none => -1

theorem idx_hit {T : Type} (f : T → Bool) (xs : List T) (k : Nat) {p : T} (h : xs[k]? = some p) (hf : f p = true) (hn : (xs.take k).find? f = none) : xs.findIdx? f = some k := by
  obtain ⟨hk, rfl⟩ := List.getElem?_eq_some_iff.1 h
  rw [List.findIdx?_eq_some_iff_getElem]
  refine ⟨hk, hf, fun j hj => ?_⟩
  have := List.find?_eq_none.1 hn xs[j] (by rw [List.mem_take_iff_getElem]; exact ⟨j, by omega, rfl⟩)
  simpa using this
theorem idx_none {T : Type} (f : T → Bool) (xs : List T) (hn : xs.find? f = none) : xs.findIdx? f = none := by
  rw [List.findIdx?_eq_none_iff]
  intro x hx
  have := List.find?_eq_none.1 hn x hx
  simpa using this

set_option maxHeartbeats 400000 in
theorem indexF_any (xs : List Pair) (A : Option Addr) (c : Nat) (K : FuncId) (caps : Array Value) (f : Pair → Bool) (w : World) (hr : RdP w w.heap.size A xs) (hm : xs.length ≤ 9223372036854775807)
    (hK : ∀ (args : Array Value) (w : World), (callFunc K args).run Try.prog w = .ok (.enter K args) w)
    (hF : ∀ (w' : World) (p : Pair), Below w.heap.size w w' → Calls Try.prog K (#[p.v] ++ caps) w' fun e w'' => e = .returned (.bool (f p)) ∧ Below w'.heap.size w' w'') :
    Calls Try.prog 38 #[.slice A xs.length c, .func (.func K) #[] caps] w fun e w' => e = .returned (.int .i64 (idxF f xs)) ∧ Below w.heap.size w w' := by
  have HFF := Lib.hid hF
  clear hF
  go_enter Try.func38, Try.ntmps38
  go_wp2
  go_loopw [8] (fun i wr => ∃ k : Nat, k ≤ xs.length ∧ i = .int .i64 k ∧ (xs.take k).find? f = none ∧ Below w.heap.size w wr) (fun i _ => xs.length - (intOf i).toNat)
  case atStart => exact ⟨0, Nat.zero_le _, rfl, rfl, Below.refl _ _⟩
  case round =>
    obtain ⟨k, hk, rfl, hf, hb⟩ := hrel
    have HF := Lib.hid hf
    clear hf
    by_cases hlt : k < xs.length
    · obtain ⟨b, off, p, rfl, hbb, hp, c0, c1, c2, c3⟩ := RdP_at (hr.now hb) hlt
      have HP := Lib.hid hp
      clear hp
      cases hv : f p
      · go_wp2_with fail
        refine (HFF.out _ p hb).mono ?_
        rintro e w1 ⟨rfl, hb1⟩
        go_wp2
        go_roundw
        case rel => exact ⟨k + 1, by omega, by go_num, find_miss _ xs k HP.out hv HF.out, hb.trans (hb1.mono hb.size)⟩
        case measure => simp [intOf]; omega
      · go_wp2_with fail
        refine (HFF.out _ p hb).mono ?_
        rintro e w1 ⟨rfl, hb1⟩
        go_wp2
        go_ret
        exact ⟨by simp [idxF, idx_hit f xs k HP.out hv HF.out], hb.trans (hb1.mono hb.size)⟩
    · go_wp2
      go_ret
      have h2 := HF.out
      rw [List.take_of_length_le (by omega)] at h2
      exact ⟨by simp [idxF, idx_none f xs h2], hb⟩
end Go.Proofs.Ytbpbdehnkkheiaa
