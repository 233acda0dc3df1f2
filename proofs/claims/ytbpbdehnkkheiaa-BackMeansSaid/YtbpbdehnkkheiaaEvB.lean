/- Lists of ints: contracts of slices.Index, Contains and Equal, and of linguaref10.Ints. -/
import Derived.Test.YtbpbdehnkkheiaaRows
import Derived.Test.YtbpbdehnkkheiaaEvA
namespace Go.Proofs.Ytbpbdehnkkheiaa
open Go.RowKit

def intC (x : Int) : List Value := [.int .i64 x]
theorem intLay : Lay 1 intC := ⟨fun _ => rfl, fun x u h => by simp [intC] at h; subst h; rfl⟩
abbrev RdI := RdL 1 intC
theorem RdI_at {w : World} {B : Nat} {A : Option Addr} {xs : List Int} {k : Nat} (h : RdI w B A xs) (hk : k < xs.length) : ∃ b off, A = some ⟨b, off, none⟩ ∧ b < B ∧ w.cell? ⟨b, off + k, none⟩ = some (.int .i64 xs[k]) := by
  obtain ⟨b, off, e, hb, hc⟩ := h.at_ hk
  have h0 := hc 0 _ rfl
  simp only [Nat.mul_one, Nat.add_zero] at h0
  exact ⟨b, off, e, hb, h0⟩
def idxI (x : Int) (xs : List Int) : Int := match xs.findIdx? (fun y => x == y) with
  | some i => (i : Int)
  | none => -1
theorem idxI_hit (x : Int) (xs : List Int) (k : Nat) (hk : k < xs.length) (hn : ∀ y ∈ xs.take k, (x == y) = false) (h : (x == xs[k]) = true) : idxI x xs = k := by
  unfold idxI
  rw [List.findIdx?_eq_some_iff_getElem.2 ⟨hk, h, fun j hj => ?_⟩]
  have := hn xs[j] (List.mem_take_iff_getElem.2 ⟨j, by omega, rfl⟩)
  simpa using this
theorem idxI_none (x : Int) (xs : List Int) (hn : ∀ y ∈ xs, (x == y) = false) : idxI x xs = -1 := by
  unfold idxI
  rw [List.findIdx?_eq_none_iff.2 hn]
theorem idxI_has (x : Int) (xs : List Int) : decide (0 ≤ idxI x xs) = decide (x ∈ xs) := by
  rcases h : xs.findIdx? (fun y => x == y) with _ | i
  · have hn := List.findIdx?_eq_none_iff.1 h
    rw [idxI_none x xs hn]
    have : x ∉ xs := fun hm => by have := hn x hm; simp at this
    simp [this]
  · obtain ⟨hk, h1, _⟩ := List.findIdx?_eq_some_iff_getElem.1 h
    have e : idxI x xs = i := by unfold idxI; rw [h]
    have hm : x ∈ xs := by
      have : x = xs[i] := by simpa using h1
      rw [this]
      exact List.getElem_mem hk
    rw [e]
    simp [hm]
theorem take_grow {T : Type} (P : T → Prop) (q : List T) (k : Nat) (hk : k < q.length) (h : ∀ p ∈ q.take k, P p) (h1 : P q[k]) : ∀ p ∈ q.take (k + 1), P p := by
  intro p hp
  rw [List.take_succ_eq_append_getElem hk, List.mem_append, List.mem_singleton] at hp
  rcases hp with hp | rfl
  · exact h p hp
  · exact h1
set_option maxHeartbeats 400000 in
theorem intIdx_any (xs : List Int) (x : Int) (A : Option Addr) (n c : Nat) (w : World) (hn : n = xs.length) (hr : RdI w w.heap.size A xs) (hm : xs.length ≤ 9223372036854775807) :
    Calls Try.prog 47 #[.slice A n c, .int .i64 x] w fun e w' => e = .returned (.int .i64 (idxI x xs)) ∧ w = w' := by
  subst hn
  go_enter Try.func47, Try.ntmps47
  go_wp2
  go_loopw [5, 8] (fun _ i wr => ∃ k : Nat, k ≤ xs.length ∧ i = .int .i64 k ∧ (∀ y ∈ xs.take k, (x == y) = false) ∧ w = wr) (fun _ i _ => xs.length - (intOf i).toNat)
  case atStart => exact ⟨0, Nat.zero_le _, rfl, fun p hp => by simp at hp, rfl⟩
  case round =>
    obtain ⟨k, hk, rfl, hf, rfl⟩ := hrel
    have HF := Lib.hid hf
    clear hf
    by_cases hlt : k < xs.length
    · obtain ⟨b, off, rfl, hb, c0⟩ := RdI_at hr hlt
      have HHit := Lib.hid (idxI_hit x xs k hlt HF.out)
      have HSt := Lib.hid (take_grow (fun y => (x == y) = false) xs k hlt HF.out)
      generalize xs[k] = y at *
      cases hv : (x == y)
      · go_wp2
        go_roundw
        case rel => exact ⟨k + 1, by omega, by go_num, HSt.out hv, by first | rfl | trivial⟩
        case measure => simp [intOf]; omega
      · go_wp2
        go_ret
        exact ⟨by rw [HHit.out hv]; rfl, rfl⟩
    · have HNo := Lib.hid (idxI_none x xs (fun y hy => HF.out y (by rw [List.take_of_length_le (by omega)]; exact hy)))
      go_wp2
      go_ret
      exact ⟨by rw [HNo.out]; rfl, rfl⟩
theorem intCont_any (xs : List Int) (x : Int) (A : Option Addr) (n c : Nat) (w : World) (hn : n = xs.length) (hr : RdI w w.heap.size A xs) (hm : xs.length ≤ 9223372036854775807) :
    Calls Try.prog 40 #[.slice A n c, .int .i64 x] w fun e w' => e = .returned (.bool (decide (x ∈ xs))) ∧ w = w' := by
  have HI := Lib.hid (intIdx_any xs x A n c w hn hr hm)
  have HH := Lib.hid (idxI_has x xs)
  clear hn hr hm
  go_enter Try.func40, Try.ntmps40
  go_wp2_with (go_at_call 47; refine HI.out.mono ?_; rintro e w' ⟨rfl, rfl⟩)
  go_ret
  exact ⟨ret_bool HH.out, rfl⟩
theorem eq_take {T : Type} (xs ys : List T) (k : Nat) (hk : k < xs.length) (hk2 : k < ys.length) (h : xs.take k = ys.take k) (he : xs[k] = ys[k]) : xs.take (k + 1) = ys.take (k + 1) := by
  rw [List.take_succ_eq_append_getElem hk, List.take_succ_eq_append_getElem hk2, h, he]
theorem ne_at {T : Type} (xs ys : List T) (k : Nat) (hk : k < xs.length) (hk2 : k < ys.length) (he : ¬ xs[k] = ys[k]) : ¬ xs = ys := fun h => he (by subst h; rfl)
set_option maxHeartbeats 1000000 in
theorem intEq_any (xs ys : List Int) (A B : Option Addr) (n m c d : Nat) (w : World) (hn : n = xs.length) (hm : m = ys.length) (hr : RdI w w.heap.size A xs) (hs : RdI w w.heap.size B ys) (hx : xs.length ≤ 9223372036854775807) (hy : ys.length ≤ 9223372036854775807) :
    Calls Try.prog 41 #[.slice A n c, .slice B m d] w fun e w' => e = .returned (.bool (decide (xs = ys))) ∧ Below w.heap.size w w' := by
  subst hn hm
  have HR := Lib.hid hr
  have HS := Lib.hid hs
  clear hr hs
  by_cases hl : xs.length = ys.length
  · have hl2 : ((xs.length : Int) != ys.length) = false := by simp [hl]
    go_enter Try.func41, Try.ntmps41
    have HL := Lib.hid hl
    clear hl
    go_wp2
    go_loopw [5, 13] (fun _ i wr => ∃ k : Nat, k ≤ xs.length ∧ i = .int .i64 k ∧ xs.take k = ys.take k ∧ Below w.heap.size w wr) (fun _ i _ => xs.length - (intOf i).toNat)
    case atStart => exact ⟨0, Nat.zero_le _, rfl, by simp, Below.refl _ _⟩
    case round =>
      obtain ⟨k, hk, rfl, hf, hbw⟩ := hrel
      have HF := Lib.hid hf
      have HB := Lib.hid hbw
      clear hf
      by_cases hlt : k < xs.length
      · have hlt2 : k < ys.length := by have := HL.out; omega
        obtain ⟨b, off, hA, hb, c0⟩ := RdI_at (HR.out.now hbw) hlt
        obtain ⟨b2, off2, hA2, hb2, c1⟩ := RdI_at (HS.out.now hbw) hlt2
        subst hA hA2
        have HSt := Lib.hid (eq_take xs ys k hlt hlt2 HF.out)
        have HNe := Lib.hid (ne_at xs ys k hlt hlt2)
        have hi0 : (0 : Int) ≤ (k : Int) := by omega
        have hi1 : (k : Int) < (xs.length : Int) := by omega
        have hi2 : (k : Int) < (ys.length : Int) := by omega
        clear hbw
        generalize xs[k] = x at *
        generalize ys[k] = y at *
        by_cases hv : x = y
        · have hv2 : (x != y) = false := by simp [hv]
          have HV := Lib.hid hv
          clear hv
          go_wp2_with fail
          go_quiet (fail)
          go_wp2
          go_roundw
          case rel => exact ⟨k + 1, by omega, by go_num, HSt.out HV.out, below_drewN HB.out _⟩
          case measure => simp [intOf]; omega
        · have hv2 : (x != y) = true := by simp [hv]
          have HV := Lib.hid (HNe.out hv)
          clear hv
          go_wp2_with fail
          go_quiet (fail)
          go_wp2
          go_ret
          exact ⟨ret_bool (decide_eq_false HV.out).symm, below_drewN HB.out _⟩
      · have HE : Hid (xs = ys) := Lib.hid (by
          have h1 := HF.out
          have := HL.out
          rwa [List.take_of_length_le (by omega), List.take_of_length_le (by omega)] at h1)
        go_wp2
        go_ret
        exact ⟨ret_bool (decide_eq_true HE.out).symm, HB.out⟩
  · have hl2 : ((xs.length : Int) != ys.length) = true := by simp; omega
    have hne : decide (xs = ys) = false := decide_eq_false (fun h => hl (by rw [h]))
    rw [hne]
    clear hne hl
    go_enter Try.func41, Try.ntmps41
    go_wp2
    go_ret
    exact ⟨rfl, Below.refl _ _⟩
set_option maxHeartbeats 1000000 in
theorem rInts_any (xs ys : List Int) (A B : Option Addr) (n m c d : Nat) (w : World) (hn : n = xs.length) (hm : m = ys.length) (hr : RdI w w.heap.size A xs) (hs : RdI w w.heap.size B ys) (hx : xs.length ≤ 9223372036854775807) (hy : ys.length ≤ 9223372036854775807) :
    Calls Try.prog 22 #[.slice A n c, .slice B m d] w fun e w' => e = .returned (.bool (decide (xs = ys))) ∧ Below w.heap.size w w' := by
  subst hn hm
  have HR := Lib.hid hr
  have HS := Lib.hid hs
  clear hr hs
  by_cases hl : xs.length = ys.length
  · have hl2 : ((xs.length : Int) != ys.length) = false := by simp [hl]
    go_enter Try.func22, Try.ntmps22
    have HL := Lib.hid hl
    clear hl
    go_wp2
    go_loopw [5] (fun  i wr => ∃ k : Nat, k ≤ xs.length ∧ i = .int .i64 k ∧ xs.take k = ys.take k ∧ Below w.heap.size w wr) (fun  i _ => xs.length - (intOf i).toNat)
    case atStart => exact ⟨0, Nat.zero_le _, rfl, by simp, Below.refl _ _⟩
    case round =>
      obtain ⟨k, hk, rfl, hf, hbw⟩ := hrel
      have HF := Lib.hid hf
      have HB := Lib.hid hbw
      clear hf
      by_cases hlt : k < xs.length
      · have hlt2 : k < ys.length := by have := HL.out; omega
        obtain ⟨b, off, hA, hb, c0⟩ := RdI_at (HR.out.now hbw) hlt
        obtain ⟨b2, off2, hA2, hb2, c1⟩ := RdI_at (HS.out.now hbw) hlt2
        subst hA hA2
        have HSt := Lib.hid (eq_take xs ys k hlt hlt2 HF.out)
        have HNe := Lib.hid (ne_at xs ys k hlt hlt2)
        have hi0 : (0 : Int) ≤ (k : Int) := by omega
        have hi1 : (k : Int) < (xs.length : Int) := by omega
        have hi2 : (k : Int) < (ys.length : Int) := by omega
        clear hbw
        generalize xs[k] = x at *
        generalize ys[k] = y at *
        by_cases hv : x = y
        · have hv2 : (x != y) = false := by simp [hv]
          have HV := Lib.hid hv
          clear hv
          go_wp2_with fail
          go_quiet (fail)
          go_wp2
          go_roundw
          case rel => exact ⟨k + 1, by omega, by go_num, HSt.out HV.out, below_drewN HB.out _⟩
          case measure => simp [intOf]; omega
        · have hv2 : (x != y) = true := by simp [hv]
          have HV := Lib.hid (HNe.out hv)
          clear hv
          go_wp2_with fail
          go_quiet (fail)
          go_wp2
          go_ret
          exact ⟨ret_bool (decide_eq_false HV.out).symm, below_drewN HB.out _⟩
      · have HE : Hid (xs = ys) := Lib.hid (by
          have h1 := HF.out
          have := HL.out
          rwa [List.take_of_length_le (by omega), List.take_of_length_le (by omega)] at h1)
        go_wp2
        go_ret
        exact ⟨ret_bool (decide_eq_true HE.out).symm, HB.out⟩
  · have hl2 : ((xs.length : Int) != ys.length) = true := by simp; omega
    have hne : decide (xs = ys) = false := decide_eq_false (fun h => hl (by rw [h]))
    rw [hne]
    clear hne hl
    go_enter Try.func22, Try.ntmps22
    go_wp2
    go_ret
    exact ⟨rfl, Below.refl _ _⟩
end Go.Proofs.Ytbpbdehnkkheiaa
