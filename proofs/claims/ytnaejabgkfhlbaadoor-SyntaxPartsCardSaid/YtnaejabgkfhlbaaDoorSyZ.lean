/- Boxes of profiles in a law of layer 12; contracts of linguaref12.Few and of lingualaw12.text. -/
import Derived.Test.YtnaejabgkfhlbaaDoorSyS
import Derived.Test.YtnaejabgkfhlbaaDoorSyX
import Derived.Test.YtnaejabgkfhlbaaDoorWyF
import Derived.Test.YtnaejabgkfhlbaaDoorSyU
set_option linter.unusedSimpArgs false
set_option linter.unusedVariables false
namespace Go.Proofs.YtnaejabgkfhlbaaDoor
open Go.RowKit

def few12 (p : Prof) : Bool := (p.types.take 25).all (fun s => decide (s.size ≤ 40)) && (decide (p.types.length ≤ 24) && decide (p.name.size ≤ 40))
theorem few12_len {p : Prof} (h : few12 p = true) : p.types.length ≤ 24 ∧ p.name.size ≤ 40 := by
  unfold few12 at h
  simp only [Bool.and_eq_true, decide_eq_true_eq] at h
  exact h.2
set_option maxRecDepth 100000 in
set_option maxHeartbeats 2000000 in
theorem few12_any (p : Prof) (A : Option Addr) (c : Nat) (w : World) (hr : ProfOk w w.heap.size A p) : Calls Tryd.prog 10 #[p.v A c] w fun e w' => e = .returned (.bool (few12 p)) ∧ Below w.heap.size w w' := by
  have hb0 : Below w.heap.size w (w.alloc (.cells (p.cs A c) 24)) := (Below.refl _ _).alloc (Nat.le_refl _) _
  have HR := Lib.hid (hr.now hb0).rd
  have hln := hr.len
  have hnm := hr.nm
  have HTs := Lib.hid hr.ts
  have HB := Lib.hid hb0
  clear hb0 hr
  go_enter Tryd.func10, Tryd.ntmps10
  go_wp2_with fail
  go_loop [3] (fun i => ∃ k : Nat, k ≤ p.types.length ∧ k ≤ 25 ∧ i = .int .i64 k ∧ (p.types.take k).all (fun s => decide (s.size ≤ 40)) = true) (fun i => 26 - (intOf i).toNat)
  case atStart => exact ⟨0, Nat.zero_le _, by decide, rfl, rfl⟩
  case round =>
    obtain ⟨k, hk, hk25, rfl, hal⟩ := hrel
    have HAl := Lib.hid hal
    clear hal
    by_cases hlt : k < p.types.length ∧ k ≤ 24
    · obtain ⟨hlt, hk24⟩ := hlt
      obtain ⟨b1, o1, s1, rfl, hb1, hs1, hc1⟩ := RdS_at HR.out hlt
      have hs64 := HTs.out s1 (List.mem_of_getElem? hs1)
      have HS1 := Lib.hid hs1
      have d1 : decide ((k : Int) < (p.types.length : Int)) = true := by simp; omega
      have d2 : decide ((k : Int) ≤ 24) = true := by simp; omega
      clear hs1
      cases hsz : decide ((40 : Int) < (s1.size : Int)) with
      | true =>
        have hbad : Hid (few12 p = false) := Lib.hid (by
          unfold few12
          have : (p.types.take 25).all (fun s => decide (s.size ≤ 40)) = false := by
            rw [Bool.eq_false_iff]
            intro h
            have hm : s1 ∈ p.types.take 25 := List.mem_of_getElem? (i := k) (by rw [List.getElem?_take, if_pos (by omega)]; exact HS1.out)
            have := List.all_eq_true.1 h s1 hm
            simp at this hsz
            omega
          rw [this]; rfl)
        go_wp2_with fail
        go_ret
        exact ⟨by rw [hbad.out]; rfl, HB.out⟩
      | false =>
        have HNx : Hid ((p.types.take (k + 1)).all (fun s => decide (s.size ≤ 40)) = true) := Lib.hid (by
          rw [List.take_add_one, HS1.out, List.all_append, HAl.out]
          simp at hsz ⊢
          omega)
        go_wp2_with fail
        go_round
        case rel => exact ⟨k + 1, by omega, by omega, by go_num, HNx.out⟩
        case measure => simp [intOf]; omega
    · have HE : Hid (few12 p = (decide (p.types.length ≤ 24) && decide (p.name.size ≤ 40))) := Lib.hid (by
        unfold few12
        by_cases h24 : p.types.length ≤ 24
        · have hke : k = p.types.length := by omega
          have h1 := HAl.out
          rw [hke, List.take_length] at h1
          rw [List.take_of_length_le (by omega), h1, Bool.true_and]
        · have hke : k = 25 := by omega
          have h1 := HAl.out
          rw [hke] at h1
          rw [h1, Bool.true_and])
      cases hln24 : decide ((p.types.length : Int) ≤ 24) with
      | true =>
        have hE2 : Hid (few12 p = decide ((p.name.size : Int) ≤ 40)) := Lib.hid (by
          rw [HE.out]
          have : decide (p.types.length ≤ 24) = true := by simp at hln24 ⊢; omega
          rw [this, Bool.true_and]
          rw [Bool.eq_iff_iff]; simp; omega)
        have hlen24 : p.types.length ≤ 24 := by simp at hln24; omega
        have hke : k = p.types.length := by omega
        subst hke
        clear HE hlt
        have d1 : decide ((p.types.length : Int) < (p.types.length : Int)) = false := by simp
        go_wp2_with fail
        go_ret
        exact ⟨by rw [hE2.out]; rfl, HB.out⟩
      | false =>
        have hE2 : Hid (few12 p = false) := Lib.hid (by
          rw [HE.out]
          have : decide (p.types.length ≤ 24) = false := by simp at hln24 ⊢; omega
          rw [this, Bool.false_and])
        have hlen24 : 24 < p.types.length := by simp at hln24; omega
        have hke : k = 25 := by omega
        subst hke
        have d1 : decide (((25 : Nat) : Int) ≤ 24) = false := by decide
        have d3 : decide (((25 : Nat) : Int) < (p.types.length : Int)) = decide (((25 : Nat) : Int) < (p.types.length : Int)) := rfl
        clear HE hlt
        cases hq : decide ((25 : Int) < (p.types.length : Int)) with
        | true =>
          go_wp2_with fail
          go_ret
          exact ⟨by rw [hE2.out]; rfl, HB.out⟩
        | false =>
          go_wp2_with fail
          go_ret
          exact ⟨by rw [hE2.out]; rfl, HB.out⟩
/-- The text of the documentation. -/
def textL : List UInt8 := [110, 101, 116, 119, 111, 114, 107, 32, 109, 97, 105, 108, 32, 59, 32, 101, 100, 105, 116, 32, 110, 111, 32, 59, 32, 100, 101, 108, 101, 116, 101, 32, 110, 111, 32, 59, 32, 114, 101, 97, 99, 116, 32, 110, 111, 32, 59, 32, 116, 104, 114, 101, 97, 100, 32, 116, 114, 101, 101, 32, 59, 32, 113, 117, 111, 116, 101, 32, 121, 101, 115, 32, 59, 32, 109, 101, 110, 116, 105, 111, 110, 32, 110, 111, 32, 59, 32, 115, 105, 122, 101, 32, 57, 48, 48, 32, 112, 97, 114, 116, 115, 32, 51, 32, 59, 32, 102, 105, 108, 101, 115, 32, 50, 32, 98, 121, 116, 101, 115, 32, 53, 48, 48, 48, 32, 116, 121, 112, 101, 115, 32, 112, 110, 103, 32, 112, 100, 102, 32, 59, 32, 106, 111, 105, 110, 32, 105, 110, 118, 105, 116, 101, 32, 59, 32, 104, 105, 115, 116, 111, 114, 121, 32, 115, 105, 110, 99, 101, 32, 59, 32, 114, 101, 109, 111, 118, 101, 32, 110, 111, 119, 32, 59, 32, 114, 101, 99, 101, 105, 112, 116, 115, 32, 115, 101, 110, 116, 32, 59, 32, 114, 97, 116, 101, 32, 52, 32, 100, 111, 119, 110, 32, 50, 32, 111, 102, 32, 49, 48, 32, 59]
theorem text12_any (w : World) : Calls Tryd.prog 24 #[] w fun e w' => e = .returned (.string (bs textL)) ∧ w = w' := by
  go_enter Tryd.func24, Tryd.ntmps24
  go_wp2_with fail
  go_ret
  exact ⟨rfl, rfl⟩
/-- What it says. -/
def mailP : Prof := ⟨bs [109, 97, 105, 108], 0, 0, 0, false, 2, true, false, 900, 3, 2, 5000, [bs [112, 110, 103], bs [112, 100, 102]], 0, 0, 0, 1, false, 4, 2, 10, 0⟩
theorem parse_text : parseL textL = (mailP, 0, 0) := by kernel_rfl
theorem parse_a : (parseL [110, 101, 116, 119, 111, 114, 107]).2 = (7, 12) := by kernel_rfl
theorem parse_b : (parseL [110, 101, 116, 119, 111, 114, 107, 32, 109, 97, 105, 108, 32, 59, 32, 101, 100, 105, 116, 32, 121, 101, 115, 32, 119, 105, 116, 104, 105, 110, 32, 48, 32, 59]).2 = (31, 3) := by kernel_rfl
theorem parse_c : (parseL [110, 101, 116, 119, 111, 114, 107, 32, 109, 97, 105, 108, 32, 59, 32, 100, 101, 108, 101, 116, 101, 32, 110, 111, 32, 59]).2 = (15, 12) := by kernel_rfl
theorem parse_d : (parseL (textL ++ [110, 101, 116, 119, 111, 114, 107])).2 = (221, 12) := by kernel_rfl
theorem mail_right : profRight mailP = true := by kernel_rfl
theorem text_len : textL.length = 221 := by kernel_rfl
theorem itoa_small : Lib.itoa 900 = [57, 48, 48] ∧ Lib.itoa 3 = [51] ∧ Lib.itoa 2 = [50] ∧ Lib.itoa 5000 = [53, 48, 48, 48] ∧ Lib.itoa 4 = [52] ∧ Lib.itoa 10 = [49, 48] := by
  refine ⟨?_, ?_, ?_, ?_, ?_, ?_⟩ <;> (rw [itoa_nat _ (by decide)]; simp [Lib.decDigits])
theorem print_text : (printF mailP).length = 222 := by
  rw [← print_lines]
  obtain ⟨h1, h2, h3, h4, h5, h6⟩ := itoa_small
  simp only [printL, headL, filesB, filesW, editB, keepB, levelW, mailP, h1, h2, h3, h4, h5, h6]
  kernel_rfl
/-- A box that holds a profile. -/
structure PA (b : Nat) (P : Prof) (A : Option Addr) (c : Nat) (w : World) : Prop where
  rng : w.rangeAt b 0 (P.cs A c).toList
  ok : ProfOk w w.heap.size A P
  lt : b < w.heap.size
  cap : P.types.length ≤ c
theorem PA.now {b : Nat} {P : Prof} {A : Option Addr} {c : Nat} {w w' : World} (h : PA b P A c w) (hb : Below w.heap.size w w') : PA b P A c w' :=
  ⟨fun j v hj => (hb.cell (p := ⟨b, 0 + j, none⟩) h.lt).trans (h.rng j v hj), h.ok.now hb, Nat.lt_of_lt_of_le h.lt hb.size, h.cap⟩
/-- The zero profile's box, just made. -/
theorem zero_there (w : World) : (w.alloc (.cells zeroCs 24)).there w.heap.size 0 22 := PBox.there (cs := zeroCs) (MapKept.heap_alloc w _).1
/-- A result of Parse, stored into a new box. -/
theorem PA.made {P : Prof} {A : Option Addr} {c : Nat} {w w2 : World} (hok : ProfOk w w.heap.size A P) (hc : P.types.length ≤ c) (hr : w2.rangeAt w.heap.size 0 (P.cs A c).toList) (hg : (w.alloc (.cells zeroCs 24)).grownBy w2 (some w.heap.size)) : PA w.heap.size P A c w2 ∧ Below w.heap.size w w2 := by
  have hb : Below w.heap.size w w2 := ((Below.refl _ _).alloc (Nat.le_refl _) _).grown hg (by simp) (fun k hk => by injection hk with hk; omega)
  refine ⟨⟨hr, hok.now hb, ?_, hc⟩, hb⟩
  have := hg.size
  simp at this
  omega
theorem PA.made2 {b : Nat} {P : Prof} {A : Option Addr} {c : Nat} {w w2 : World} (hb : b = w.heap.size) (hok : ProfOk w w.heap.size A P) (hc : P.types.length ≤ c) (hr : w2.rangeAt b 0 (P.cs A c).toList) (hg : (w.alloc (.cells zeroCs 24)).grownBy w2 (some b)) : PA b P A c w2 ∧ Below w.heap.size w w2 := by
  subst hb
  exact PA.made hok hc hr hg
theorem zero_there2 {b : Nat} (w : World) (hb : b = w.heap.size) : (w.alloc (.cells zeroCs 24)).there b 0 22 := hb ▸ zero_there w
/-- The boxes of a law. -/
def AllPA (l : List (Nat × Prof × Option Addr × Nat)) (w : World) : Prop := ∀ x ∈ l, PA x.1 x.2.1 x.2.2.1 x.2.2.2 w
theorem AllPA.nil_ {w : World} : AllPA [] w := fun _ h => by cases h
theorem AllPA.now {l : List (Nat × Prof × Option Addr × Nat)} {w w' : World} (h : AllPA l w) (hb : Below w.heap.size w w') : AllPA l w' := fun x hx => (h x hx).now hb
theorem AllPA.alloc {l : List (Nat × Prof × Option Addr × Nat)} {w : World} (h : AllPA l w) (o : Obj) : AllPA l (w.alloc o) := h.now ((Below.refl _ _).alloc (Nat.le_refl _) _)
theorem AllPA.cons {l : List (Nat × Prof × Option Addr × Nat)} {b : Nat} {P : Prof} {A : Option Addr} {c : Nat} {w : World} (hp : PA b P A c w) (h : AllPA l w) : AllPA ((b, P, A, c) :: l) w := fun x hx => by
  rcases List.mem_cons.1 hx with hx | hx
  · subst hx; exact hp
  · exact h x hx
-- ldArm TMP | b | P | A | c | HE : an arm: a whole profile is read out of the box b (slot TMP)
-- psCall k | L | HE | HB | CONTRACT : a call of Parse: HQk, HOkk, HBk (below w), HEk (the boxes)
-- stArm TMP | k : an arm: the profile of psCall k is stored into a box just made (HThk := zero_there wk): HFk (the boxes), HSk (below w)
end Go.Proofs.YtnaejabgkfhlbaaDoor
