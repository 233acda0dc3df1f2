/- Contracts and plain laws, joined: SyZ, SySm, SyTells, SyBack. -/
import Derived.Test.YtnaejabgkfhlbaaDoorQaw
import Derived.Test.YtnaejabgkfhlbaaDoorQaz
import Derived.Test.YtnaejabgkfhlbaaDoorQal
import Derived.Test.YtnaejabgkfhlbaaDoorQba
import Derived.Test.YtnaejabgkfhlbaaDoorQbb
/- Boxes of profiles in a law of layer 12; contracts of linguaref12.Few and of lingualaw12.text. -/
set_option linter.unusedSimpArgs false
set_option linter.unusedVariables false
namespace Go.Proofs.YtnaejabgkfhlbaaDoor
open Go.RowKit

def few12 (p : Prof) : Bool := (p.types.take 25).all (fun s => decide (s.size ≤ 40)) && (decide (p.types.length ≤ 24) && decide (p.name.size ≤ 40))
theorem few12_len {p : Prof} (h : few12 p = true) : p.types.length ≤ 24 ∧ p.name.size ≤ 40 := by
  unfold few12 at h
  simp only [Bool.and_eq_true, decide_eq_true_eq] at h
  exact h.2
set_option maxRecDepth 100000 in
set_option maxHeartbeats 2000000 in
theorem few12_any (p : Prof) (A : Option Addr) (c : Nat) (w : World) (hr : ProfOk w w.heap.size A p) : Calls Tryd.prog 10 #[p.v A c] w fun e w' => e = .returned (.bool (few12 p)) ∧ Below w.heap.size w w' := by
  have hb0 : Below w.heap.size w (w.alloc (.cells (p.cs A c) 24)) := (Below.refl _ _).alloc (Nat.le_refl _) _
  have HR := Lib.hid (hr.now hb0).rd
  have hln := hr.len
  have hnm := hr.nm
  have HTs := Lib.hid hr.ts
  have HB := Lib.hid hb0
  clear hb0 hr
  go_enter Tryd.func10, Tryd.ntmps10
  go_wp2_with fail
  go_loop [3] (fun i => ∃ k : Nat, k ≤ p.types.length ∧ k ≤ 25 ∧ i = .int .i64 k ∧ (p.types.take k).all (fun s => decide (s.size ≤ 40)) = true) (fun i => 26 - (intOf i).toNat)
  case atStart => exact ⟨0, Nat.zero_le _, by decide, rfl, rfl⟩
  case round =>
    obtain ⟨k, hk, hk25, rfl, hal⟩ := hrel
    have HAl := Lib.hid hal
    clear hal
    by_cases hlt : k < p.types.length ∧ k ≤ 24
    · obtain ⟨hlt, hk24⟩ := hlt
      obtain ⟨b1, o1, s1, rfl, hb1, hs1, hc1⟩ := RdS_at HR.out hlt
      have hs64 := HTs.out s1 (List.mem_of_getElem? hs1)
      have HS1 := Lib.hid hs1
      have d1 : decide ((k : Int) < (p.types.length : Int)) = true := by simp; omega
      have d2 : decide ((k : Int) ≤ 24) = true := by simp; omega
      clear hs1
      cases hsz : decide ((40 : Int) < (s1.size : Int)) with
      | true =>
        have hbad : Hid (few12 p = false) := Lib.hid (by
          unfold few12
          have : (p.types.take 25).all (fun s => decide (s.size ≤ 40)) = false := by
            rw [Bool.eq_false_iff]
            intro h
            have hm : s1 ∈ p.types.take 25 := List.mem_of_getElem? (i := k) (by rw [List.getElem?_take, if_pos (by omega)]; exact HS1.out)
            have := List.all_eq_true.1 h s1 hm
            simp at this hsz
            omega
          rw [this]; rfl)
        go_wp2_with fail
        go_ret
        exact ⟨by rw [hbad.out]; rfl, HB.out⟩
      | false =>
        have HNx : Hid ((p.types.take (k + 1)).all (fun s => decide (s.size ≤ 40)) = true) := Lib.hid (by
          rw [List.take_add_one, HS1.out, List.all_append, HAl.out]
          simp at hsz ⊢
          omega)
        go_wp2_with fail
        go_round
        case rel => exact ⟨k + 1, by omega, by omega, by go_num, HNx.out⟩
        case measure => simp [intOf]; omega
    · have HE : Hid (few12 p = (decide (p.types.length ≤ 24) && decide (p.name.size ≤ 40))) := Lib.hid (by
        unfold few12
        by_cases h24 : p.types.length ≤ 24
        · have hke : k = p.types.length := by omega
          have h1 := HAl.out
          rw [hke, List.take_length] at h1
          rw [List.take_of_length_le (by omega), h1, Bool.true_and]
        · have hke : k = 25 := by omega
          have h1 := HAl.out
          rw [hke] at h1
          rw [h1, Bool.true_and])
      cases hln24 : decide ((p.types.length : Int) ≤ 24) with
      | true =>
        have hE2 : Hid (few12 p = decide ((p.name.size : Int) ≤ 40)) := Lib.hid (by
          rw [HE.out]
          have : decide (p.types.length ≤ 24) = true := by simp at hln24 ⊢; omega
          rw [this, Bool.true_and]
          rw [Bool.eq_iff_iff]; simp; omega)
        have hlen24 : p.types.length ≤ 24 := by simp at hln24; omega
        have hke : k = p.types.length := by omega
        subst hke
        clear HE hlt
        have d1 : decide ((p.types.length : Int) < (p.types.length : Int)) = false := by simp
        go_wp2_with fail
        go_ret
        exact ⟨by rw [hE2.out]; rfl, HB.out⟩
      | false =>
        have hE2 : Hid (few12 p = false) := Lib.hid (by
          rw [HE.out]
          have : decide (p.types.length ≤ 24) = false := by simp at hln24 ⊢; omega
          rw [this, Bool.false_and])
        have hlen24 : 24 < p.types.length := by simp at hln24; omega
        have hke : k = 25 := by omega
        subst hke
        have d1 : decide (((25 : Nat) : Int) ≤ 24) = false := by decide
        have d3 : decide (((25 : Nat) : Int) < (p.types.length : Int)) = decide (((25 : Nat) : Int) < (p.types.length : Int)) := rfl
        clear HE hlt
        cases hq : decide ((25 : Int) < (p.types.length : Int)) with
        | true =>
          go_wp2_with fail
          go_ret
          exact ⟨by rw [hE2.out]; rfl, HB.out⟩
        | false =>
          go_wp2_with fail
          go_ret
          exact ⟨by rw [hE2.out]; rfl, HB.out⟩
/-- The text of the documentation. -/
def textL : List UInt8 := [110, 101, 116, 119, 111, 114, 107, 32, 109, 97, 105, 108, 32, 59, 32, 101, 100, 105, 116, 32, 110, 111, 32, 59, 32, 100, 101, 108, 101, 116, 101, 32, 110, 111, 32, 59, 32, 114, 101, 97, 99, 116, 32, 110, 111, 32, 59, 32, 116, 104, 114, 101, 97, 100, 32, 116, 114, 101, 101, 32, 59, 32, 113, 117, 111, 116, 101, 32, 121, 101, 115, 32, 59, 32, 109, 101, 110, 116, 105, 111, 110, 32, 110, 111, 32, 59, 32, 115, 105, 122, 101, 32, 57, 48, 48, 32, 112, 97, 114, 116, 115, 32, 51, 32, 59, 32, 102, 105, 108, 101, 115, 32, 50, 32, 98, 121, 116, 101, 115, 32, 53, 48, 48, 48, 32, 116, 121, 112, 101, 115, 32, 112, 110, 103, 32, 112, 100, 102, 32, 59, 32, 106, 111, 105, 110, 32, 105, 110, 118, 105, 116, 101, 32, 59, 32, 104, 105, 115, 116, 111, 114, 121, 32, 115, 105, 110, 99, 101, 32, 59, 32, 114, 101, 109, 111, 118, 101, 32, 110, 111, 119, 32, 59, 32, 114, 101, 99, 101, 105, 112, 116, 115, 32, 115, 101, 110, 116, 32, 59, 32, 114, 97, 116, 101, 32, 52, 32, 100, 111, 119, 110, 32, 50, 32, 111, 102, 32, 49, 48, 32, 59]
theorem text12_any (w : World) : Calls Tryd.prog 24 #[] w fun e w' => e = .returned (.string (bs textL)) ∧ w = w' := by
  go_enter Tryd.func24, Tryd.ntmps24
  go_wp2_with fail
  go_ret
  exact ⟨rfl, rfl⟩
/-- What it says. -/
def mailP : Prof := ⟨bs [109, 97, 105, 108], 0, 0, 0, false, 2, true, false, 900, 3, 2, 5000, [bs [112, 110, 103], bs [112, 100, 102]], 0, 0, 0, 1, false, 4, 2, 10, 0⟩
theorem parse_text : parseL textL = (mailP, 0, 0) := by kernel_rfl
theorem parse_a : (parseL [110, 101, 116, 119, 111, 114, 107]).2 = (7, 12) := by kernel_rfl
theorem parse_b : (parseL [110, 101, 116, 119, 111, 114, 107, 32, 109, 97, 105, 108, 32, 59, 32, 101, 100, 105, 116, 32, 121, 101, 115, 32, 119, 105, 116, 104, 105, 110, 32, 48, 32, 59]).2 = (31, 3) := by kernel_rfl
theorem parse_c : (parseL [110, 101, 116, 119, 111, 114, 107, 32, 109, 97, 105, 108, 32, 59, 32, 100, 101, 108, 101, 116, 101, 32, 110, 111, 32, 59]).2 = (15, 12) := by kernel_rfl
theorem parse_d : (parseL (textL ++ [110, 101, 116, 119, 111, 114, 107])).2 = (221, 12) := by kernel_rfl
theorem mail_right : profRight mailP = true := by kernel_rfl
theorem text_len : textL.length = 221 := by kernel_rfl
theorem itoa_small : Lib.itoa 900 = [57, 48, 48] ∧ Lib.itoa 3 = [51] ∧ Lib.itoa 2 = [50] ∧ Lib.itoa 5000 = [53, 48, 48, 48] ∧ Lib.itoa 4 = [52] ∧ Lib.itoa 10 = [49, 48] := by
  refine ⟨?_, ?_, ?_, ?_, ?_, ?_⟩ <;> (rw [itoa_nat _ (by decide)]; simp [Lib.decDigits])
theorem print_text : (printF mailP).length = 222 := by
  rw [← print_lines]
  obtain ⟨h1, h2, h3, h4, h5, h6⟩ := itoa_small
  simp only [printL, headL, filesB, filesW, editB, keepB, levelW, mailP, h1, h2, h3, h4, h5, h6]
  kernel_rfl
/-- A box that holds a profile. -/
structure PA (b : Nat) (P : Prof) (A : Option Addr) (c : Nat) (w : World) : Prop where
  rng : w.rangeAt b 0 (P.cs A c).toList
  ok : ProfOk w w.heap.size A P
  lt : b < w.heap.size
  cap : P.types.length ≤ c
theorem PA.now {b : Nat} {P : Prof} {A : Option Addr} {c : Nat} {w w' : World} (h : PA b P A c w) (hb : Below w.heap.size w w') : PA b P A c w' :=
  ⟨fun j v hj => (hb.cell (p := ⟨b, 0 + j, none⟩) h.lt).trans (h.rng j v hj), h.ok.now hb, Nat.lt_of_lt_of_le h.lt hb.size, h.cap⟩
/-- The zero profile's box, just made. -/
theorem zero_there (w : World) : (w.alloc (.cells zeroCs 24)).there w.heap.size 0 22 := PBox.there (cs := zeroCs) (MapKept.heap_alloc w _).1
/-- A result of Parse, stored into a new box. -/
theorem PA.made {P : Prof} {A : Option Addr} {c : Nat} {w w2 : World} (hok : ProfOk w w.heap.size A P) (hc : P.types.length ≤ c) (hr : w2.rangeAt w.heap.size 0 (P.cs A c).toList) (hg : (w.alloc (.cells zeroCs 24)).grownBy w2 (some w.heap.size)) : PA w.heap.size P A c w2 ∧ Below w.heap.size w w2 := by
  have hb : Below w.heap.size w w2 := ((Below.refl _ _).alloc (Nat.le_refl _) _).grown hg (by simp) (fun k hk => by injection hk with hk; omega)
  refine ⟨⟨hr, hok.now hb, ?_, hc⟩, hb⟩
  have := hg.size
  simp at this
  omega
theorem PA.made2 {b : Nat} {P : Prof} {A : Option Addr} {c : Nat} {w w2 : World} (hb : b = w.heap.size) (hok : ProfOk w w.heap.size A P) (hc : P.types.length ≤ c) (hr : w2.rangeAt b 0 (P.cs A c).toList) (hg : (w.alloc (.cells zeroCs 24)).grownBy w2 (some b)) : PA b P A c w2 ∧ Below w.heap.size w w2 := by
  subst hb
  exact PA.made hok hc hr hg
theorem zero_there2 {b : Nat} (w : World) (hb : b = w.heap.size) : (w.alloc (.cells zeroCs 24)).there b 0 22 := hb ▸ zero_there w
/-- The boxes of a law. -/
def AllPA (l : List (Nat × Prof × Option Addr × Nat)) (w : World) : Prop := ∀ x ∈ l, PA x.1 x.2.1 x.2.2.1 x.2.2.2 w
theorem AllPA.nil_ {w : World} : AllPA [] w := fun _ h => by cases h
theorem AllPA.now {l : List (Nat × Prof × Option Addr × Nat)} {w w' : World} (h : AllPA l w) (hb : Below w.heap.size w w') : AllPA l w' := fun x hx => (h x hx).now hb
theorem AllPA.alloc {l : List (Nat × Prof × Option Addr × Nat)} {w : World} (h : AllPA l w) (o : Obj) : AllPA l (w.alloc o) := h.now ((Below.refl _ _).alloc (Nat.le_refl _) _)
theorem AllPA.cons {l : List (Nat × Prof × Option Addr × Nat)} {b : Nat} {P : Prof} {A : Option Addr} {c : Nat} {w : World} (hp : PA b P A c w) (h : AllPA l w) : AllPA ((b, P, A, c) :: l) w := fun x hx => by
  rcases List.mem_cons.1 hx with hx | hx
  · subst hx; exact hp
  · exact h x hx
-- ldArm TMP | b | P | A | c | HE : an arm: a whole profile is read out of the box b (slot TMP)
-- psCall k | L | HE | HB | CONTRACT : a call of Parse: HQk, HOkk, HBk (below w), HEk (the boxes)
-- stArm TMP | k : an arm: the profile of psCall k is stored into a box just made (HThk := zero_there wk): HFk (the boxes), HSk (below w)
end Go.Proofs.YtnaejabgkfhlbaaDoor
/- Contract of lingualaw12.small. -/
set_option linter.unusedSimpArgs false
set_option linter.unusedVariables false
namespace Go.Proofs.YtnaejabgkfhlbaaDoor
open Go.RowKit

theorem textL_20 : textL.length ≤ 1000000 := by rw [text_len]; decide
set_option maxRecDepth 100000 in
set_option maxHeartbeats 8000000 in
theorem small12_any (B : Nat) (w : World) (hV : Vs B w) : Calls Tryd.prog 9 #[] w fun e w' => e = .returned (.bool true) ∧ Below w.heap.size w w' := by
  have HV := Lib.hid hV
  have HB0 := Lib.hid (Below.refl w.heap.size w)
  have HE0 : Hid (AllPA [] w) := Lib.hid AllPA.nil_
  have HTx := Lib.hid text12_any
  have hl20 := textL_20
  have HPT := Lib.hid parse_text
  have HPD := Lib.hid parse_d
  have HTL := Lib.hid text_len
  have HPn := Lib.hid print_text
  clear hV
  generalize textL = lt at *
  obtain ⟨M, hM⟩ : ∃ M, M = mailP := ⟨_, rfl⟩
  have HM := Lib.hid hM
  rw [← hM] at HPT HPn
  have HR : Hid (profRight M = true) := Lib.hid (by rw [hM]; exact mail_right)
  clear hM
  go_enter Tryd.func9, Tryd.ntmps9
  go_wp2_with fail
  refine (HTx.out _).mono ?_
  rintro e wy ⟨rfl, rfl⟩
  go_wp2_with fail
  refine (parse_any lt _ hl20).mono ?_
  rintro e w1 ⟨hb1, A1, c1, rfl, hok1, hA1, hcap1⟩
  generalize hq1 : parseL (lt) = q at *
  obtain ⟨P1, pos1, er1⟩ := q
  dsimp only at hok1 hcap1 ⊢
  have HQ1 := Lib.hid hq1
  have HOk1 := Lib.hid hok1
  have HB1 := Lib.hid ((HB0.out).trans (hb1.mono (HB0.out).size))
  have HE1 := Lib.hid ((HE0.out).now hb1)
  clear hq1 hok1 hb1 hA1
  obtain ⟨hP1, rfl, rfl⟩ : P1 = M ∧ pos1 = 0 ∧ er1 = 0 := by
    have hq := HPT.out
    injection hq with a b
    injection b with c d
    exact ⟨a, c, d⟩
  have HP1 := Lib.hid hP1
  clear hP1
  have HTh1 := Lib.hid (zero_there w1)
  go_upto_region 2 with (first
      | ((with_reducible show wpList _ _ _ (Oper.mk _ (Op.store 24 (Operand.tmp 1) _) _ _ _ _ :: _) _ _); refine wpList_store_box rfl 24 _ _ rfl w1.heap.size (P1.cs A1 c1) ?x1 ?x2 HTh1.out (by kernel_rfl) (by simp [Value.oneCell']) ?_; (case x1 => rfl); (case x2 => rfl); intro ws1 hr ht hg; (obtain ⟨hpa, hbb⟩ := PA.made2 rfl HOk1.out hcap1 hr hg); have HF1 := Lib.hid (AllPA.cons hpa (HE1.out.now hbb)); have HS1 := Lib.hid (HB1.out.trans (hbb.mono HB1.out.size)); clear hr ht hg hpa hbb)
      | fail)
  have HTh2 := Lib.hid (show ((ws1.alloc (.cells #[.string ⟨#[112, 110, 103]⟩, .string ⟨#[112, 100, 102]⟩] 9)).alloc (.cells zeroCs 24)).there (ws1.heap.size + 1) 0 22 from zero_there2 _ (by simp))
  have HOk2 : Hid (ProfOk (ws1.alloc (.cells #[.string ⟨#[112, 110, 103]⟩, .string ⟨#[112, 100, 102]⟩] 9)) (ws1.alloc (.cells #[.string ⟨#[112, 110, 103]⟩, .string ⟨#[112, 100, 102]⟩] 9)).heap.size (some ⟨ws1.heap.size, 0, none⟩) mailP) :=
    Lib.hid ⟨strE_rd (tabS ws1 [[112, 110, 103], [112, 100, 102]] _ _ rfl rfl), by show (4 : Nat) ≤ _; decide, by show (2 : Nat) ≤ _; decide, fun s hs => by
      have : s = bs [112, 110, 103] ∨ s = bs [112, 100, 102] := by simpa [mailP] using hs
      rcases this with rfl | rfl <;> (show (3 : Nat) ≤ _; decide)⟩
  have HE2 := Lib.hid (HF1.out.alloc (.cells #[.string ⟨#[112, 110, 103]⟩, .string ⟨#[112, 100, 102]⟩] 9))
  have HB2 := Lib.hid (HS1.out.alloc HS1.out.size (.cells #[.string ⟨#[112, 110, 103]⟩, .string ⟨#[112, 100, 102]⟩] 9))
  go_upto_region 3 with (first
      | ((with_reducible show wpList _ _ _ (Oper.mk _ (Op.store 24 (Operand.tmp 4) _) _ _ _ _ :: _) _ _); refine wpList_store_box rfl 24 _ _ rfl (ws1.heap.size + 1) (mailP.cs (some ⟨ws1.heap.size, 0, none⟩) 2) ?x1 ?x2 HTh2.out (by kernel_rfl) (by simp [Value.oneCell']) ?_; (case x1 => rfl); (case x2 => rfl); intro ws2 hr ht hg; (obtain ⟨hpa, hbb⟩ := PA.made2 (by simp) HOk2.out (show mailP.types.length ≤ 2 from Nat.le_refl 2) hr hg); have HF2 := Lib.hid (AllPA.cons hpa (HE2.out.now hbb)); have HS2 := Lib.hid (HB2.out.trans (hbb.mono HB2.out.size)); clear hr ht hg hpa hbb)
      | fail)
  rw [← HM.out] at HF2
  obtain ⟨b2, hb2⟩ : ∃ b, b = ws1.heap.size + 1 := ⟨_, rfl⟩
  obtain ⟨A2, hA2⟩ : ∃ A : Option Addr, A = some ⟨ws1.heap.size, 0, none⟩ := ⟨_, rfl⟩
  rw [← hb2, ← hA2] at HF2
  rw [← hb2]
  clear HTh2 HOk2 HE2 HB2 HF1 HS1 HOk1 HE1 HB1 HTh1 hb2 hA2
  go_wp2_with (first
      | ((with_reducible show wpList _ _ _ (Oper.mk _ (Op.load 24 (Operand.tmp 1)) _ _ _ _ :: _) _ _); refine wpList_load_w rfl 24 (.tmp 1) rfl (w1.heap.size) 0 rfl ((P1).cs (A1) (c1)).toList _ ((HF2).out (w1.heap.size, P1, A1, c1) (by simp)).rng Tryd.underlying24 rfl (by kernel_rfl) ?_)
      | fail)
  have HPr1 : Hid (profRight P1 = true) := Lib.hid (by rw [HP1.out]; exact HR.out)
  have HPn1 : Hid ((printF P1).length = 222) := Lib.hid (by rw [HP1.out]; exact HPn.out)
  refine (print_any P1 A1 c1 B _ (HF2.out (w1.heap.size, P1, A1, c1) (by simp)).ok hcap1 (HV.out.now HS2.out)).mono ?_
  rintro e w3 ⟨rfl, hb3⟩
  rw [HPr1.out]
  have HF3 := Lib.hid (HF2.out.now hb3)
  have HS3 := Lib.hid (HS2.out.trans (hb3.mono HS2.out.size))
  clear hb3 HF2 HS2
  simp only [if_true]
  generalize hpl : printF P1 = pl at *
  clear hpl
  go_wp2_with fail
  have hp4 := parse_a
  refine (parse_any [110, 101, 116, 119, 111, 114, 107] _ (by decide)).mono ?_
  rintro e w4 ⟨hb4, A4, c4, rfl, hok4, hA4, hcap4⟩
  generalize hq4 : parseL ([110, 101, 116, 119, 111, 114, 107]) = q at *
  obtain ⟨P4, pos4, er4⟩ := q
  dsimp only at hok4 hcap4 ⊢
  have HQ4 := Lib.hid hq4
  have HOk4 := Lib.hid hok4
  have HB4 := Lib.hid ((HS3.out).trans (hb4.mono (HS3.out).size))
  have HE4 := Lib.hid ((HF3.out).now hb4)
  clear hq4 hok4 hb4 hA4
  obtain ⟨rfl, rfl⟩ : pos4 = 7 ∧ er4 = 12 := by
    have hq := hp4
    injection hq with a c
    exact ⟨a, c⟩
  have HTh4 := Lib.hid (zero_there w4)
  go_upto_region 5 with (first
      | ((with_reducible show wpList _ _ _ (Oper.mk _ (Op.store 24 (Operand.tmp 7) _) _ _ _ _ :: _) _ _); refine wpList_store_box rfl 24 _ _ rfl w4.heap.size (P4.cs A4 c4) ?x1 ?x2 HTh4.out (by kernel_rfl) (by simp [Value.oneCell']) ?_; (case x1 => rfl); (case x2 => rfl); intro ws4 hr ht hg; (obtain ⟨hpa, hbb⟩ := PA.made2 rfl HOk4.out hcap4 hr hg); have HF4 := Lib.hid (AllPA.cons hpa (HE4.out.now hbb)); have HS4 := Lib.hid (HB4.out.trans (hbb.mono HB4.out.size)); clear hr ht hg hpa hbb)
      | fail)
  clear HTh4 HOk4 HE4 HB4 HF3 HS3 hp4
  go_wp2_with fail
  have hp5 := parse_b
  refine (parse_any [110, 101, 116, 119, 111, 114, 107, 32, 109, 97, 105, 108, 32, 59, 32, 101, 100, 105, 116, 32, 121, 101, 115, 32, 119, 105, 116, 104, 105, 110, 32, 48, 32, 59] _ (by decide)).mono ?_
  rintro e w5 ⟨hb5, A5, c5, rfl, hok5, hA5, hcap5⟩
  generalize hq5 : parseL ([110, 101, 116, 119, 111, 114, 107, 32, 109, 97, 105, 108, 32, 59, 32, 101, 100, 105, 116, 32, 121, 101, 115, 32, 119, 105, 116, 104, 105, 110, 32, 48, 32, 59]) = q at *
  obtain ⟨P5, pos5, er5⟩ := q
  dsimp only at hok5 hcap5 ⊢
  have HQ5 := Lib.hid hq5
  have HOk5 := Lib.hid hok5
  have HB5 := Lib.hid ((HS4.out).trans (hb5.mono (HS4.out).size))
  have HE5 := Lib.hid ((HF4.out).now hb5)
  clear hq5 hok5 hb5 hA5
  obtain ⟨rfl, rfl⟩ : pos5 = 31 ∧ er5 = 3 := by
    have hq := hp5
    injection hq with a c
    exact ⟨a, c⟩
  have HTh5 := Lib.hid (zero_there w5)
  go_upto_region 6 with (first
      | ((with_reducible show wpList _ _ _ (Oper.mk _ (Op.store 24 (Operand.tmp 10) _) _ _ _ _ :: _) _ _); refine wpList_store_box rfl 24 _ _ rfl w5.heap.size (P5.cs A5 c5) ?x1 ?x2 HTh5.out (by kernel_rfl) (by simp [Value.oneCell']) ?_; (case x1 => rfl); (case x2 => rfl); intro ws5 hr ht hg; (obtain ⟨hpa, hbb⟩ := PA.made2 rfl HOk5.out hcap5 hr hg); have HF5 := Lib.hid (AllPA.cons hpa (HE5.out.now hbb)); have HS5 := Lib.hid (HB5.out.trans (hbb.mono HB5.out.size)); clear hr ht hg hpa hbb)
      | fail)
  clear HTh5 HOk5 HE5 HB5 HF4 HS4 hp5
  go_wp2_with fail
  have hp6 := parse_c
  refine (parse_any [110, 101, 116, 119, 111, 114, 107, 32, 109, 97, 105, 108, 32, 59, 32, 100, 101, 108, 101, 116, 101, 32, 110, 111, 32, 59] _ (by decide)).mono ?_
  rintro e w6 ⟨hb6, A6, c6, rfl, hok6, hA6, hcap6⟩
  generalize hq6 : parseL ([110, 101, 116, 119, 111, 114, 107, 32, 109, 97, 105, 108, 32, 59, 32, 100, 101, 108, 101, 116, 101, 32, 110, 111, 32, 59]) = q at *
  obtain ⟨P6, pos6, er6⟩ := q
  dsimp only at hok6 hcap6 ⊢
  have HQ6 := Lib.hid hq6
  have HOk6 := Lib.hid hok6
  have HB6 := Lib.hid ((HS5.out).trans (hb6.mono (HS5.out).size))
  have HE6 := Lib.hid ((HF5.out).now hb6)
  clear hq6 hok6 hb6 hA6
  obtain ⟨rfl, rfl⟩ : pos6 = 15 ∧ er6 = 12 := by
    have hq := hp6
    injection hq with a c
    exact ⟨a, c⟩
  have HTh6 := Lib.hid (zero_there w6)
  go_upto_region 7 with (first
      | ((with_reducible show wpList _ _ _ (Oper.mk _ (Op.store 24 (Operand.tmp 13) _) _ _ _ _ :: _) _ _); refine wpList_store_box rfl 24 _ _ rfl w6.heap.size (P6.cs A6 c6) ?x1 ?x2 HTh6.out (by kernel_rfl) (by simp [Value.oneCell']) ?_; (case x1 => rfl); (case x2 => rfl); intro ws6 hr ht hg; (obtain ⟨hpa, hbb⟩ := PA.made2 rfl HOk6.out hcap6 hr hg); have HF6 := Lib.hid (AllPA.cons hpa (HE6.out.now hbb)); have HS6 := Lib.hid (HB6.out.trans (hbb.mono HB6.out.size)); clear hr ht hg hpa hbb)
      | fail)
  clear HTh6 HOk6 HE6 HB6 HF5 HS5 hp6
  go_wp2_with fail
  refine (HTx.out _).mono ?_
  rintro e wy ⟨rfl, rfl⟩
  go_wp2_with (first
      | ((with_reducible show wpList _ _ _ (Oper.mk _ (Op.binOp .add 9 _ _ _) _ _ _ _ :: _) _ _); refine wp_cat rfl rfl Tryd.underlying9 rfl rfl (by first | omega | (simp; done) | (simp; omega)) ?_)
      | fail)
  refine (parse_any (lt ++ [110, 101, 116, 119, 111, 114, 107]) _ (by have := HTL.out; simp; omega)).mono ?_
  rintro e w7 ⟨hb7, A7, c7, rfl, hok7, hA7, hcap7⟩
  generalize hq7 : parseL ((lt ++ [110, 101, 116, 119, 111, 114, 107])) = q at *
  obtain ⟨P7, pos7, er7⟩ := q
  dsimp only at hok7 hcap7 ⊢
  have HQ7 := Lib.hid hq7
  have HOk7 := Lib.hid hok7
  have HB7 := Lib.hid ((HS6.out).trans (hb7.mono (HS6.out).size))
  have HE7 := Lib.hid ((HF6.out).now hb7)
  clear hq7 hok7 hb7 hA7
  obtain ⟨rfl, rfl⟩ : pos7 = 221 ∧ er7 = 12 := by
    have hq := HPD.out
    injection hq with a c
    exact ⟨a, c⟩
  have HTh7 := Lib.hid (zero_there w7)
  go_upto_region 8 with (first
      | ((with_reducible show wpList _ _ _ (Oper.mk _ (Op.store 24 (Operand.tmp 16) _) _ _ _ _ :: _) _ _); refine wpList_store_box rfl 24 _ _ rfl w7.heap.size (P7.cs A7 c7) ?x1 ?x2 HTh7.out (by kernel_rfl) (by simp [Value.oneCell']) ?_; (case x1 => rfl); (case x2 => rfl); intro ws7 hr ht hg; (obtain ⟨hpa, hbb⟩ := PA.made2 rfl HOk7.out hcap7 hr hg); have HF7 := Lib.hid (AllPA.cons hpa (HE7.out.now hbb)); have HS7 := Lib.hid (HB7.out.trans (hbb.mono HB7.out.size)); clear hr ht hg hpa hbb)
      | fail)
  clear HTh7 HOk7 HE7 HB7 HF6 HS6
  have hl1 := HTL.out
  have hl2 := HPn1.out
  have HSame : Hid (sameP P1 M = true) := Lib.hid ((sameP_iff _ _).2 HP1.out)
  have hokP := (HF7.out (w1.heap.size, P1, A1, c1) (by simp)).ok
  have hokM := (HF7.out (b2, M, A2, 2) (by simp)).ok
  have HoP := Lib.hid hokP
  have HoM := Lib.hid hokM
  clear hokP hokM
  have hL1 : P1.types.length ≤ 1000 := by rw [HP1.out, HM.out]; show (2 : Nat) ≤ 1000; decide
  have hL2 : M.types.length ≤ 1000 := by rw [HM.out]; show (2 : Nat) ≤ 1000; decide
  have HLs := Lib.hid (And.intro hL1 hL2)
  clear hL1 hL2
  go_wp2_with (first
      | ((with_reducible show wpList _ _ _ (Oper.mk _ (Op.load 24 (Operand.tmp 1)) _ _ _ _ :: _) _ _); refine wpList_load_w rfl 24 (.tmp 1) rfl (w1.heap.size) 0 rfl ((P1).cs (A1) (c1)).toList _ ((HF7).out (w1.heap.size, P1, A1, c1) (by simp)).rng Tryd.underlying24 rfl (by kernel_rfl) ?_)
      | ((with_reducible show wpList _ _ _ (Oper.mk _ (Op.load 24 (Operand.tmp 4)) _ _ _ _ :: _) _ _); refine wpList_load_w rfl 24 (.tmp 4) rfl (b2) 0 rfl ((M).cs (A2) (2)).toList _ ((HF7).out (b2, M, A2, 2) (by simp)).rng Tryd.underlying24 rfl (by kernel_rfl) ?_)
      | fail)
  refine (rSame_any P1 M A1 A2 c1 2 _ HoP.out HoM.out HLs.out.1 HLs.out.2).mono ?_
  rintro e w8 ⟨rfl, hb8⟩
  rw [HSame.out]
  have HF8 := Lib.hid (HF7.out.now hb8)
  have HS8 := Lib.hid (HS7.out.trans (hb8.mono HS7.out.size))
  clear hb8 HF7 HS7 HoP HoM
  have hz1 : (bs pl).size = pl.length := bs_size _
  have hz2 : (bs lt).size = lt.length := bs_size _
  rw [hl2] at hz1
  rw [hl1] at hz2
  go_wp2_with fail
  refine (HTx.out _).mono ?_
  rintro e wy ⟨rfl, rfl⟩
  go_wp2_with fail
  refine (HTx.out _).mono ?_
  rintro e wy ⟨rfl, rfl⟩
  have HoP := Lib.hid (HF8.out (w1.heap.size, P1, A1, c1) (by simp)).ok
  go_wp2_with (first
      | ((with_reducible show wpList _ _ _ (Oper.mk _ (Op.load 24 (Operand.tmp 1)) _ _ _ _ :: _) _ _); refine wpList_load_w rfl 24 (.tmp 1) rfl (w1.heap.size) 0 rfl ((P1).cs (A1) (c1)).toList _ ((HF8).out (w1.heap.size, P1, A1, c1) (by simp)).rng Tryd.underlying24 rfl (by kernel_rfl) ?_)
      | ((with_reducible show wpList _ _ _ (Oper.mk _ (Op.load 24 (Operand.tmp 4)) _ _ _ _ :: _) _ _); refine wpList_load_w rfl 24 (.tmp 4) rfl (b2) 0 rfl ((M).cs (A2) (2)).toList _ ((HF8).out (b2, M, A2, 2) (by simp)).rng Tryd.underlying24 rfl (by kernel_rfl) ?_)
      | fail)
  refine (pRight_any P1 A1 c1 _ HoP.out).mono ?_
  rintro e w9 ⟨rfl, hb9⟩
  rw [HPr1.out]
  have HF9 := Lib.hid (HF8.out.now hb9)
  have HS9 := Lib.hid (HS8.out.trans (hb9.mono HS8.out.size))
  have HoP9 := Lib.hid (HF9.out (w1.heap.size, P1, A1, c1) (by simp)).ok
  have HoM9 := Lib.hid (HF9.out (b2, M, A2, 2) (by simp)).ok
  clear hb9 HF8 HS8 HoP
  go_wp2_with (first
      | ((with_reducible show wpList _ _ _ (Oper.mk _ (Op.load 24 (Operand.tmp 1)) _ _ _ _ :: _) _ _); refine wpList_load_w rfl 24 (.tmp 1) rfl (w1.heap.size) 0 rfl ((P1).cs (A1) (c1)).toList _ ((HF9).out (w1.heap.size, P1, A1, c1) (by simp)).rng Tryd.underlying24 rfl (by kernel_rfl) ?_)
      | ((with_reducible show wpList _ _ _ (Oper.mk _ (Op.load 24 (Operand.tmp 4)) _ _ _ _ :: _) _ _); refine wpList_load_w rfl 24 (.tmp 4) rfl (b2) 0 rfl ((M).cs (A2) (2)).toList _ ((HF9).out (b2, M, A2, 2) (by simp)).rng Tryd.underlying24 rfl (by kernel_rfl) ?_)
      | fail)
  refine (fSame_any P1 M A1 A2 c1 2 _ HoP9.out HoM9.out HLs.out.1 HLs.out.2).mono ?_
  rintro e w10 ⟨rfl, hb10⟩
  rw [HSame.out]
  have HSa := Lib.hid (HS9.out.trans (hb10.mono HS9.out.size))
  clear hb10 HF9 HS9
  go_wp2_with fail
  go_ret
  exact ⟨rfl, HSa.out⟩
end Go.Proofs.YtnaejabgkfhlbaaDoor
/- The walk of lingualaw12.SyntaxTells. -/
set_option linter.unusedSimpArgs false
set_option linter.unusedVariables false
namespace Go.Proofs.YtnaejabgkfhlbaaDoor
open Go.RowKit

/-- The boxes of two arguments. -/
theorem two_boxes {P Q : Prof} {A A2 : Option Addr} {c d : Nat} {w : World} (hp : ProfOk w w.heap.size A P) (hq : ProfOk w w.heap.size A2 Q) (hc : P.types.length ≤ c) (hd : Q.types.length ≤ d) :
    AllPA [(w.heap.size, P, A, c), (w.heap.size + 1, Q, A2, d)] ((w.alloc (.cells (P.cs A c) 24)).alloc (.cells (Q.cs A2 d) 24)) := by
  have hb : Below w.heap.size w ((w.alloc (.cells (P.cs A c) 24)).alloc (.cells (Q.cs A2 d) 24)) := by repeat (first | with_reducible exact Below.refl _ _ | with_reducible assumption | with_reducible refine Below.drew ?_ | with_reducible refine Below.alloc ?_ (by first | omega | (simp; done) | (simp; omega)) _)
  have h2 := boxAll2 w (P.cs A c) (Q.cs A2 d) 24
  intro x hx
  rcases List.mem_cons.1 hx with hx | hx
  · subst hx
    exact ⟨fun j v hj => by rw [Nat.zero_add]; exact h2.1 j v (by simpa using hj), hp.now hb, by simp; omega, hc⟩
  · obtain rfl := List.mem_singleton.1 hx
    exact ⟨fun j v hj => by rw [Nat.zero_add]; exact h2.2 j v (by simpa using hj), hq.now hb, by simp, hd⟩
theorem one_box {P : Prof} {A : Option Addr} {c : Nat} {w : World} (hp : ProfOk w w.heap.size A P) (hc : P.types.length ≤ c) : AllPA [(w.heap.size, P, A, c)] (w.alloc (.cells (P.cs A c) 24)) := by
  have hb : Below w.heap.size w (w.alloc (.cells (P.cs A c) 24)) := (Below.refl _ _).alloc (Nat.le_refl _) _
  intro x hx
  obtain rfl := List.mem_singleton.1 hx
  exact ⟨boxRange w (P.cs A c) 24 (Below.refl _ _), hp.now hb, by simp, hc⟩
theorem ext_min (l : List UInt8) (k : Int) (hk : 0 ≤ k) : (bs l).extract 0 (min ((l.length : Nat) : Int) k).toNat = bs (l.take k.toNat) := by
  rw [bs_take]
  congr 1
  rcases Nat.lt_or_ge l.length k.toNat with h | h
  · rw [List.take_of_length_le (l := l) (by omega), List.take_of_length_le (by omega)]
  · rw [show (min ((l.length : Nat) : Int) k).toNat = k.toNat by omega]
section
variable {P : Program} {ops : Array Oper} {S : World → Prop}
/-- A whole struct is read in a region whose every operation comes to one value. -/
theorem Det.load {Z : Act → World → Prop} {o : Oper} {r : List Oper} {a : Act} (hw : Region.wanted o (yielded ops a.tmps) = true) (ty : TypeId) (x : Operand) (ho : o.op = .load ty x)
    (b : Nat) (hx : a.eval x = .pointer (some ⟨b, 0, none⟩)) (cs : List Value) (d : TypeDesc) (hS : ∀ w, S w → w.rangeAt b 0 cs)
    (hu : P.underlying ty = some d) (hd : d.isRow = true) (hi : (P.info? ty).map (·.size) = some cs.length) (h : Det P ops S Z r (a.put o.dst (.agg cs.toArray))) : Det P ops S Z (o :: r) a :=
  Det.read hw (fun w hw' => by
    unfold execOp
    simp only [ho, hx, Instr.loadAt, Instr.sureAddr, Sem.run_bind, Sem.run_pure, Result.andThen_ok, run_loadVar_mid w b 0 ty cs d (hS w hw') hu hd hi]) h
end
-- dLoad TMP | b | P | A | c | HE : an arm: a whole profile is read (HE : the boxes at the region's world wz; hSq : Below ..)
-- detCallA N | TMP | V | CONTRACT | LAW : like detCall, where the first argument lies in slot TMP
-- fwCall k | k0 : behind a call that leaves what is there (hb k)
theorem parse_len (l : List UInt8) : (parseL l).1.types.length ≤ 20 := by
  cases hx : lexL l with
  | error q =>
    obtain ⟨a, x⟩ := q
    rw [parse_err hx]
    exact Nat.zero_le _
  | ok ts =>
    have h1 := parse_ok hx
    have h2 := parseJ_right (lex_fine (lexL_ok hx).2).1 (lex_fine (lexL_ok hx).2).2.1
    rw [h1]
    split
    · rename_i h
      exact (right_sizes (h2 h)).2.1
    · exact Nat.zero_le _
set_option maxRecDepth 100000 in
set_option maxHeartbeats 8000000 in
theorem tells12_any (B : Nat) (l : List UInt8) (P Q : Prof) (A A2 : Option Addr) (c d : Nat) (w : World) (hV : Vs B w) (hlm : l.length ≤ 9223372036854775807) (hp : ProfOk w w.heap.size A P) (hc : P.types.length ≤ c) (hq : ProfOk w w.heap.size A2 Q) (hd : Q.types.length ≤ d) :
    Calls Tryd.prog 3 #[.string (bs l), P.v A c, Q.v A2 d] w fun e w' => e = .returned (.bool true) ∧ Below w.heap.size w w' := by
  have hb0 : Below w.heap.size w ((w.alloc (.cells (P.cs A c) 24)).alloc (.cells (Q.cs A2 d) 24)) := by repeat (first | with_reducible exact Below.refl _ _ | with_reducible assumption | with_reducible refine Below.drew ?_ | with_reducible refine Below.alloc ?_ (by first | omega | (simp; done) | (simp; omega)) _)
  have HF0 := Lib.hid (two_boxes hp hq hc hd)
  have HS0 := Lib.hid hb0
  have HV0 := Lib.hid (hV.now hb0)
  have HV := Lib.hid hV
  clear hb0 hp hq hV
  go_enter Tryd.func3, Tryd.ntmps3
  go_wp2_with fail
  refine (small12_any B _ HV0.out).mono ?_
  rintro e w1 ⟨rfl, hb1⟩
  have HF1 := Lib.hid (HF0.out.now hb1)
  have HS1 := Lib.hid (HS0.out.trans (hb1.mono HS0.out.size))
  clear hb1 HF0 HS0
  clear HV0
  go_wp2_with (first
      | ((with_reducible show wpList _ _ _ (Oper.mk _ (Op.load 24 (Operand.tmp 4)) _ _ _ _ :: _) _ _); refine wpList_load_w rfl 24 (.tmp 4) rfl (w.heap.size) 0 rfl ((P).cs (A) (c)).toList _ ((HF1).out (w.heap.size, P, A, c) (by simp)).rng Tryd.underlying24 rfl (by kernel_rfl) ?_)
      | fail)
  refine (few12_any P A c _ (HF1.out (w.heap.size, P, A, c) (by simp)).ok).mono ?_
  rintro e w2 ⟨rfl, hb2⟩
  have HF2 := Lib.hid (HF1.out.now hb2)
  have HS2 := Lib.hid (HS1.out.trans (hb2.mono HS1.out.size))
  clear hb2 HF1 HS1
  cases hfp : few12 P with
  | false =>
    go_wp2_with fail
    go_ret
    exact ⟨rfl, HS2.out⟩
  | true =>
    have HfP := Lib.hid (few12_len hfp)
    clear hfp
    go_wp2_with (first
        | ((with_reducible show wpList _ _ _ (Oper.mk _ (Op.load 24 (Operand.tmp 5)) _ _ _ _ :: _) _ _); refine wpList_load_w rfl 24 (.tmp 5) rfl (w.heap.size + 1) 0 rfl ((Q).cs (A2) (d)).toList _ ((HF2).out (w.heap.size + 1, Q, A2, d) (by simp)).rng Tryd.underlying24 rfl (by kernel_rfl) ?_)
        | fail)
    refine (few12_any Q A2 d _ (HF2.out (w.heap.size + 1, Q, A2, d) (by simp)).ok).mono ?_
    rintro e w3 ⟨rfl, hb3⟩
    have HF3 := Lib.hid (HF2.out.now hb3)
    have HS3 := Lib.hid (HS2.out.trans (hb3.mono HS2.out.size))
    clear hb3 HF2 HS2
    cases hfq : few12 Q with
    | false =>
      go_wp2_with fail
      go_ret
      exact ⟨rfl, HS3.out⟩
    | true =>
      have HfQ := Lib.hid (few12_len hfq)
      clear hfq
      have hsl : (bs l).size = l.length := bs_size l
      have hex := ext_min l 900 (by decide)
      rw [show (900 : Int).toNat = 900 from rfl] at hex
      have htl : (l.take 900).length ≤ 1000000 := by rw [List.length_take]; omega
      generalize l.take 900 = tl at *
      have HEx := Lib.hid hex
      clear hex
      go_wp2_with fail
      rw [HEx.out]
      have hpl := parse_len tl
      refine (parse_any tl _ htl).mono ?_
      rintro e w4 ⟨hb4, A4, c4, rfl, hok4, hA4, hcap4⟩
      generalize hq4 : parseL (tl) = q at *
      obtain ⟨P4, pos4, er4⟩ := q
      dsimp only at hok4 hcap4 ⊢
      have HQ4 := Lib.hid hq4
      have HOk4 := Lib.hid hok4
      have HB4 := Lib.hid ((HS3.out).trans (hb4.mono (HS3.out).size))
      have HE4 := Lib.hid ((HF3.out).now hb4)
      clear hq4 hok4 hb4 hA4
      have hpl4 : P4.types.length ≤ 20 := hpl
      clear hpl
      have HTh4 := Lib.hid (zero_there w4)
      go_upto_region 6 with (first
          | ((with_reducible show wpList _ _ _ (Oper.mk _ (Op.store 24 (Operand.tmp 9) _) _ _ _ _ :: _) _ _); refine wpList_store_box rfl 24 _ _ rfl w4.heap.size (P4.cs A4 c4) ?x1 ?x2 HTh4.out (by kernel_rfl) (by simp [Value.oneCell']) ?_; (case x1 => rfl); (case x2 => rfl); intro ws4 hr ht hg; (obtain ⟨hpa, hbb⟩ := PA.made2 rfl HOk4.out hcap4 hr hg); have HF4 := Lib.hid (AllPA.cons hpa (HE4.out.now hbb)); have HS4 := Lib.hid (HB4.out.trans (hbb.mono HB4.out.size)); clear hr ht hg hpa hbb)
          | fail)
      clear HTh4 HOk4 HE4 HB4 HF3 HS3
      go_wp2_with fail
      refine (gParse_any tl _ htl).mono ?_
      rintro e w5 ⟨hb5, A5, c5, rfl, hok5, hA5, hcap5⟩
      generalize hq5 : parseL (tl) = q at *
      obtain ⟨P5, pos5, er5⟩ := q
      dsimp only at hok5 hcap5 ⊢
      have HQ5 := Lib.hid hq5
      have HOk5 := Lib.hid hok5
      have HB5 := Lib.hid ((HS4.out).trans (hb5.mono (HS4.out).size))
      have HE5 := Lib.hid ((HF4.out).now hb5)
      clear hq5 hok5 hb5 hA5
      obtain ⟨hP5, rfl, rfl⟩ : P5 = P4 ∧ pos5 = pos4 ∧ er5 = er4 := by
        have hq := HQ4.out
        injection hq with a b
        injection b with b c
        exact ⟨a, b, c⟩
      have HP5 := Lib.hid hP5
      clear hP5
      have HTh5 := Lib.hid (zero_there w5)
      go_upto_region 7 with (first
          | ((with_reducible show wpList _ _ _ (Oper.mk _ (Op.store 24 (Operand.tmp 12) _) _ _ _ _ :: _) _ _); refine wpList_store_box rfl 24 _ _ rfl w5.heap.size (P5.cs A5 c5) ?x1 ?x2 HTh5.out (by kernel_rfl) (by simp [Value.oneCell']) ?_; (case x1 => rfl); (case x2 => rfl); intro ws5 hr ht hg; (obtain ⟨hpa, hbb⟩ := PA.made2 rfl HOk5.out hcap5 hr hg); have HF5 := Lib.hid (AllPA.cons hpa (HE5.out.now hbb)); have HS5 := Lib.hid (HB5.out.trans (hbb.mono HB5.out.size)); clear hr ht hg hpa hbb)
          | fail)
      clear HTh5 HOk5 HE5 HB5 HF4 HS4
      go_wp2_with (first
          | ((with_reducible show wpList _ _ _ (Oper.mk _ (Op.load 24 (Operand.tmp 4)) _ _ _ _ :: _) _ _); refine wpList_load_w rfl 24 (.tmp 4) rfl (w.heap.size) 0 rfl ((P).cs (A) (c)).toList _ ((HF5).out (w.heap.size, P, A, c) (by simp)).rng Tryd.underlying24 rfl (by kernel_rfl) ?_)
          | fail)
      refine (print_any P A c B _ (HF5.out (w.heap.size, P, A, c) (by simp)).ok hc (HV.out.now HS5.out)).mono ?_
      rintro e w6 ⟨rfl, hb6⟩
      have HF6 := Lib.hid (HF5.out.now hb6)
      have HS6 := Lib.hid (HS5.out.trans (hb6.mono HS5.out.size))
      clear hb6 HF5 HS5
      obtain ⟨xs, hxs⟩ : ∃ x, x = (if profRight P = true then printF P else []) := ⟨_, rfl⟩
      obtain ⟨xe, hxe⟩ : ∃ x : Int, x = (if profRight P = true then 0 else 1) := ⟨_, rfl⟩
      rw [← hxs, ← hxe]
      have HXs := Lib.hid hxs
      have HXe := Lib.hid hxe
      clear hxs hxe
      go_wp2_with (first
          | ((with_reducible show wpList _ _ _ (Oper.mk _ (Op.load 24 (Operand.tmp 4)) _ _ _ _ :: _) _ _); refine wpList_load_w rfl 24 (.tmp 4) rfl (w.heap.size) 0 rfl ((P).cs (A) (c)).toList _ ((HF6).out (w.heap.size, P, A, c) (by simp)).rng Tryd.underlying24 rfl (by kernel_rfl) ?_)
          | fail)
      refine (gPrint_any P A c _ (HF6.out (w.heap.size, P, A, c) (by simp)).ok).mono ?_
      rintro e w7 ⟨rfl, hb7⟩
      rw [← HXs.out, ← HXe.out]
      have HF7 := Lib.hid (HF6.out.now hb7)
      have HS7 := Lib.hid (HS6.out.trans (hb7.mono HS6.out.size))
      clear hb7 HF6 HS6
      have HLs : Hid (P4.types.length ≤ 1000 ∧ P5.types.length ≤ 1000 ∧ P.types.length ≤ 1000 ∧ Q.types.length ≤ 1000) := Lib.hid (by
        have h1 := HfP.out.1
        have h2 := HfQ.out.1
        have h3 := HP5.out
        rw [h3]
        omega)
      have HC1 : Hid (∀ wq, Below w7.heap.size w7 wq → Calls Tryd.prog 15 #[P4.v A4 c4, P5.v A5 c5] wq fun e w' => e = .returned (.bool true) ∧ Below wq.heap.size wq w') := Lib.hid (fun wq h =>
        (rSame_any P4 P5 A4 A5 c4 c5 wq ((HF7.out.now h) (w4.heap.size, P4, A4, c4) (by simp)).ok ((HF7.out.now h) (w5.heap.size, P5, A5, c5) (by simp)).ok HLs.out.1 HLs.out.2.1).mono fun e w' ⟨h1, h2⟩ => ⟨by rw [h1, (sameP_iff _ _).2 HP5.out.symm], h2⟩)
      have HC2 : Hid (∀ wq, Below w7.heap.size w7 wq → Calls Tryd.prog 16 #[P.v A c] wq fun e w' => e = .returned (.bool (profRight P)) ∧ Below wq.heap.size wq w') := Lib.hid (fun wq h => pRight_any P A c wq ((HF7.out.now h) (w.heap.size, P, A, c) (by simp)).ok)
      have HC3 : Hid (∀ wq, Below w7.heap.size w7 wq → Calls Tryd.prog 17 #[P.v A c] wq fun e w' => e = .returned (.bool (profRight P)) ∧ Below wq.heap.size wq w') := Lib.hid (fun wq h => rRight_any P A c wq ((HF7.out.now h) (w.heap.size, P, A, c) (by simp)).ok)
      have HC4 : Hid (∀ wq, Below w7.heap.size w7 wq → Calls Tryd.prog 18 #[P.v A c, Q.v A2 d] wq fun e w' => e = .returned (.bool (sameP P Q)) ∧ Below wq.heap.size wq w') := Lib.hid (fun wq h =>
        fSame_any P Q A A2 c d wq ((HF7.out.now h) (w.heap.size, P, A, c) (by simp)).ok ((HF7.out.now h) (w.heap.size + 1, Q, A2, d) (by simp)).ok HLs.out.2.2.1 HLs.out.2.2.2)
      have HC5 : Hid (∀ wq, Below w7.heap.size w7 wq → Calls Tryd.prog 15 #[P.v A c, Q.v A2 d] wq fun e w' => e = .returned (.bool (sameP P Q)) ∧ Below wq.heap.size wq w') := Lib.hid (fun wq h =>
        rSame_any P Q A A2 c d wq ((HF7.out.now h) (w.heap.size, P, A, c) (by simp)).ok ((HF7.out.now h) (w.heap.size + 1, Q, A2, d) (by simp)).ok HLs.out.2.2.1 HLs.out.2.2.2)
      have HC6 : Hid (∀ wq, Below w7.heap.size w7 wq → Calls Tryd.prog 18 #[P.v A c, P.v A c] wq fun e w' => e = .returned (.bool true) ∧ Below wq.heap.size wq w') := Lib.hid (fun wq h =>
        (fSame_any P P A A c c wq ((HF7.out.now h) (w.heap.size, P, A, c) (by simp)).ok ((HF7.out.now h) (w.heap.size, P, A, c) (by simp)).ok HLs.out.2.2.1 HLs.out.2.2.1).mono fun e w' ⟨h1, h2⟩ => ⟨by rw [h1, (sameP_iff _ _).2 rfl], h2⟩)
      generalize profRight P = pr at *
      generalize sameP P Q = sp at *
      go_wp2_with fail
      refine wp_region_det (S := fun w' => Below w7.heap.size w7 w') (by kernel_rfl) (by kernel_rfl) ((Below.refl _ _).drew) ?_
      rw [List.toList_toArray]
      repeat (first
        | ((with_reducible show Det _ _ _ _ (Oper.mk _ (Op.load 24 (Operand.tmp 9)) _ _ _ _ :: _) _); refine Det.load (by rfl) 24 (.tmp 9) rfl (w4.heap.size) rfl ((P4).cs (A4) (c4)).toList _ (fun wq hSq => (((HF7).out.now hSq) (w4.heap.size, P4, A4, c4) (by simp)).rng) Tryd.underlying24 rfl (by kernel_rfl) ?_; simp only [Act.put, List.setIfInBounds_toArray, List.set_cons_zero, List.set_cons_succ, List.getElem_toArray, List.getElem_cons_zero, List.getElem_cons_succ])
        | ((with_reducible show Det _ _ _ _ (Oper.mk _ (Op.load 24 (Operand.tmp 12)) _ _ _ _ :: _) _); refine Det.load (by rfl) 24 (.tmp 12) rfl (w5.heap.size) rfl ((P5).cs (A5) (c5)).toList _ (fun wq hSq => (((HF7).out.now hSq) (w5.heap.size, P5, A5, c5) (by simp)).rng) Tryd.underlying24 rfl (by kernel_rfl) ?_; simp only [Act.put, List.setIfInBounds_toArray, List.set_cons_zero, List.set_cons_succ, List.getElem_toArray, List.getElem_cons_zero, List.getElem_cons_succ])
        | ((with_reducible show Det _ _ _ _ (Oper.mk _ (Op.load 24 (Operand.tmp 4)) _ _ _ _ :: _) _); refine Det.load (by rfl) 24 (.tmp 4) rfl (w.heap.size) rfl ((P).cs (A) (c)).toList _ (fun wq hSq => (((HF7).out.now hSq) (w.heap.size, P, A, c) (by simp)).rng) Tryd.underlying24 rfl (by kernel_rfl) ?_; simp only [Act.put, List.setIfInBounds_toArray, List.set_cons_zero, List.set_cons_succ, List.getElem_toArray, List.getElem_cons_zero, List.getElem_cons_succ])
        | ((with_reducible show Det _ _ _ _ (Oper.mk _ (Op.load 24 (Operand.tmp 5)) _ _ _ _ :: _) _); refine Det.load (by rfl) 24 (.tmp 5) rfl (w.heap.size + 1) rfl ((Q).cs (A2) (d)).toList _ (fun wq hSq => (((HF7).out.now hSq) (w.heap.size + 1, Q, A2, d) (by simp)).rng) Tryd.underlying24 rfl (by kernel_rfl) ?_; simp only [Act.put, List.setIfInBounds_toArray, List.set_cons_zero, List.set_cons_succ, List.getElem_toArray, List.getElem_cons_zero, List.getElem_cons_succ])
        | ((with_reducible show Det _ _ _ _ (Oper.mk _ (Op.call (Call.mk (Callee.value (Operand.func 15)) #[Operand.tmp 58, _] _)) _ _ _ _ :: _) _); refine Det.step (.bool true) (by rfl) (fun wq hSq K hK => ?_) ?_; (· (go_simp; refine (HC1.out wq hSq).mono ?_; rintro e4 w4 ⟨rfl, hb4⟩; go_wp2_with fail; refine hK.out _ _ (hSq.trans (hb4.mono hSq.size)) ?_; first | rfl | (simp [Act.put]; done))); simp only [Act.put, List.setIfInBounds_toArray, List.set_cons_zero, List.set_cons_succ, List.getElem_toArray, List.getElem_cons_zero, List.getElem_cons_succ])
        | ((with_reducible show Det _ _ _ _ (Oper.mk _ (Op.call (Call.mk (Callee.value (Operand.func 15)) #[Operand.tmp 93, _] _)) _ _ _ _ :: _) _); refine Det.step (.bool sp) (by rfl) (fun wq hSq K hK => ?_) ?_; (· (go_simp; refine (HC5.out wq hSq).mono ?_; rintro e4 w4 ⟨rfl, hb4⟩; go_wp2_with fail; refine hK.out _ _ (hSq.trans (hb4.mono hSq.size)) ?_; first | rfl | (simp [Act.put]; done))); simp only [Act.put, List.setIfInBounds_toArray, List.set_cons_zero, List.set_cons_succ, List.getElem_toArray, List.getElem_cons_zero, List.getElem_cons_succ])
        | ((with_reducible show Det _ _ _ _ (Oper.mk _ (Op.call (Call.mk (Callee.value (Operand.func 18)) #[Operand.tmp 90, _] _)) _ _ _ _ :: _) _); refine Det.step (.bool sp) (by rfl) (fun wq hSq K hK => ?_) ?_; (· (go_simp; refine (HC4.out wq hSq).mono ?_; rintro e4 w4 ⟨rfl, hb4⟩; go_wp2_with fail; refine hK.out _ _ (hSq.trans (hb4.mono hSq.size)) ?_; first | rfl | (simp [Act.put]; done))); simp only [Act.put, List.setIfInBounds_toArray, List.set_cons_zero, List.set_cons_succ, List.getElem_toArray, List.getElem_cons_zero, List.getElem_cons_succ])
        | ((with_reducible show Det _ _ _ _ (Oper.mk _ (Op.call (Call.mk (Callee.value (Operand.func 18)) #[Operand.tmp 99, _] _)) _ _ _ _ :: _) _); refine Det.step (.bool true) (by rfl) (fun wq hSq K hK => ?_) ?_; (· (go_simp; refine (HC6.out wq hSq).mono ?_; rintro e4 w4 ⟨rfl, hb4⟩; go_wp2_with fail; refine hK.out _ _ (hSq.trans (hb4.mono hSq.size)) ?_; first | rfl | (simp [Act.put]; done))); simp only [Act.put, List.setIfInBounds_toArray, List.set_cons_zero, List.set_cons_succ, List.getElem_toArray, List.getElem_cons_zero, List.getElem_cons_succ])
        | ((with_reducible show Det _ _ _ _ (Oper.mk _ (Op.call (Call.mk (Callee.value (Operand.func 16)) _ _)) _ _ _ _ :: _) _); refine Det.step (.bool pr) (by rfl) (fun wq hSq K hK => ?_) ?_; (· (go_simp; refine (HC2.out wq hSq).mono ?_; rintro e4 w4 ⟨rfl, hb4⟩; go_wp2_with fail; refine hK.out _ _ (hSq.trans (hb4.mono hSq.size)) ?_; first | rfl | (simp [Act.put]; done))); simp only [Act.put, List.setIfInBounds_toArray, List.set_cons_zero, List.set_cons_succ, List.getElem_toArray, List.getElem_cons_zero, List.getElem_cons_succ])
        | ((with_reducible show Det _ _ _ _ (Oper.mk _ (Op.call (Call.mk (Callee.value (Operand.func 17)) _ _)) _ _ _ _ :: _) _); refine Det.step (.bool pr) (by rfl) (fun wq hSq K hK => ?_) ?_; (· (go_simp; refine (HC3.out wq hSq).mono ?_; rintro e4 w4 ⟨rfl, hb4⟩; go_wp2_with fail; refine hK.out _ _ (hSq.trans (hb4.mono hSq.size)) ?_; first | rfl | (simp [Act.put]; done))); simp only [Act.put, List.setIfInBounds_toArray, List.set_cons_zero, List.set_cons_succ, List.getElem_toArray, List.getElem_cons_zero, List.getElem_cons_succ])
        | (refine Det.skip (by rfl) ?_; simp only [Act.put, List.setIfInBounds_toArray, List.set_cons_zero, List.set_cons_succ, List.getElem_toArray, List.getElem_cons_zero, List.getElem_cons_succ])
        | (refine Det.read (v := ?_) (by rfl) ?_ ?_; rotate_left; (· (intro wq hSq; skip; go_simp; try with_reducible rfl)); simp only [Act.put, List.setIfInBounds_toArray, List.set_cons_zero, List.set_cons_succ, List.getElem_toArray, List.getElem_cons_zero, List.getElem_cons_succ])
        | fail)
      refine Det.done fun wz hz => ?_
      have HZ := Lib.hid (HS7.out.trans (hz.mono HS7.out.size))
      clear hz
      go_wp2_with fail
      go_ret
      exact ⟨rfl, HZ.out⟩
end Go.Proofs.YtnaejabgkfhlbaaDoor
/- The walk of lingualaw12.SyntaxBack. -/
set_option linter.unusedSimpArgs false
set_option linter.unusedVariables false
namespace Go.Proofs.YtnaejabgkfhlbaaDoor
open Go.RowKit

/-- What Parse says: an error at a place of the string, or a right profile. -/
theorem parse_cases (l : List UInt8) : (∃ pos er, parseL l = (zeroProf, pos, er) ∧ er ≠ 0 ∧ 0 ≤ pos ∧ pos ≤ l.length) ∨ (∃ P, parseL l = (P, 0, 0) ∧ profRight P = true) := by
  cases hx : lexL l with
  | error q =>
    obtain ⟨a, x⟩ := q
    have h := lexL_err hx
    exact .inl ⟨_, _, parse_err hx, h.1, by omega, by omega⟩
  | ok ts =>
    have h0 := lex_fine (lexL_ok hx).2
    have h1 := parse_ok hx
    by_cases he : (parseG opsJ ⟨ts, 0, 0⟩).2.err = 0
    · exact .inr ⟨_, by rw [h1, if_pos he], parseJ_right h0.1 h0.2.1 he⟩
    · have hs := sim_parse.2 ts 0 h0.1
      cases hy : parseG opsX (ts.map Tok.sh) with
      | ok q =>
        obtain ⟨a, n⟩ := q
        rw [hy] at hs
        exact absurd (by rw [hs.1]) he
      | error q =>
        obtain ⟨i, e⟩ := q
        rw [hy] at hs
        obtain ⟨t, ht, h2, h3, h4⟩ := hs
        have h5 := h0.2.2 t (List.mem_of_getElem? ht)
        exact .inl ⟨_, _, by rw [h1, if_neg he], he, by rw [h4]; omega, by rw [h4]; omega⟩
-- backRest W : the second half, in the world W (HSx : below w)
set_option maxRecDepth 100000 in
set_option maxHeartbeats 8000000 in
theorem back12_any (B : Nat) (l : List UInt8) (P : Prof) (A : Option Addr) (c : Nat) (w : World) (hV : Vs B w) (hlm : l.length ≤ 9223372036854775807) (hp : ProfOk w w.heap.size A P) (hc : P.types.length ≤ c) :
    Calls Tryd.prog 4 #[P.v A c, .string (bs l)] w fun e w' => e = .returned (.bool true) ∧ Below w.heap.size w w' := by
  have hb0 : Below w.heap.size w (w.alloc (.cells (P.cs A c) 24)) := (Below.refl _ _).alloc (Nat.le_refl _) _
  have HF0 := Lib.hid (one_box hp hc)
  have HS0 := Lib.hid hb0
  have HV0 := Lib.hid (hV.now hb0)
  have HV := Lib.hid hV
  clear hb0 hp hV
  have hsl : (bs l).size = l.length := bs_size l
  go_enter Tryd.func4, Tryd.ntmps4
  go_wp2_with fail
  refine (small12_any B _ HV0.out).mono ?_
  rintro e w1 ⟨rfl, hb1⟩
  have HF1 := Lib.hid (HF0.out.now hb1)
  have HS1 := Lib.hid (HS0.out.trans (hb1.mono HS0.out.size))
  clear hb1 HF0 HS0
  clear HV0
  go_wp2_with (first
      | ((with_reducible show wpList _ _ _ (Oper.mk _ (Op.load 24 (Operand.tmp 2)) _ _ _ _ :: _) _ _); refine wpList_load_w rfl 24 (.tmp 2) rfl (w.heap.size) 0 rfl ((P).cs (A) (c)).toList _ ((HF1).out (w.heap.size, P, A, c) (by simp)).rng Tryd.underlying24 rfl (by kernel_rfl) ?_)
      | fail)
  refine (few12_any P A c _ (HF1.out (w.heap.size, P, A, c) (by simp)).ok).mono ?_
  rintro e w2 ⟨rfl, hb2⟩
  have HF2 := Lib.hid (HF1.out.now hb2)
  have HS2 := Lib.hid (HS1.out.trans (hb2.mono HS1.out.size))
  clear hb2 HF1 HS1
  cases hfp : few12 P with
  | false =>
    go_wp2_with fail
    go_ret
    exact ⟨rfl, HS2.out⟩
  | true =>
    have HfP := Lib.hid (few12_len hfp)
    clear hfp
    go_wp2_with (first
        | ((with_reducible show wpList _ _ _ (Oper.mk _ (Op.load 24 (Operand.tmp 2)) _ _ _ _ :: _) _ _); refine wpList_load_w rfl 24 (.tmp 2) rfl (w.heap.size) 0 rfl ((P).cs (A) (c)).toList _ ((HF2).out (w.heap.size, P, A, c) (by simp)).rng Tryd.underlying24 rfl (by kernel_rfl) ?_)
        | fail)
    refine (print_any P A c B _ (HF2.out (w.heap.size, P, A, c) (by simp)).ok hc (HV.out.now HS2.out)).mono ?_
    rintro e w3 ⟨rfl, hb3⟩
    have HF3 := Lib.hid (HF2.out.now hb3)
    have HS3 := Lib.hid (HS2.out.trans (hb3.mono HS2.out.size))
    clear hb3 HF2 HS2
    obtain ⟨xs, hxs⟩ : ∃ x, x = (if profRight P = true then printF P else []) := ⟨_, rfl⟩
    obtain ⟨xe, hxe⟩ : ∃ x : Int, x = (if profRight P = true then 0 else 1) := ⟨_, rfl⟩
    rw [← hxs, ← hxe]
    have HXs := Lib.hid hxs
    have HXe := Lib.hid hxe
    clear hxs hxe
    go_wp2_with (first
        | ((with_reducible show wpList _ _ _ (Oper.mk _ (Op.load 24 (Operand.tmp 2)) _ _ _ _ :: _) _ _); refine wpList_load_w rfl 24 (.tmp 2) rfl (w.heap.size) 0 rfl ((P).cs (A) (c)).toList _ ((HF3).out (w.heap.size, P, A, c) (by simp)).rng Tryd.underlying24 rfl (by kernel_rfl) ?_)
        | fail)
    refine (pRight_any P A c _ (HF3.out (w.heap.size, P, A, c) (by simp)).ok).mono ?_
    rintro e w4 ⟨rfl, hb4⟩
    have HF4 := Lib.hid (HF3.out.now hb4)
    have HS4 := Lib.hid (HS3.out.trans (hb4.mono HS3.out.size))
    clear hb4 HF3 HS3
    cases hpr : profRight P with
    | true =>
      have hx : xs = printF P := by rw [HXs.out, hpr]; rfl
      obtain rfl : xe = 0 := by rw [HXe.out, hpr]; rfl
      have HPP : Hid (parseL xs = (P, 0, 0)) := Lib.hid (by rw [hx]; exact parse_print (rt_of hpr))
      have hpl : xs.length ≤ 1617 := by rw [hx]; exact print_len (rt_of hpr)
      have HL : Hid (P.types.length ≤ 1000) := Lib.hid (by have := HfP.out.1; omega)
      clear hpr hx HXs HXe
      go_wp2_with fail
      refine (parse_any xs _ (by omega)).mono ?_
      rintro e w5 ⟨hb5, A5, c5, rfl, hok5, hA5, hcap5⟩
      generalize hq5 : parseL (xs) = q at *
      obtain ⟨P5, pos5, er5⟩ := q
      dsimp only at hok5 hcap5 ⊢
      have HQ5 := Lib.hid hq5
      have HOk5 := Lib.hid hok5
      have HB5 := Lib.hid ((HS4.out).trans (hb5.mono (HS4.out).size))
      have HE5 := Lib.hid ((HF4.out).now hb5)
      clear hq5 hok5 hb5 hA5
      obtain ⟨hP5, rfl, rfl⟩ : P5 = P ∧ pos5 = 0 ∧ er5 = 0 := by
        have hq := HPP.out
        injection hq with a b
        injection b with b c
        exact ⟨a, b, c⟩
      have HP5 := Lib.hid hP5
      clear hP5
      have HTh5 := Lib.hid (zero_there w5)
      go_upto_region 7 with (first
          | ((with_reducible show wpList _ _ _ (Oper.mk _ (Op.store 24 (Operand.tmp 8) _) _ _ _ _ :: _) _ _); refine wpList_store_box rfl 24 _ _ rfl w5.heap.size (P5.cs A5 c5) ?x1 ?x2 HTh5.out (by kernel_rfl) (by simp [Value.oneCell']) ?_; (case x1 => rfl); (case x2 => rfl); intro ws5 hr ht hg; (obtain ⟨hpa, hbb⟩ := PA.made2 rfl HOk5.out hcap5 hr hg); have HF5 := Lib.hid (AllPA.cons hpa (HE5.out.now hbb)); have HS5 := Lib.hid (HB5.out.trans (hbb.mono HB5.out.size)); clear hr ht hg hpa hbb)
          | fail)
      clear HTh5 HOk5 HE5 HB5 HF4 HS4
      go_wp2_with (first
          | ((with_reducible show wpList _ _ _ (Oper.mk _ (Op.load 24 (Operand.tmp 2)) _ _ _ _ :: _) _ _); refine wpList_load_w rfl 24 (.tmp 2) rfl (w.heap.size) 0 rfl ((P).cs (A) (c)).toList _ ((HF5).out (w.heap.size, P, A, c) (by simp)).rng Tryd.underlying24 rfl (by kernel_rfl) ?_)
          | ((with_reducible show wpList _ _ _ (Oper.mk _ (Op.load 24 (Operand.tmp 8)) _ _ _ _ :: _) _ _); refine wpList_load_w rfl 24 (.tmp 8) rfl (w5.heap.size) 0 rfl ((P5).cs (A5) (c5)).toList _ ((HF5).out (w5.heap.size, P5, A5, c5) (by simp)).rng Tryd.underlying24 rfl (by kernel_rfl) ?_)
          | fail)
      refine (rSame_any P P5 A A5 c c5 _ (HF5.out (w.heap.size, P, A, c) (by simp)).ok (HF5.out (w5.heap.size, P5, A5, c5) (by simp)).ok HL.out (by rw [HP5.out]; exact HL.out)).mono ?_
      rintro e w6 ⟨rfl, hb6⟩
      rw [(sameP_iff P P5).2 HP5.out.symm]
      have HS6 := Lib.hid (HS5.out.trans (hb6.mono HS5.out.size))
      clear hb6
      go_wp2_with fail
      have HSx := HS6
      clear HF5 HS5 HS6
      have hex := ext_min l 900 (by decide)
      rw [show (900 : Int).toNat = 900 from rfl] at hex
      have htl : (l.take 900).length ≤ 900 := by rw [List.length_take]; omega
      have HPC := Lib.hid (parse_cases (l.take 900))
      have hpl := parse_len (l.take 900)
      generalize l.take 900 = tl at *
      have HEx := Lib.hid hex
      clear hex
      have HEn : Hid (AllPA [] w6) := Lib.hid AllPA.nil_
      go_wp2_with fail
      rw [HEx.out]
      refine (parse_any tl _ (by omega)).mono ?_
      rintro e w7 ⟨hb7, A7, c7, rfl, hok7, hA7, hcap7⟩
      generalize hq7 : parseL (tl) = q at *
      obtain ⟨P7, pos7, er7⟩ := q
      dsimp only at hok7 hcap7 ⊢
      have HQ7 := Lib.hid hq7
      have HOk7 := Lib.hid hok7
      have HB7 := Lib.hid ((HSx.out).trans (hb7.mono (HSx.out).size))
      have HE7 := Lib.hid ((HEn.out).now hb7)
      clear hq7 hok7 hb7 hA7
      have hpl7 : P7.types.length ≤ 20 := hpl
      have HTh7 := Lib.hid (zero_there w7)
      go_upto_region 12 with (first
          | ((with_reducible show wpList _ _ _ (Oper.mk _ (Op.store 24 (Operand.tmp 11) _) _ _ _ _ :: _) _ _); refine wpList_store_box rfl 24 _ _ rfl w7.heap.size (P7.cs A7 c7) ?x1 ?x2 HTh7.out (by kernel_rfl) (by simp [Value.oneCell']) ?_; (case x1 => rfl); (case x2 => rfl); intro ws7 hr ht hg; (obtain ⟨hpa, hbb⟩ := PA.made2 rfl HOk7.out hcap7 hr hg); have HF7 := Lib.hid (AllPA.cons hpa (HE7.out.now hbb)); have HS7 := Lib.hid (HB7.out.trans (hbb.mono HB7.out.size)); clear hr ht hg hpa hbb)
          | fail)
      clear HTh7 HOk7 HE7 HB7 hpl
      rcases HPC.out with ⟨pos, er, h1, h2, h3, h4⟩ | ⟨P0, h1, h2⟩
      · obtain ⟨hP, rfl, rfl⟩ : P7 = zeroProf ∧ pos7 = pos ∧ er7 = er := by
          injection h1 with a b
          injection b with b c
          exact ⟨a, b, c⟩
        have HP7 := Lib.hid hP
        have d1 : (er7 != 0) = true := by simpa using h2
        have d2 : decide ((0 : Int) ≤ pos7) = true := by simpa using h3
        have d3 : decide (pos7 ≤ 900) = true := by simp; omega
        have HL7 := Lib.hid (show P7.types.length ≤ 1000 by omega)
        clear h1 h2 hP
        go_wp2_with (first
            | ((with_reducible show wpList _ _ _ (Oper.mk _ (Op.load 24 (Operand.tmp 11)) _ _ _ _ :: _) _ _); refine wpList_load_w rfl 24 (.tmp 11) rfl (w7.heap.size) 0 rfl ((P7).cs (A7) (c7)).toList _ ((HF7).out (w7.heap.size, P7, A7, c7) (by simp)).rng Tryd.underlying24 rfl (by kernel_rfl) ?_)
            | fail)
        refine (rSame_any P7 zeroProf A7 none c7 0 _ (HF7.out (w7.heap.size, P7, A7, c7) (by simp)).ok (okZero _) HL7.out (Nat.zero_le _)).mono ?_
        rintro e w8 ⟨rfl, hb8⟩
        rw [(sameP_iff P7 zeroProf).2 HP7.out]
        have HS8 := Lib.hid (HS7.out.trans (hb8.mono HS7.out.size))
        clear hb8
        go_wp2_with fail
        go_ret
        exact ⟨rfl, HS8.out⟩
      · obtain ⟨hP, rfl, rfl⟩ : P7 = P0 ∧ pos7 = 0 ∧ er7 = 0 := by
          injection h1 with a b
          injection b with b c
          exact ⟨a, b, c⟩
        rw [← hP] at h2
        have HR7 := Lib.hid h2
        have HPP := Lib.hid (parse_print (rt_of h2))
        have hpl2 := print_len (rt_of h2)
        have HL7 := Lib.hid (show P7.types.length ≤ 1000 by omega)
        clear h1 h2 hP HPC
        go_wp2_with (first
            | ((with_reducible show wpList _ _ _ (Oper.mk _ (Op.load 24 (Operand.tmp 11)) _ _ _ _ :: _) _ _); refine wpList_load_w rfl 24 (.tmp 11) rfl (w7.heap.size) 0 rfl ((P7).cs (A7) (c7)).toList _ ((HF7).out (w7.heap.size, P7, A7, c7) (by simp)).rng Tryd.underlying24 rfl (by kernel_rfl) ?_)
            | fail)
        refine (print_any P7 A7 c7 B _ (HF7.out (w7.heap.size, P7, A7, c7) (by simp)).ok hcap7 (HV.out.now HS7.out)).mono ?_
        rintro e w8 ⟨rfl, hb8⟩
        rw [HR7.out]
        have HF8 := Lib.hid (HF7.out.now hb8)
        have HS8 := Lib.hid (HS7.out.trans (hb8.mono HS7.out.size))
        clear hb8 HF7 HS7
        simp only [if_true]
        generalize printF P7 = pt at *
        go_wp2_with fail
        refine (parse_any pt _ (by omega)).mono ?_
        rintro e w9 ⟨hb9, A9, c9, rfl, hok9, hA9, hcap9⟩
        generalize hq9 : parseL (pt) = q at *
        obtain ⟨P9, pos9, er9⟩ := q
        dsimp only at hok9 hcap9 ⊢
        have HQ9 := Lib.hid hq9
        have HOk9 := Lib.hid hok9
        have HB9 := Lib.hid ((HS8.out).trans (hb9.mono (HS8.out).size))
        have HE9 := Lib.hid ((HF8.out).now hb9)
        clear hq9 hok9 hb9 hA9
        obtain ⟨hP9, rfl, rfl⟩ : P9 = P7 ∧ pos9 = 0 ∧ er9 = 0 := by
          have hq := HPP.out
          injection hq with a b
          injection b with b c
          exact ⟨a, b, c⟩
        have HP9 := Lib.hid hP9
        clear hP9
        have HTh9 := Lib.hid (zero_there w9)
        go_upto_region 16 with (first
            | ((with_reducible show wpList _ _ _ (Oper.mk _ (Op.store 24 (Operand.tmp 16) _) _ _ _ _ :: _) _ _); refine wpList_store_box rfl 24 _ _ rfl w9.heap.size (P9.cs A9 c9) ?x1 ?x2 HTh9.out (by kernel_rfl) (by simp [Value.oneCell']) ?_; (case x1 => rfl); (case x2 => rfl); intro ws9 hr ht hg; (obtain ⟨hpa, hbb⟩ := PA.made2 rfl HOk9.out hcap9 hr hg); have HF9 := Lib.hid (AllPA.cons hpa (HE9.out.now hbb)); have HS9 := Lib.hid (HB9.out.trans (hbb.mono HB9.out.size)); clear hr ht hg hpa hbb)
            | fail)
        clear HTh9 HOk9 HE9 HB9 HF8 HS8
        go_wp2_with (first
            | ((with_reducible show wpList _ _ _ (Oper.mk _ (Op.load 24 (Operand.tmp 11)) _ _ _ _ :: _) _ _); refine wpList_load_w rfl 24 (.tmp 11) rfl (w7.heap.size) 0 rfl ((P7).cs (A7) (c7)).toList _ ((HF9).out (w7.heap.size, P7, A7, c7) (by simp)).rng Tryd.underlying24 rfl (by kernel_rfl) ?_)
            | fail)
        refine (pRight_any P7 A7 c7 _ (HF9.out (w7.heap.size, P7, A7, c7) (by simp)).ok).mono ?_
        rintro e w10 ⟨rfl, hb10⟩
        rw [HR7.out]
        have HF10 := Lib.hid (HF9.out.now hb10)
        have HS10 := Lib.hid (HS9.out.trans (hb10.mono HS9.out.size))
        clear hb10 HF9 HS9
        go_wp2_with (first
            | ((with_reducible show wpList _ _ _ (Oper.mk _ (Op.load 24 (Operand.tmp 11)) _ _ _ _ :: _) _ _); refine wpList_load_w rfl 24 (.tmp 11) rfl (w7.heap.size) 0 rfl ((P7).cs (A7) (c7)).toList _ ((HF10).out (w7.heap.size, P7, A7, c7) (by simp)).rng Tryd.underlying24 rfl (by kernel_rfl) ?_)
            | ((with_reducible show wpList _ _ _ (Oper.mk _ (Op.load 24 (Operand.tmp 16)) _ _ _ _ :: _) _ _); refine wpList_load_w rfl 24 (.tmp 16) rfl (w9.heap.size) 0 rfl ((P9).cs (A9) (c9)).toList _ ((HF10).out (w9.heap.size, P9, A9, c9) (by simp)).rng Tryd.underlying24 rfl (by kernel_rfl) ?_)
            | fail)
        refine (rSame_any P7 P9 A7 A9 c7 c9 _ (HF10.out (w7.heap.size, P7, A7, c7) (by simp)).ok (HF10.out (w9.heap.size, P9, A9, c9) (by simp)).ok HL7.out (by rw [HP9.out]; exact HL7.out)).mono ?_
        rintro e w11 ⟨rfl, hb11⟩
        rw [(sameP_iff P7 P9).2 HP9.out.symm]
        have HS11 := Lib.hid (HS10.out.trans (hb11.mono HS10.out.size))
        clear hb11
        go_wp2_with fail
        go_ret
        exact ⟨rfl, HS11.out⟩
    | false =>
      obtain rfl : xs = [] := by rw [HXs.out, hpr]; rfl
      obtain rfl : xe = 1 := by rw [HXe.out, hpr]; rfl
      clear hpr HXs HXe
      simp only [show bs [] = (⟨#[]⟩ : ByteArray) from rfl]
      go_wp2_with fail
      have HSx := HS4
      clear HF4 HS4
      have hex := ext_min l 900 (by decide)
      rw [show (900 : Int).toNat = 900 from rfl] at hex
      have htl : (l.take 900).length ≤ 900 := by rw [List.length_take]; omega
      have HPC := Lib.hid (parse_cases (l.take 900))
      have hpl := parse_len (l.take 900)
      generalize l.take 900 = tl at *
      have HEx := Lib.hid hex
      clear hex
      have HEn : Hid (AllPA [] w4) := Lib.hid AllPA.nil_
      go_wp2_with fail
      rw [HEx.out]
      refine (parse_any tl _ (by omega)).mono ?_
      rintro e w7 ⟨hb7, A7, c7, rfl, hok7, hA7, hcap7⟩
      generalize hq7 : parseL (tl) = q at *
      obtain ⟨P7, pos7, er7⟩ := q
      dsimp only at hok7 hcap7 ⊢
      have HQ7 := Lib.hid hq7
      have HOk7 := Lib.hid hok7
      have HB7 := Lib.hid ((HSx.out).trans (hb7.mono (HSx.out).size))
      have HE7 := Lib.hid ((HEn.out).now hb7)
      clear hq7 hok7 hb7 hA7
      have hpl7 : P7.types.length ≤ 20 := hpl
      have HTh7 := Lib.hid (zero_there w7)
      go_upto_region 12 with (first
          | ((with_reducible show wpList _ _ _ (Oper.mk _ (Op.store 24 (Operand.tmp 11) _) _ _ _ _ :: _) _ _); refine wpList_store_box rfl 24 _ _ rfl w7.heap.size (P7.cs A7 c7) ?x1 ?x2 HTh7.out (by kernel_rfl) (by simp [Value.oneCell']) ?_; (case x1 => rfl); (case x2 => rfl); intro ws7 hr ht hg; (obtain ⟨hpa, hbb⟩ := PA.made2 rfl HOk7.out hcap7 hr hg); have HF7 := Lib.hid (AllPA.cons hpa (HE7.out.now hbb)); have HS7 := Lib.hid (HB7.out.trans (hbb.mono HB7.out.size)); clear hr ht hg hpa hbb)
          | fail)
      clear HTh7 HOk7 HE7 HB7 hpl
      rcases HPC.out with ⟨pos, er, h1, h2, h3, h4⟩ | ⟨P0, h1, h2⟩
      · obtain ⟨hP, rfl, rfl⟩ : P7 = zeroProf ∧ pos7 = pos ∧ er7 = er := by
          injection h1 with a b
          injection b with b c
          exact ⟨a, b, c⟩
        have HP7 := Lib.hid hP
        have d1 : (er7 != 0) = true := by simpa using h2
        have d2 : decide ((0 : Int) ≤ pos7) = true := by simpa using h3
        have d3 : decide (pos7 ≤ 900) = true := by simp; omega
        have HL7 := Lib.hid (show P7.types.length ≤ 1000 by omega)
        clear h1 h2 hP
        go_wp2_with (first
            | ((with_reducible show wpList _ _ _ (Oper.mk _ (Op.load 24 (Operand.tmp 11)) _ _ _ _ :: _) _ _); refine wpList_load_w rfl 24 (.tmp 11) rfl (w7.heap.size) 0 rfl ((P7).cs (A7) (c7)).toList _ ((HF7).out (w7.heap.size, P7, A7, c7) (by simp)).rng Tryd.underlying24 rfl (by kernel_rfl) ?_)
            | fail)
        refine (rSame_any P7 zeroProf A7 none c7 0 _ (HF7.out (w7.heap.size, P7, A7, c7) (by simp)).ok (okZero _) HL7.out (Nat.zero_le _)).mono ?_
        rintro e w8 ⟨rfl, hb8⟩
        rw [(sameP_iff P7 zeroProf).2 HP7.out]
        have HS8 := Lib.hid (HS7.out.trans (hb8.mono HS7.out.size))
        clear hb8
        go_wp2_with fail
        go_ret
        exact ⟨rfl, HS8.out⟩
      · obtain ⟨hP, rfl, rfl⟩ : P7 = P0 ∧ pos7 = 0 ∧ er7 = 0 := by
          injection h1 with a b
          injection b with b c
          exact ⟨a, b, c⟩
        rw [← hP] at h2
        have HR7 := Lib.hid h2
        have HPP := Lib.hid (parse_print (rt_of h2))
        have hpl2 := print_len (rt_of h2)
        have HL7 := Lib.hid (show P7.types.length ≤ 1000 by omega)
        clear h1 h2 hP HPC
        go_wp2_with (first
            | ((with_reducible show wpList _ _ _ (Oper.mk _ (Op.load 24 (Operand.tmp 11)) _ _ _ _ :: _) _ _); refine wpList_load_w rfl 24 (.tmp 11) rfl (w7.heap.size) 0 rfl ((P7).cs (A7) (c7)).toList _ ((HF7).out (w7.heap.size, P7, A7, c7) (by simp)).rng Tryd.underlying24 rfl (by kernel_rfl) ?_)
            | fail)
        refine (print_any P7 A7 c7 B _ (HF7.out (w7.heap.size, P7, A7, c7) (by simp)).ok hcap7 (HV.out.now HS7.out)).mono ?_
        rintro e w8 ⟨rfl, hb8⟩
        rw [HR7.out]
        have HF8 := Lib.hid (HF7.out.now hb8)
        have HS8 := Lib.hid (HS7.out.trans (hb8.mono HS7.out.size))
        clear hb8 HF7 HS7
        simp only [if_true]
        generalize printF P7 = pt at *
        go_wp2_with fail
        refine (parse_any pt _ (by omega)).mono ?_
        rintro e w9 ⟨hb9, A9, c9, rfl, hok9, hA9, hcap9⟩
        generalize hq9 : parseL (pt) = q at *
        obtain ⟨P9, pos9, er9⟩ := q
        dsimp only at hok9 hcap9 ⊢
        have HQ9 := Lib.hid hq9
        have HOk9 := Lib.hid hok9
        have HB9 := Lib.hid ((HS8.out).trans (hb9.mono (HS8.out).size))
        have HE9 := Lib.hid ((HF8.out).now hb9)
        clear hq9 hok9 hb9 hA9
        obtain ⟨hP9, rfl, rfl⟩ : P9 = P7 ∧ pos9 = 0 ∧ er9 = 0 := by
          have hq := HPP.out
          injection hq with a b
          injection b with b c
          exact ⟨a, b, c⟩
        have HP9 := Lib.hid hP9
        clear hP9
        have HTh9 := Lib.hid (zero_there w9)
        go_upto_region 16 with (first
            | ((with_reducible show wpList _ _ _ (Oper.mk _ (Op.store 24 (Operand.tmp 16) _) _ _ _ _ :: _) _ _); refine wpList_store_box rfl 24 _ _ rfl w9.heap.size (P9.cs A9 c9) ?x1 ?x2 HTh9.out (by kernel_rfl) (by simp [Value.oneCell']) ?_; (case x1 => rfl); (case x2 => rfl); intro ws9 hr ht hg; (obtain ⟨hpa, hbb⟩ := PA.made2 rfl HOk9.out hcap9 hr hg); have HF9 := Lib.hid (AllPA.cons hpa (HE9.out.now hbb)); have HS9 := Lib.hid (HB9.out.trans (hbb.mono HB9.out.size)); clear hr ht hg hpa hbb)
            | fail)
        clear HTh9 HOk9 HE9 HB9 HF8 HS8
        go_wp2_with (first
            | ((with_reducible show wpList _ _ _ (Oper.mk _ (Op.load 24 (Operand.tmp 11)) _ _ _ _ :: _) _ _); refine wpList_load_w rfl 24 (.tmp 11) rfl (w7.heap.size) 0 rfl ((P7).cs (A7) (c7)).toList _ ((HF9).out (w7.heap.size, P7, A7, c7) (by simp)).rng Tryd.underlying24 rfl (by kernel_rfl) ?_)
            | fail)
        refine (pRight_any P7 A7 c7 _ (HF9.out (w7.heap.size, P7, A7, c7) (by simp)).ok).mono ?_
        rintro e w10 ⟨rfl, hb10⟩
        rw [HR7.out]
        have HF10 := Lib.hid (HF9.out.now hb10)
        have HS10 := Lib.hid (HS9.out.trans (hb10.mono HS9.out.size))
        clear hb10 HF9 HS9
        go_wp2_with (first
            | ((with_reducible show wpList _ _ _ (Oper.mk _ (Op.load 24 (Operand.tmp 11)) _ _ _ _ :: _) _ _); refine wpList_load_w rfl 24 (.tmp 11) rfl (w7.heap.size) 0 rfl ((P7).cs (A7) (c7)).toList _ ((HF10).out (w7.heap.size, P7, A7, c7) (by simp)).rng Tryd.underlying24 rfl (by kernel_rfl) ?_)
            | ((with_reducible show wpList _ _ _ (Oper.mk _ (Op.load 24 (Operand.tmp 16)) _ _ _ _ :: _) _ _); refine wpList_load_w rfl 24 (.tmp 16) rfl (w9.heap.size) 0 rfl ((P9).cs (A9) (c9)).toList _ ((HF10).out (w9.heap.size, P9, A9, c9) (by simp)).rng Tryd.underlying24 rfl (by kernel_rfl) ?_)
            | fail)
        refine (rSame_any P7 P9 A7 A9 c7 c9 _ (HF10.out (w7.heap.size, P7, A7, c7) (by simp)).ok (HF10.out (w9.heap.size, P9, A9, c9) (by simp)).ok HL7.out (by rw [HP9.out]; exact HL7.out)).mono ?_
        rintro e w11 ⟨rfl, hb11⟩
        rw [(sameP_iff P7 P9).2 HP9.out.symm]
        have HS11 := Lib.hid (HS10.out.trans (hb11.mono HS10.out.size))
        clear hb11
        go_wp2_with fail
        go_ret
        exact ⟨rfl, HS11.out⟩
end Go.Proofs.YtnaejabgkfhlbaaDoor
