/- Contract of lingualaw12.small. -/
import Derived.Test.YtnaejabgkfhlbaaDoorSyZ
import Derived.Test.YtnaejabgkfhlbaaDoorSyV
import Derived.Test.YtnaejabgkfhlbaaDoorSyY
set_option linter.unusedSimpArgs false
set_option linter.unusedVariables false
namespace Go.Proofs.YtnaejabgkfhlbaaDoor
open Go.RowKit

theorem textL_20 : textL.length ≤ 1000000 := by rw [text_len]; decide
set_option maxRecDepth 100000 in
set_option maxHeartbeats 8000000 in
theorem small12_any (B : Nat) (w : World) (hV : Vs B w) : Calls Tryd.prog 9 #[] w fun e w' => e = .returned (.bool true) ∧ Below w.heap.size w w' := by
  have HV := Lib.hid hV
  have HB0 := Lib.hid (Below.refl w.heap.size w)
  have HE0 : Hid (AllPA [] w) := Lib.hid AllPA.nil_
  have HTx := Lib.hid text12_any
  have hl20 := textL_20
  have HPT := Lib.hid parse_text
  have HPD := Lib.hid parse_d
  have HTL := Lib.hid text_len
  have HPn := Lib.hid print_text
  clear hV
  generalize textL = lt at *
  obtain ⟨M, hM⟩ : ∃ M, M = mailP := ⟨_, rfl⟩
  have HM := Lib.hid hM
  rw [← hM] at HPT HPn
  have HR : Hid (profRight M = true) := Lib.hid (by rw [hM]; exact mail_right)
  clear hM
  go_enter Tryd.func9, Tryd.ntmps9
  go_wp2_with fail
  refine (HTx.out _).mono ?_
  rintro e wy ⟨rfl, rfl⟩
  go_wp2_with fail
  refine (parse_any lt _ hl20).mono ?_
  rintro e w1 ⟨hb1, A1, c1, rfl, hok1, hA1, hcap1⟩
  generalize hq1 : parseL (lt) = q at *
  obtain ⟨P1, pos1, er1⟩ := q
  dsimp only at hok1 hcap1 ⊢
  have HQ1 := Lib.hid hq1
  have HOk1 := Lib.hid hok1
  have HB1 := Lib.hid ((HB0.out).trans (hb1.mono (HB0.out).size))
  have HE1 := Lib.hid ((HE0.out).now hb1)
  clear hq1 hok1 hb1 hA1
  obtain ⟨hP1, rfl, rfl⟩ : P1 = M ∧ pos1 = 0 ∧ er1 = 0 := by
    have hq := HPT.out
    injection hq with a b
    injection b with c d
    exact ⟨a, c, d⟩
  have HP1 := Lib.hid hP1
  clear hP1
  have HTh1 := Lib.hid (zero_there w1)
  go_upto_region 2 with (first
      | ((with_reducible show wpList _ _ _ (Oper.mk _ (Op.store 24 (Operand.tmp 1) _) _ _ _ _ :: _) _ _); refine wpList_store_box rfl 24 _ _ rfl w1.heap.size (P1.cs A1 c1) ?x1 ?x2 HTh1.out (by kernel_rfl) (by simp [Value.oneCell']) ?_; (case x1 => rfl); (case x2 => rfl); intro ws1 hr ht hg; (obtain ⟨hpa, hbb⟩ := PA.made2 rfl HOk1.out hcap1 hr hg); have HF1 := Lib.hid (AllPA.cons hpa (HE1.out.now hbb)); have HS1 := Lib.hid (HB1.out.trans (hbb.mono HB1.out.size)); clear hr ht hg hpa hbb)
      | fail)
  have HTh2 := Lib.hid (show ((ws1.alloc (.cells #[.string ⟨#[112, 110, 103]⟩, .string ⟨#[112, 100, 102]⟩] 9)).alloc (.cells zeroCs 24)).there (ws1.heap.size + 1) 0 22 from zero_there2 _ (by simp))
  have HOk2 : Hid (ProfOk (ws1.alloc (.cells #[.string ⟨#[112, 110, 103]⟩, .string ⟨#[112, 100, 102]⟩] 9)) (ws1.alloc (.cells #[.string ⟨#[112, 110, 103]⟩, .string ⟨#[112, 100, 102]⟩] 9)).heap.size (some ⟨ws1.heap.size, 0, none⟩) mailP) :=
    Lib.hid ⟨strE_rd (tabS ws1 [[112, 110, 103], [112, 100, 102]] _ _ rfl rfl), by show (4 : Nat) ≤ _; decide, by show (2 : Nat) ≤ _; decide, fun s hs => by
      have : s = bs [112, 110, 103] ∨ s = bs [112, 100, 102] := by simpa [mailP] using hs
      rcases this with rfl | rfl <;> (show (3 : Nat) ≤ _; decide)⟩
  have HE2 := Lib.hid (HF1.out.alloc (.cells #[.string ⟨#[112, 110, 103]⟩, .string ⟨#[112, 100, 102]⟩] 9))
  have HB2 := Lib.hid (HS1.out.alloc HS1.out.size (.cells #[.string ⟨#[112, 110, 103]⟩, .string ⟨#[112, 100, 102]⟩] 9))
  go_upto_region 3 with (first
      | ((with_reducible show wpList _ _ _ (Oper.mk _ (Op.store 24 (Operand.tmp 4) _) _ _ _ _ :: _) _ _); refine wpList_store_box rfl 24 _ _ rfl (ws1.heap.size + 1) (mailP.cs (some ⟨ws1.heap.size, 0, none⟩) 2) ?x1 ?x2 HTh2.out (by kernel_rfl) (by simp [Value.oneCell']) ?_; (case x1 => rfl); (case x2 => rfl); intro ws2 hr ht hg; (obtain ⟨hpa, hbb⟩ := PA.made2 (by simp) HOk2.out (show mailP.types.length ≤ 2 from Nat.le_refl 2) hr hg); have HF2 := Lib.hid (AllPA.cons hpa (HE2.out.now hbb)); have HS2 := Lib.hid (HB2.out.trans (hbb.mono HB2.out.size)); clear hr ht hg hpa hbb)
      | fail)
  rw [← HM.out] at HF2
  obtain ⟨b2, hb2⟩ : ∃ b, b = ws1.heap.size + 1 := ⟨_, rfl⟩
  obtain ⟨A2, hA2⟩ : ∃ A : Option Addr, A = some ⟨ws1.heap.size, 0, none⟩ := ⟨_, rfl⟩
  rw [← hb2, ← hA2] at HF2
  rw [← hb2]
  clear HTh2 HOk2 HE2 HB2 HF1 HS1 HOk1 HE1 HB1 HTh1 hb2 hA2
  go_wp2_with (first
      | ((with_reducible show wpList _ _ _ (Oper.mk _ (Op.load 24 (Operand.tmp 1)) _ _ _ _ :: _) _ _); refine wpList_load_w rfl 24 (.tmp 1) rfl (w1.heap.size) 0 rfl ((P1).cs (A1) (c1)).toList _ ((HF2).out (w1.heap.size, P1, A1, c1) (by simp)).rng Tryd.underlying24 rfl (by kernel_rfl) ?_)
      | fail)
  have HPr1 : Hid (profRight P1 = true) := Lib.hid (by rw [HP1.out]; exact HR.out)
  have HPn1 : Hid ((printF P1).length = 222) := Lib.hid (by rw [HP1.out]; exact HPn.out)
  refine (print_any P1 A1 c1 B _ (HF2.out (w1.heap.size, P1, A1, c1) (by simp)).ok hcap1 (HV.out.now HS2.out)).mono ?_
  rintro e w3 ⟨rfl, hb3⟩
  rw [HPr1.out]
  have HF3 := Lib.hid (HF2.out.now hb3)
  have HS3 := Lib.hid (HS2.out.trans (hb3.mono HS2.out.size))
  clear hb3 HF2 HS2
  simp only [if_true]
  generalize hpl : printF P1 = pl at *
  clear hpl
  go_wp2_with fail
  have hp4 := parse_a
  refine (parse_any [110, 101, 116, 119, 111, 114, 107] _ (by decide)).mono ?_
  rintro e w4 ⟨hb4, A4, c4, rfl, hok4, hA4, hcap4⟩
  generalize hq4 : parseL ([110, 101, 116, 119, 111, 114, 107]) = q at *
  obtain ⟨P4, pos4, er4⟩ := q
  dsimp only at hok4 hcap4 ⊢
  have HQ4 := Lib.hid hq4
  have HOk4 := Lib.hid hok4
  have HB4 := Lib.hid ((HS3.out).trans (hb4.mono (HS3.out).size))
  have HE4 := Lib.hid ((HF3.out).now hb4)
  clear hq4 hok4 hb4 hA4
  obtain ⟨rfl, rfl⟩ : pos4 = 7 ∧ er4 = 12 := by
    have hq := hp4
    injection hq with a c
    exact ⟨a, c⟩
  have HTh4 := Lib.hid (zero_there w4)
  go_upto_region 5 with (first
      | ((with_reducible show wpList _ _ _ (Oper.mk _ (Op.store 24 (Operand.tmp 7) _) _ _ _ _ :: _) _ _); refine wpList_store_box rfl 24 _ _ rfl w4.heap.size (P4.cs A4 c4) ?x1 ?x2 HTh4.out (by kernel_rfl) (by simp [Value.oneCell']) ?_; (case x1 => rfl); (case x2 => rfl); intro ws4 hr ht hg; (obtain ⟨hpa, hbb⟩ := PA.made2 rfl HOk4.out hcap4 hr hg); have HF4 := Lib.hid (AllPA.cons hpa (HE4.out.now hbb)); have HS4 := Lib.hid (HB4.out.trans (hbb.mono HB4.out.size)); clear hr ht hg hpa hbb)
      | fail)
  clear HTh4 HOk4 HE4 HB4 HF3 HS3 hp4
  go_wp2_with fail
  have hp5 := parse_b
  refine (parse_any [110, 101, 116, 119, 111, 114, 107, 32, 109, 97, 105, 108, 32, 59, 32, 101, 100, 105, 116, 32, 121, 101, 115, 32, 119, 105, 116, 104, 105, 110, 32, 48, 32, 59] _ (by decide)).mono ?_
  rintro e w5 ⟨hb5, A5, c5, rfl, hok5, hA5, hcap5⟩
  generalize hq5 : parseL ([110, 101, 116, 119, 111, 114, 107, 32, 109, 97, 105, 108, 32, 59, 32, 101, 100, 105, 116, 32, 121, 101, 115, 32, 119, 105, 116, 104, 105, 110, 32, 48, 32, 59]) = q at *
  obtain ⟨P5, pos5, er5⟩ := q
  dsimp only at hok5 hcap5 ⊢
  have HQ5 := Lib.hid hq5
  have HOk5 := Lib.hid hok5
  have HB5 := Lib.hid ((HS4.out).trans (hb5.mono (HS4.out).size))
  have HE5 := Lib.hid ((HF4.out).now hb5)
  clear hq5 hok5 hb5 hA5
  obtain ⟨rfl, rfl⟩ : pos5 = 31 ∧ er5 = 3 := by
    have hq := hp5
    injection hq with a c
    exact ⟨a, c⟩
  have HTh5 := Lib.hid (zero_there w5)
  go_upto_region 6 with (first
      | ((with_reducible show wpList _ _ _ (Oper.mk _ (Op.store 24 (Operand.tmp 10) _) _ _ _ _ :: _) _ _); refine wpList_store_box rfl 24 _ _ rfl w5.heap.size (P5.cs A5 c5) ?x1 ?x2 HTh5.out (by kernel_rfl) (by simp [Value.oneCell']) ?_; (case x1 => rfl); (case x2 => rfl); intro ws5 hr ht hg; (obtain ⟨hpa, hbb⟩ := PA.made2 rfl HOk5.out hcap5 hr hg); have HF5 := Lib.hid (AllPA.cons hpa (HE5.out.now hbb)); have HS5 := Lib.hid (HB5.out.trans (hbb.mono HB5.out.size)); clear hr ht hg hpa hbb)
      | fail)
  clear HTh5 HOk5 HE5 HB5 HF4 HS4 hp5
  go_wp2_with fail
  have hp6 := parse_c
  refine (parse_any [110, 101, 116, 119, 111, 114, 107, 32, 109, 97, 105, 108, 32, 59, 32, 100, 101, 108, 101, 116, 101, 32, 110, 111, 32, 59] _ (by decide)).mono ?_
  rintro e w6 ⟨hb6, A6, c6, rfl, hok6, hA6, hcap6⟩
  generalize hq6 : parseL ([110, 101, 116, 119, 111, 114, 107, 32, 109, 97, 105, 108, 32, 59, 32, 100, 101, 108, 101, 116, 101, 32, 110, 111, 32, 59]) = q at *
  obtain ⟨P6, pos6, er6⟩ := q
  dsimp only at hok6 hcap6 ⊢
  have HQ6 := Lib.hid hq6
  have HOk6 := Lib.hid hok6
  have HB6 := Lib.hid ((HS5.out).trans (hb6.mono (HS5.out).size))
  have HE6 := Lib.hid ((HF5.out).now hb6)
  clear hq6 hok6 hb6 hA6
  obtain ⟨rfl, rfl⟩ : pos6 = 15 ∧ er6 = 12 := by
    have hq := hp6
    injection hq with a c
    exact ⟨a, c⟩
  have HTh6 := Lib.hid (zero_there w6)
  go_upto_region 7 with (first
      | ((with_reducible show wpList _ _ _ (Oper.mk _ (Op.store 24 (Operand.tmp 13) _) _ _ _ _ :: _) _ _); refine wpList_store_box rfl 24 _ _ rfl w6.heap.size (P6.cs A6 c6) ?x1 ?x2 HTh6.out (by kernel_rfl) (by simp [Value.oneCell']) ?_; (case x1 => rfl); (case x2 => rfl); intro ws6 hr ht hg; (obtain ⟨hpa, hbb⟩ := PA.made2 rfl HOk6.out hcap6 hr hg); have HF6 := Lib.hid (AllPA.cons hpa (HE6.out.now hbb)); have HS6 := Lib.hid (HB6.out.trans (hbb.mono HB6.out.size)); clear hr ht hg hpa hbb)
      | fail)
  clear HTh6 HOk6 HE6 HB6 HF5 HS5 hp6
  go_wp2_with fail
  refine (HTx.out _).mono ?_
  rintro e wy ⟨rfl, rfl⟩
  go_wp2_with (first
      | ((with_reducible show wpList _ _ _ (Oper.mk _ (Op.binOp .add 9 _ _ _) _ _ _ _ :: _) _ _); refine wp_cat rfl rfl Tryd.underlying9 rfl rfl (by first | omega | (simp; done) | (simp; omega)) ?_)
      | fail)
  refine (parse_any (lt ++ [110, 101, 116, 119, 111, 114, 107]) _ (by have := HTL.out; simp; omega)).mono ?_
  rintro e w7 ⟨hb7, A7, c7, rfl, hok7, hA7, hcap7⟩
  generalize hq7 : parseL ((lt ++ [110, 101, 116, 119, 111, 114, 107])) = q at *
  obtain ⟨P7, pos7, er7⟩ := q
  dsimp only at hok7 hcap7 ⊢
  have HQ7 := Lib.hid hq7
  have HOk7 := Lib.hid hok7
  have HB7 := Lib.hid ((HS6.out).trans (hb7.mono (HS6.out).size))
  have HE7 := Lib.hid ((HF6.out).now hb7)
  clear hq7 hok7 hb7 hA7
  obtain ⟨rfl, rfl⟩ : pos7 = 221 ∧ er7 = 12 := by
    have hq := HPD.out
    injection hq with a c
    exact ⟨a, c⟩
  have HTh7 := Lib.hid (zero_there w7)
  go_upto_region 8 with (first
      | ((with_reducible show wpList _ _ _ (Oper.mk _ (Op.store 24 (Operand.tmp 16) _) _ _ _ _ :: _) _ _); refine wpList_store_box rfl 24 _ _ rfl w7.heap.size (P7.cs A7 c7) ?x1 ?x2 HTh7.out (by kernel_rfl) (by simp [Value.oneCell']) ?_; (case x1 => rfl); (case x2 => rfl); intro ws7 hr ht hg; (obtain ⟨hpa, hbb⟩ := PA.made2 rfl HOk7.out hcap7 hr hg); have HF7 := Lib.hid (AllPA.cons hpa (HE7.out.now hbb)); have HS7 := Lib.hid (HB7.out.trans (hbb.mono HB7.out.size)); clear hr ht hg hpa hbb)
      | fail)
  clear HTh7 HOk7 HE7 HB7 HF6 HS6
  have hl1 := HTL.out
  have hl2 := HPn1.out
  have HSame : Hid (sameP P1 M = true) := Lib.hid ((sameP_iff _ _).2 HP1.out)
  have hokP := (HF7.out (w1.heap.size, P1, A1, c1) (by simp)).ok
  have hokM := (HF7.out (b2, M, A2, 2) (by simp)).ok
  have HoP := Lib.hid hokP
  have HoM := Lib.hid hokM
  clear hokP hokM
  have hL1 : P1.types.length ≤ 1000 := by rw [HP1.out, HM.out]; show (2 : Nat) ≤ 1000; decide
  have hL2 : M.types.length ≤ 1000 := by rw [HM.out]; show (2 : Nat) ≤ 1000; decide
  have HLs := Lib.hid (And.intro hL1 hL2)
  clear hL1 hL2
  go_wp2_with (first
      | ((with_reducible show wpList _ _ _ (Oper.mk _ (Op.load 24 (Operand.tmp 1)) _ _ _ _ :: _) _ _); refine wpList_load_w rfl 24 (.tmp 1) rfl (w1.heap.size) 0 rfl ((P1).cs (A1) (c1)).toList _ ((HF7).out (w1.heap.size, P1, A1, c1) (by simp)).rng Tryd.underlying24 rfl (by kernel_rfl) ?_)
      | ((with_reducible show wpList _ _ _ (Oper.mk _ (Op.load 24 (Operand.tmp 4)) _ _ _ _ :: _) _ _); refine wpList_load_w rfl 24 (.tmp 4) rfl (b2) 0 rfl ((M).cs (A2) (2)).toList _ ((HF7).out (b2, M, A2, 2) (by simp)).rng Tryd.underlying24 rfl (by kernel_rfl) ?_)
      | fail)
  refine (rSame_any P1 M A1 A2 c1 2 _ HoP.out HoM.out HLs.out.1 HLs.out.2).mono ?_
  rintro e w8 ⟨rfl, hb8⟩
  rw [HSame.out]
  have HF8 := Lib.hid (HF7.out.now hb8)
  have HS8 := Lib.hid (HS7.out.trans (hb8.mono HS7.out.size))
  clear hb8 HF7 HS7 HoP HoM
  have hz1 : (bs pl).size = pl.length := bs_size _
  have hz2 : (bs lt).size = lt.length := bs_size _
  rw [hl2] at hz1
  rw [hl1] at hz2
  go_wp2_with fail
  refine (HTx.out _).mono ?_
  rintro e wy ⟨rfl, rfl⟩
  go_wp2_with fail
  refine (HTx.out _).mono ?_
  rintro e wy ⟨rfl, rfl⟩
  have HoP := Lib.hid (HF8.out (w1.heap.size, P1, A1, c1) (by simp)).ok
  go_wp2_with (first
      | ((with_reducible show wpList _ _ _ (Oper.mk _ (Op.load 24 (Operand.tmp 1)) _ _ _ _ :: _) _ _); refine wpList_load_w rfl 24 (.tmp 1) rfl (w1.heap.size) 0 rfl ((P1).cs (A1) (c1)).toList _ ((HF8).out (w1.heap.size, P1, A1, c1) (by simp)).rng Tryd.underlying24 rfl (by kernel_rfl) ?_)
      | ((with_reducible show wpList _ _ _ (Oper.mk _ (Op.load 24 (Operand.tmp 4)) _ _ _ _ :: _) _ _); refine wpList_load_w rfl 24 (.tmp 4) rfl (b2) 0 rfl ((M).cs (A2) (2)).toList _ ((HF8).out (b2, M, A2, 2) (by simp)).rng Tryd.underlying24 rfl (by kernel_rfl) ?_)
      | fail)
  refine (pRight_any P1 A1 c1 _ HoP.out).mono ?_
  rintro e w9 ⟨rfl, hb9⟩
  rw [HPr1.out]
  have HF9 := Lib.hid (HF8.out.now hb9)
  have HS9 := Lib.hid (HS8.out.trans (hb9.mono HS8.out.size))
  have HoP9 := Lib.hid (HF9.out (w1.heap.size, P1, A1, c1) (by simp)).ok
  have HoM9 := Lib.hid (HF9.out (b2, M, A2, 2) (by simp)).ok
  clear hb9 HF8 HS8 HoP
  go_wp2_with (first
      | ((with_reducible show wpList _ _ _ (Oper.mk _ (Op.load 24 (Operand.tmp 1)) _ _ _ _ :: _) _ _); refine wpList_load_w rfl 24 (.tmp 1) rfl (w1.heap.size) 0 rfl ((P1).cs (A1) (c1)).toList _ ((HF9).out (w1.heap.size, P1, A1, c1) (by simp)).rng Tryd.underlying24 rfl (by kernel_rfl) ?_)
      | ((with_reducible show wpList _ _ _ (Oper.mk _ (Op.load 24 (Operand.tmp 4)) _ _ _ _ :: _) _ _); refine wpList_load_w rfl 24 (.tmp 4) rfl (b2) 0 rfl ((M).cs (A2) (2)).toList _ ((HF9).out (b2, M, A2, 2) (by simp)).rng Tryd.underlying24 rfl (by kernel_rfl) ?_)
      | fail)
  refine (fSame_any P1 M A1 A2 c1 2 _ HoP9.out HoM9.out HLs.out.1 HLs.out.2).mono ?_
  rintro e w10 ⟨rfl, hb10⟩
  rw [HSame.out]
  have HSa := Lib.hid (HS9.out.trans (hb10.mono HS9.out.size))
  clear hb10 HF9 HS9
  go_wp2_with fail
  go_ret
  exact ⟨rfl, HSa.out⟩
end Go.Proofs.YtnaejabgkfhlbaaDoor
