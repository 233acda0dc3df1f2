/- The walk of lingualaw12.SyntaxBack. -/
import Derived.Test.YtnaejabgkfhlbaaDoorSyTells
set_option linter.unusedSimpArgs false
set_option linter.unusedVariables false
namespace Go.Proofs.YtnaejabgkfhlbaaDoor
open Go.RowKit

/-- What Parse says: an error at a place of the string, or a right profile. -/
theorem parse_cases (l : List UInt8) : (∃ pos er, parseL l = (zeroProf, pos, er) ∧ er ≠ 0 ∧ 0 ≤ pos ∧ pos ≤ l.length) ∨ (∃ P, parseL l = (P, 0, 0) ∧ profRight P = true) := by
  cases hx : lexL l with
  | error q =>
    obtain ⟨a, x⟩ := q
    have h := lexL_err hx
    exact .inl ⟨_, _, parse_err hx, h.1, by omega, by omega⟩
  | ok ts =>
    have h0 := lex_fine (lexL_ok hx).2
    have h1 := parse_ok hx
    by_cases he : (parseG opsJ ⟨ts, 0, 0⟩).2.err = 0
    · exact .inr ⟨_, by rw [h1, if_pos he], parseJ_right h0.1 h0.2.1 he⟩
    · have hs := sim_parse.2 ts 0 h0.1
      cases hy : parseG opsX (ts.map Tok.sh) with
      | ok q =>
        obtain ⟨a, n⟩ := q
        rw [hy] at hs
        exact absurd (by rw [hs.1]) he
      | error q =>
        obtain ⟨i, e⟩ := q
        rw [hy] at hs
        obtain ⟨t, ht, h2, h3, h4⟩ := hs
        have h5 := h0.2.2 t (List.mem_of_getElem? ht)
        exact .inl ⟨_, _, by rw [h1, if_neg he], he, by rw [h4]; omega, by rw [h4]; omega⟩
-- backRest W : the second half, in the world W (HSx : below w)
set_option maxRecDepth 100000 in
set_option maxHeartbeats 8000000 in
theorem back12_any (B : Nat) (l : List UInt8) (P : Prof) (A : Option Addr) (c : Nat) (w : World) (hV : Vs B w) (hlm : l.length ≤ 9223372036854775807) (hp : ProfOk w w.heap.size A P) (hc : P.types.length ≤ c) :
    Calls Tryd.prog 4 #[P.v A c, .string (bs l)] w fun e w' => e = .returned (.bool true) ∧ Below w.heap.size w w' := by
  have hb0 : Below w.heap.size w (w.alloc (.cells (P.cs A c) 24)) := (Below.refl _ _).alloc (Nat.le_refl _) _
  have HF0 := Lib.hid (one_box hp hc)
  have HS0 := Lib.hid hb0
  have HV0 := Lib.hid (hV.now hb0)
  have HV := Lib.hid hV
  clear hb0 hp hV
  have hsl : (bs l).size = l.length := bs_size l
  go_enter Tryd.func4, Tryd.ntmps4
  go_wp2_with fail
  refine (small12_any B _ HV0.out).mono ?_
  rintro e w1 ⟨rfl, hb1⟩
  have HF1 := Lib.hid (HF0.out.now hb1)
  have HS1 := Lib.hid (HS0.out.trans (hb1.mono HS0.out.size))
  clear hb1 HF0 HS0
  clear HV0
  go_wp2_with (first
      | ((with_reducible show wpList _ _ _ (Oper.mk _ (Op.load 24 (Operand.tmp 2)) _ _ _ _ :: _) _ _); refine wpList_load_w rfl 24 (.tmp 2) rfl (w.heap.size) 0 rfl ((P).cs (A) (c)).toList _ ((HF1).out (w.heap.size, P, A, c) (by simp)).rng Tryd.underlying24 rfl (by kernel_rfl) ?_)
      | fail)
  refine (few12_any P A c _ (HF1.out (w.heap.size, P, A, c) (by simp)).ok).mono ?_
  rintro e w2 ⟨rfl, hb2⟩
  have HF2 := Lib.hid (HF1.out.now hb2)
  have HS2 := Lib.hid (HS1.out.trans (hb2.mono HS1.out.size))
  clear hb2 HF1 HS1
  cases hfp : few12 P with
  | false =>
    go_wp2_with fail
    go_ret
    exact ⟨rfl, HS2.out⟩
  | true =>
    have HfP := Lib.hid (few12_len hfp)
    clear hfp
    go_wp2_with (first
        | ((with_reducible show wpList _ _ _ (Oper.mk _ (Op.load 24 (Operand.tmp 2)) _ _ _ _ :: _) _ _); refine wpList_load_w rfl 24 (.tmp 2) rfl (w.heap.size) 0 rfl ((P).cs (A) (c)).toList _ ((HF2).out (w.heap.size, P, A, c) (by simp)).rng Tryd.underlying24 rfl (by kernel_rfl) ?_)
        | fail)
    refine (print_any P A c B _ (HF2.out (w.heap.size, P, A, c) (by simp)).ok hc (HV.out.now HS2.out)).mono ?_
    rintro e w3 ⟨rfl, hb3⟩
    have HF3 := Lib.hid (HF2.out.now hb3)
    have HS3 := Lib.hid (HS2.out.trans (hb3.mono HS2.out.size))
    clear hb3 HF2 HS2
    obtain ⟨xs, hxs⟩ : ∃ x, x = (if profRight P = true then printF P else []) := ⟨_, rfl⟩
    obtain ⟨xe, hxe⟩ : ∃ x : Int, x = (if profRight P = true then 0 else 1) := ⟨_, rfl⟩
    rw [← hxs, ← hxe]
    have HXs := Lib.hid hxs
    have HXe := Lib.hid hxe
    clear hxs hxe
    go_wp2_with (first
        | ((with_reducible show wpList _ _ _ (Oper.mk _ (Op.load 24 (Operand.tmp 2)) _ _ _ _ :: _) _ _); refine wpList_load_w rfl 24 (.tmp 2) rfl (w.heap.size) 0 rfl ((P).cs (A) (c)).toList _ ((HF3).out (w.heap.size, P, A, c) (by simp)).rng Tryd.underlying24 rfl (by kernel_rfl) ?_)
        | fail)
    refine (pRight_any P A c _ (HF3.out (w.heap.size, P, A, c) (by simp)).ok).mono ?_
    rintro e w4 ⟨rfl, hb4⟩
    have HF4 := Lib.hid (HF3.out.now hb4)
    have HS4 := Lib.hid (HS3.out.trans (hb4.mono HS3.out.size))
    clear hb4 HF3 HS3
    cases hpr : profRight P with
    | true =>
      have hx : xs = printF P := by rw [HXs.out, hpr]; rfl
      obtain rfl : xe = 0 := by rw [HXe.out, hpr]; rfl
      have HPP : Hid (parseL xs = (P, 0, 0)) := Lib.hid (by rw [hx]; exact parse_print (rt_of hpr))
      have hpl : xs.length ≤ 1617 := by rw [hx]; exact print_len (rt_of hpr)
      have HL : Hid (P.types.length ≤ 1000) := Lib.hid (by have := HfP.out.1; omega)
      clear hpr hx HXs HXe
      go_wp2_with fail
      refine (parse_any xs _ (by omega)).mono ?_
      rintro e w5 ⟨hb5, A5, c5, rfl, hok5, hA5, hcap5⟩
      generalize hq5 : parseL (xs) = q at *
      obtain ⟨P5, pos5, er5⟩ := q
      dsimp only at hok5 hcap5 ⊢
      have HQ5 := Lib.hid hq5
      have HOk5 := Lib.hid hok5
      have HB5 := Lib.hid ((HS4.out).trans (hb5.mono (HS4.out).size))
      have HE5 := Lib.hid ((HF4.out).now hb5)
      clear hq5 hok5 hb5 hA5
      obtain ⟨hP5, rfl, rfl⟩ : P5 = P ∧ pos5 = 0 ∧ er5 = 0 := by
        have hq := HPP.out
        injection hq with a b
        injection b with b c
        exact ⟨a, b, c⟩
      have HP5 := Lib.hid hP5
      clear hP5
      have HTh5 := Lib.hid (zero_there w5)
      go_upto_region 7 with (first
          | ((with_reducible show wpList _ _ _ (Oper.mk _ (Op.store 24 (Operand.tmp 8) _) _ _ _ _ :: _) _ _); refine wpList_store_box rfl 24 _ _ rfl w5.heap.size (P5.cs A5 c5) ?x1 ?x2 HTh5.out (by kernel_rfl) (by simp [Value.oneCell']) ?_; (case x1 => rfl); (case x2 => rfl); intro ws5 hr ht hg; (obtain ⟨hpa, hbb⟩ := PA.made2 rfl HOk5.out hcap5 hr hg); have HF5 := Lib.hid (AllPA.cons hpa (HE5.out.now hbb)); have HS5 := Lib.hid (HB5.out.trans (hbb.mono HB5.out.size)); clear hr ht hg hpa hbb)
          | fail)
      clear HTh5 HOk5 HE5 HB5 HF4 HS4
      go_wp2_with (first
          | ((with_reducible show wpList _ _ _ (Oper.mk _ (Op.load 24 (Operand.tmp 2)) _ _ _ _ :: _) _ _); refine wpList_load_w rfl 24 (.tmp 2) rfl (w.heap.size) 0 rfl ((P).cs (A) (c)).toList _ ((HF5).out (w.heap.size, P, A, c) (by simp)).rng Tryd.underlying24 rfl (by kernel_rfl) ?_)
          | ((with_reducible show wpList _ _ _ (Oper.mk _ (Op.load 24 (Operand.tmp 8)) _ _ _ _ :: _) _ _); refine wpList_load_w rfl 24 (.tmp 8) rfl (w5.heap.size) 0 rfl ((P5).cs (A5) (c5)).toList _ ((HF5).out (w5.heap.size, P5, A5, c5) (by simp)).rng Tryd.underlying24 rfl (by kernel_rfl) ?_)
          | fail)
      refine (rSame_any P P5 A A5 c c5 _ (HF5.out (w.heap.size, P, A, c) (by simp)).ok (HF5.out (w5.heap.size, P5, A5, c5) (by simp)).ok HL.out (by rw [HP5.out]; exact HL.out)).mono ?_
      rintro e w6 ⟨rfl, hb6⟩
      rw [(sameP_iff P P5).2 HP5.out.symm]
      have HS6 := Lib.hid (HS5.out.trans (hb6.mono HS5.out.size))
      clear hb6
      go_wp2_with fail
      have HSx := HS6
      clear HF5 HS5 HS6
      have hex := ext_min l 900 (by decide)
      rw [show (900 : Int).toNat = 900 from rfl] at hex
      have htl : (l.take 900).length ≤ 900 := by rw [List.length_take]; omega
      have HPC := Lib.hid (parse_cases (l.take 900))
      have hpl := parse_len (l.take 900)
      generalize l.take 900 = tl at *
      have HEx := Lib.hid hex
      clear hex
      have HEn : Hid (AllPA [] w6) := Lib.hid AllPA.nil_
      go_wp2_with fail
      rw [HEx.out]
      refine (parse_any tl _ (by omega)).mono ?_
      rintro e w7 ⟨hb7, A7, c7, rfl, hok7, hA7, hcap7⟩
      generalize hq7 : parseL (tl) = q at *
      obtain ⟨P7, pos7, er7⟩ := q
      dsimp only at hok7 hcap7 ⊢
      have HQ7 := Lib.hid hq7
      have HOk7 := Lib.hid hok7
      have HB7 := Lib.hid ((HSx.out).trans (hb7.mono (HSx.out).size))
      have HE7 := Lib.hid ((HEn.out).now hb7)
      clear hq7 hok7 hb7 hA7
      have hpl7 : P7.types.length ≤ 20 := hpl
      have HTh7 := Lib.hid (zero_there w7)
      go_upto_region 12 with (first
          | ((with_reducible show wpList _ _ _ (Oper.mk _ (Op.store 24 (Operand.tmp 11) _) _ _ _ _ :: _) _ _); refine wpList_store_box rfl 24 _ _ rfl w7.heap.size (P7.cs A7 c7) ?x1 ?x2 HTh7.out (by kernel_rfl) (by simp [Value.oneCell']) ?_; (case x1 => rfl); (case x2 => rfl); intro ws7 hr ht hg; (obtain ⟨hpa, hbb⟩ := PA.made2 rfl HOk7.out hcap7 hr hg); have HF7 := Lib.hid (AllPA.cons hpa (HE7.out.now hbb)); have HS7 := Lib.hid (HB7.out.trans (hbb.mono HB7.out.size)); clear hr ht hg hpa hbb)
          | fail)
      clear HTh7 HOk7 HE7 HB7 hpl
      rcases HPC.out with ⟨pos, er, h1, h2, h3, h4⟩ | ⟨P0, h1, h2⟩
      · obtain ⟨hP, rfl, rfl⟩ : P7 = zeroProf ∧ pos7 = pos ∧ er7 = er := by
          injection h1 with a b
          injection b with b c
          exact ⟨a, b, c⟩
        have HP7 := Lib.hid hP
        have d1 : (er7 != 0) = true := by simpa using h2
        have d2 : decide ((0 : Int) ≤ pos7) = true := by simpa using h3
        have d3 : decide (pos7 ≤ 900) = true := by simp; omega
        have HL7 := Lib.hid (show P7.types.length ≤ 1000 by omega)
        clear h1 h2 hP
        go_wp2_with (first
            | ((with_reducible show wpList _ _ _ (Oper.mk _ (Op.load 24 (Operand.tmp 11)) _ _ _ _ :: _) _ _); refine wpList_load_w rfl 24 (.tmp 11) rfl (w7.heap.size) 0 rfl ((P7).cs (A7) (c7)).toList _ ((HF7).out (w7.heap.size, P7, A7, c7) (by simp)).rng Tryd.underlying24 rfl (by kernel_rfl) ?_)
            | fail)
        refine (rSame_any P7 zeroProf A7 none c7 0 _ (HF7.out (w7.heap.size, P7, A7, c7) (by simp)).ok (okZero _) HL7.out (Nat.zero_le _)).mono ?_
        rintro e w8 ⟨rfl, hb8⟩
        rw [(sameP_iff P7 zeroProf).2 HP7.out]
        have HS8 := Lib.hid (HS7.out.trans (hb8.mono HS7.out.size))
        clear hb8
        go_wp2_with fail
        go_ret
        exact ⟨rfl, HS8.out⟩
      · obtain ⟨hP, rfl, rfl⟩ : P7 = P0 ∧ pos7 = 0 ∧ er7 = 0 := by
          injection h1 with a b
          injection b with b c
          exact ⟨a, b, c⟩
        rw [← hP] at h2
        have HR7 := Lib.hid h2
        have HPP := Lib.hid (parse_print (rt_of h2))
        have hpl2 := print_len (rt_of h2)
        have HL7 := Lib.hid (show P7.types.length ≤ 1000 by omega)
        clear h1 h2 hP HPC
        go_wp2_with (first
            | ((with_reducible show wpList _ _ _ (Oper.mk _ (Op.load 24 (Operand.tmp 11)) _ _ _ _ :: _) _ _); refine wpList_load_w rfl 24 (.tmp 11) rfl (w7.heap.size) 0 rfl ((P7).cs (A7) (c7)).toList _ ((HF7).out (w7.heap.size, P7, A7, c7) (by simp)).rng Tryd.underlying24 rfl (by kernel_rfl) ?_)
            | fail)
        refine (print_any P7 A7 c7 B _ (HF7.out (w7.heap.size, P7, A7, c7) (by simp)).ok hcap7 (HV.out.now HS7.out)).mono ?_
        rintro e w8 ⟨rfl, hb8⟩
        rw [HR7.out]
        have HF8 := Lib.hid (HF7.out.now hb8)
        have HS8 := Lib.hid (HS7.out.trans (hb8.mono HS7.out.size))
        clear hb8 HF7 HS7
        simp only [if_true]
        generalize printF P7 = pt at *
        go_wp2_with fail
        refine (parse_any pt _ (by omega)).mono ?_
        rintro e w9 ⟨hb9, A9, c9, rfl, hok9, hA9, hcap9⟩
        generalize hq9 : parseL (pt) = q at *
        obtain ⟨P9, pos9, er9⟩ := q
        dsimp only at hok9 hcap9 ⊢
        have HQ9 := Lib.hid hq9
        have HOk9 := Lib.hid hok9
        have HB9 := Lib.hid ((HS8.out).trans (hb9.mono (HS8.out).size))
        have HE9 := Lib.hid ((HF8.out).now hb9)
        clear hq9 hok9 hb9 hA9
        obtain ⟨hP9, rfl, rfl⟩ : P9 = P7 ∧ pos9 = 0 ∧ er9 = 0 := by
          have hq := HPP.out
          injection hq with a b
          injection b with b c
          exact ⟨a, b, c⟩
        have HP9 := Lib.hid hP9
        clear hP9
        have HTh9 := Lib.hid (zero_there w9)
        go_upto_region 16 with (first
            | ((with_reducible show wpList _ _ _ (Oper.mk _ (Op.store 24 (Operand.tmp 16) _) _ _ _ _ :: _) _ _); refine wpList_store_box rfl 24 _ _ rfl w9.heap.size (P9.cs A9 c9) ?x1 ?x2 HTh9.out (by kernel_rfl) (by simp [Value.oneCell']) ?_; (case x1 => rfl); (case x2 => rfl); intro ws9 hr ht hg; (obtain ⟨hpa, hbb⟩ := PA.made2 rfl HOk9.out hcap9 hr hg); have HF9 := Lib.hid (AllPA.cons hpa (HE9.out.now hbb)); have HS9 := Lib.hid (HB9.out.trans (hbb.mono HB9.out.size)); clear hr ht hg hpa hbb)
            | fail)
        clear HTh9 HOk9 HE9 HB9 HF8 HS8
        go_wp2_with (first
            | ((with_reducible show wpList _ _ _ (Oper.mk _ (Op.load 24 (Operand.tmp 11)) _ _ _ _ :: _) _ _); refine wpList_load_w rfl 24 (.tmp 11) rfl (w7.heap.size) 0 rfl ((P7).cs (A7) (c7)).toList _ ((HF9).out (w7.heap.size, P7, A7, c7) (by simp)).rng Tryd.underlying24 rfl (by kernel_rfl) ?_)
            | fail)
        refine (pRight_any P7 A7 c7 _ (HF9.out (w7.heap.size, P7, A7, c7) (by simp)).ok).mono ?_
        rintro e w10 ⟨rfl, hb10⟩
        rw [HR7.out]
        have HF10 := Lib.hid (HF9.out.now hb10)
        have HS10 := Lib.hid (HS9.out.trans (hb10.mono HS9.out.size))
        clear hb10 HF9 HS9
        go_wp2_with (first
            | ((with_reducible show wpList _ _ _ (Oper.mk _ (Op.load 24 (Operand.tmp 11)) _ _ _ _ :: _) _ _); refine wpList_load_w rfl 24 (.tmp 11) rfl (w7.heap.size) 0 rfl ((P7).cs (A7) (c7)).toList _ ((HF10).out (w7.heap.size, P7, A7, c7) (by simp)).rng Tryd.underlying24 rfl (by kernel_rfl) ?_)
            | ((with_reducible show wpList _ _ _ (Oper.mk _ (Op.load 24 (Operand.tmp 16)) _ _ _ _ :: _) _ _); refine wpList_load_w rfl 24 (.tmp 16) rfl (w9.heap.size) 0 rfl ((P9).cs (A9) (c9)).toList _ ((HF10).out (w9.heap.size, P9, A9, c9) (by simp)).rng Tryd.underlying24 rfl (by kernel_rfl) ?_)
            | fail)
        refine (rSame_any P7 P9 A7 A9 c7 c9 _ (HF10.out (w7.heap.size, P7, A7, c7) (by simp)).ok (HF10.out (w9.heap.size, P9, A9, c9) (by simp)).ok HL7.out (by rw [HP9.out]; exact HL7.out)).mono ?_
        rintro e w11 ⟨rfl, hb11⟩
        rw [(sameP_iff P7 P9).2 HP9.out.symm]
        have HS11 := Lib.hid (HS10.out.trans (hb11.mono HS10.out.size))
        clear hb11
        go_wp2_with fail
        go_ret
        exact ⟨rfl, HS11.out⟩
    | false =>
      obtain rfl : xs = [] := by rw [HXs.out, hpr]; rfl
      obtain rfl : xe = 1 := by rw [HXe.out, hpr]; rfl
      clear hpr HXs HXe
      simp only [show bs [] = (⟨#[]⟩ : ByteArray) from rfl]
      go_wp2_with fail
      have HSx := HS4
      clear HF4 HS4
      have hex := ext_min l 900 (by decide)
      rw [show (900 : Int).toNat = 900 from rfl] at hex
      have htl : (l.take 900).length ≤ 900 := by rw [List.length_take]; omega
      have HPC := Lib.hid (parse_cases (l.take 900))
      have hpl := parse_len (l.take 900)
      generalize l.take 900 = tl at *
      have HEx := Lib.hid hex
      clear hex
      have HEn : Hid (AllPA [] w4) := Lib.hid AllPA.nil_
      go_wp2_with fail
      rw [HEx.out]
      refine (parse_any tl _ (by omega)).mono ?_
      rintro e w7 ⟨hb7, A7, c7, rfl, hok7, hA7, hcap7⟩
      generalize hq7 : parseL (tl) = q at *
      obtain ⟨P7, pos7, er7⟩ := q
      dsimp only at hok7 hcap7 ⊢
      have HQ7 := Lib.hid hq7
      have HOk7 := Lib.hid hok7
      have HB7 := Lib.hid ((HSx.out).trans (hb7.mono (HSx.out).size))
      have HE7 := Lib.hid ((HEn.out).now hb7)
      clear hq7 hok7 hb7 hA7
      have hpl7 : P7.types.length ≤ 20 := hpl
      have HTh7 := Lib.hid (zero_there w7)
      go_upto_region 12 with (first
          | ((with_reducible show wpList _ _ _ (Oper.mk _ (Op.store 24 (Operand.tmp 11) _) _ _ _ _ :: _) _ _); refine wpList_store_box rfl 24 _ _ rfl w7.heap.size (P7.cs A7 c7) ?x1 ?x2 HTh7.out (by kernel_rfl) (by simp [Value.oneCell']) ?_; (case x1 => rfl); (case x2 => rfl); intro ws7 hr ht hg; (obtain ⟨hpa, hbb⟩ := PA.made2 rfl HOk7.out hcap7 hr hg); have HF7 := Lib.hid (AllPA.cons hpa (HE7.out.now hbb)); have HS7 := Lib.hid (HB7.out.trans (hbb.mono HB7.out.size)); clear hr ht hg hpa hbb)
          | fail)
      clear HTh7 HOk7 HE7 HB7 hpl
      rcases HPC.out with ⟨pos, er, h1, h2, h3, h4⟩ | ⟨P0, h1, h2⟩
      · obtain ⟨hP, rfl, rfl⟩ : P7 = zeroProf ∧ pos7 = pos ∧ er7 = er := by
          injection h1 with a b
          injection b with b c
          exact ⟨a, b, c⟩
        have HP7 := Lib.hid hP
        have d1 : (er7 != 0) = true := by simpa using h2
        have d2 : decide ((0 : Int) ≤ pos7) = true := by simpa using h3
        have d3 : decide (pos7 ≤ 900) = true := by simp; omega
        have HL7 := Lib.hid (show P7.types.length ≤ 1000 by omega)
        clear h1 h2 hP
        go_wp2_with (first
            | ((with_reducible show wpList _ _ _ (Oper.mk _ (Op.load 24 (Operand.tmp 11)) _ _ _ _ :: _) _ _); refine wpList_load_w rfl 24 (.tmp 11) rfl (w7.heap.size) 0 rfl ((P7).cs (A7) (c7)).toList _ ((HF7).out (w7.heap.size, P7, A7, c7) (by simp)).rng Tryd.underlying24 rfl (by kernel_rfl) ?_)
            | fail)
        refine (rSame_any P7 zeroProf A7 none c7 0 _ (HF7.out (w7.heap.size, P7, A7, c7) (by simp)).ok (okZero _) HL7.out (Nat.zero_le _)).mono ?_
        rintro e w8 ⟨rfl, hb8⟩
        rw [(sameP_iff P7 zeroProf).2 HP7.out]
        have HS8 := Lib.hid (HS7.out.trans (hb8.mono HS7.out.size))
        clear hb8
        go_wp2_with fail
        go_ret
        exact ⟨rfl, HS8.out⟩
      · obtain ⟨hP, rfl, rfl⟩ : P7 = P0 ∧ pos7 = 0 ∧ er7 = 0 := by
          injection h1 with a b
          injection b with b c
          exact ⟨a, b, c⟩
        rw [← hP] at h2
        have HR7 := Lib.hid h2
        have HPP := Lib.hid (parse_print (rt_of h2))
        have hpl2 := print_len (rt_of h2)
        have HL7 := Lib.hid (show P7.types.length ≤ 1000 by omega)
        clear h1 h2 hP HPC
        go_wp2_with (first
            | ((with_reducible show wpList _ _ _ (Oper.mk _ (Op.load 24 (Operand.tmp 11)) _ _ _ _ :: _) _ _); refine wpList_load_w rfl 24 (.tmp 11) rfl (w7.heap.size) 0 rfl ((P7).cs (A7) (c7)).toList _ ((HF7).out (w7.heap.size, P7, A7, c7) (by simp)).rng Tryd.underlying24 rfl (by kernel_rfl) ?_)
            | fail)
        refine (print_any P7 A7 c7 B _ (HF7.out (w7.heap.size, P7, A7, c7) (by simp)).ok hcap7 (HV.out.now HS7.out)).mono ?_
        rintro e w8 ⟨rfl, hb8⟩
        rw [HR7.out]
        have HF8 := Lib.hid (HF7.out.now hb8)
        have HS8 := Lib.hid (HS7.out.trans (hb8.mono HS7.out.size))
        clear hb8 HF7 HS7
        simp only [if_true]
        generalize printF P7 = pt at *
        go_wp2_with fail
        refine (parse_any pt _ (by omega)).mono ?_
        rintro e w9 ⟨hb9, A9, c9, rfl, hok9, hA9, hcap9⟩
        generalize hq9 : parseL (pt) = q at *
        obtain ⟨P9, pos9, er9⟩ := q
        dsimp only at hok9 hcap9 ⊢
        have HQ9 := Lib.hid hq9
        have HOk9 := Lib.hid hok9
        have HB9 := Lib.hid ((HS8.out).trans (hb9.mono (HS8.out).size))
        have HE9 := Lib.hid ((HF8.out).now hb9)
        clear hq9 hok9 hb9 hA9
        obtain ⟨hP9, rfl, rfl⟩ : P9 = P7 ∧ pos9 = 0 ∧ er9 = 0 := by
          have hq := HPP.out
          injection hq with a b
          injection b with b c
          exact ⟨a, b, c⟩
        have HP9 := Lib.hid hP9
        clear hP9
        have HTh9 := Lib.hid (zero_there w9)
        go_upto_region 16 with (first
            | ((with_reducible show wpList _ _ _ (Oper.mk _ (Op.store 24 (Operand.tmp 16) _) _ _ _ _ :: _) _ _); refine wpList_store_box rfl 24 _ _ rfl w9.heap.size (P9.cs A9 c9) ?x1 ?x2 HTh9.out (by kernel_rfl) (by simp [Value.oneCell']) ?_; (case x1 => rfl); (case x2 => rfl); intro ws9 hr ht hg; (obtain ⟨hpa, hbb⟩ := PA.made2 rfl HOk9.out hcap9 hr hg); have HF9 := Lib.hid (AllPA.cons hpa (HE9.out.now hbb)); have HS9 := Lib.hid (HB9.out.trans (hbb.mono HB9.out.size)); clear hr ht hg hpa hbb)
            | fail)
        clear HTh9 HOk9 HE9 HB9 HF8 HS8
        go_wp2_with (first
            | ((with_reducible show wpList _ _ _ (Oper.mk _ (Op.load 24 (Operand.tmp 11)) _ _ _ _ :: _) _ _); refine wpList_load_w rfl 24 (.tmp 11) rfl (w7.heap.size) 0 rfl ((P7).cs (A7) (c7)).toList _ ((HF9).out (w7.heap.size, P7, A7, c7) (by simp)).rng Tryd.underlying24 rfl (by kernel_rfl) ?_)
            | fail)
        refine (pRight_any P7 A7 c7 _ (HF9.out (w7.heap.size, P7, A7, c7) (by simp)).ok).mono ?_
        rintro e w10 ⟨rfl, hb10⟩
        rw [HR7.out]
        have HF10 := Lib.hid (HF9.out.now hb10)
        have HS10 := Lib.hid (HS9.out.trans (hb10.mono HS9.out.size))
        clear hb10 HF9 HS9
        go_wp2_with (first
            | ((with_reducible show wpList _ _ _ (Oper.mk _ (Op.load 24 (Operand.tmp 11)) _ _ _ _ :: _) _ _); refine wpList_load_w rfl 24 (.tmp 11) rfl (w7.heap.size) 0 rfl ((P7).cs (A7) (c7)).toList _ ((HF10).out (w7.heap.size, P7, A7, c7) (by simp)).rng Tryd.underlying24 rfl (by kernel_rfl) ?_)
            | ((with_reducible show wpList _ _ _ (Oper.mk _ (Op.load 24 (Operand.tmp 16)) _ _ _ _ :: _) _ _); refine wpList_load_w rfl 24 (.tmp 16) rfl (w9.heap.size) 0 rfl ((P9).cs (A9) (c9)).toList _ ((HF10).out (w9.heap.size, P9, A9, c9) (by simp)).rng Tryd.underlying24 rfl (by kernel_rfl) ?_)
            | fail)
        refine (rSame_any P7 P9 A7 A9 c7 c9 _ (HF10.out (w7.heap.size, P7, A7, c7) (by simp)).ok (HF10.out (w9.heap.size, P9, A9, c9) (by simp)).ok HL7.out (by rw [HP9.out]; exact HL7.out)).mono ?_
        rintro e w11 ⟨rfl, hb11⟩
        rw [(sameP_iff P7 P9).2 HP9.out.symm]
        have HS11 := Lib.hid (HS10.out.trans (hb11.mono HS10.out.size))
        clear hb11
        go_wp2_with fail
        go_ret
        exact ⟨rfl, HS11.out⟩
end Go.Proofs.YtnaejabgkfhlbaaDoor
