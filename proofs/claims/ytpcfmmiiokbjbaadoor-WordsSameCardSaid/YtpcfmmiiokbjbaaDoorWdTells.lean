/- The walk of WordsTells. -/
import Derived.Test.YtpcfmmiiokbjbaaDoorWdSmall
import Derived.Test.YtpcfmmiiokbjbaaDoorWdI
import Derived.Test.YtpcfmmiiokbjbaaDoorWdFew
namespace Go.Proofs.YtpcfmmiiokbjbaaDoor
open Go.RowKit

-- wdCall CONTRACT | k : a call that leaves an owned slice: HRk reads it, HBk
-- wdB CONTRACT | k | before : a call that hands back a bool or a string
theorem partsF_len (s : List UInt8) (size most : Int) (hs : s.length ≤ 1000000) : (partsF s size most).length ≤ 1000001 := by
  unfold partsF
  split
  · simp
  · rename_i h
    have h2 : 2 ≤ size.toNat := by omega
    have hl := partsL_len size.toNat (most - 1).toNat s
    have hm : ∀ (n : Nat) (t : List UInt8), (partsL size.toNat n t).length ≤ t.length + 1 := by
      intro n
      induction n with
      | zero => intro t; simp [partsL]
      | succ n ih =>
        intro t
        rw [partsL]
        split
        · have := ih (t.drop size.toNat)
          simp only [List.length_cons]
          simp only [List.length_drop] at this
          omega
        · simp
    have := hm (most - 1).toNat s
    omega
theorem findF_len (texts : List (List UInt8)) (word : List UInt8) : (findF texts word).length ≤ texts.length := by
  unfold findF
  split
  · exact idxs_le _ _ _
  · simp
theorem sameW_refl (xs : List (List UInt8)) (A B : Option Addr) (c d : Nat) (w : World) (hr : RdL 1 strE w w.heap.size A xs) (hs : RdL 1 strE w w.heap.size B xs) (hx : xs.length ≤ 9223372036854775807) :
    Calls Tryd.prog 9 #[.slice A xs.length c, .slice B xs.length d] w fun e w' => e = .returned (.bool true) ∧ Below w.heap.size w w' :=
  (sameW_any xs xs A B c d w hr hs hx hx).mono fun e w' ⟨h1, h2⟩ => ⟨by rw [h1, beq_self_eq_true], h2⟩
theorem intsW_refl (xs : List Int) (A B : Option Addr) (c d : Nat) (w : World) (hr : RdL 1 intE w w.heap.size A xs) (hs : RdL 1 intE w w.heap.size B xs) (hx : xs.length ≤ 9223372036854775807) :
    Calls Tryd.prog 16 #[.slice A xs.length c, .slice B xs.length d] w fun e w' => e = .returned (.bool true) ∧ Below w.heap.size w w' :=
  (intsW_any xs xs A B c d w hr hs hx hx).mono fun e w' ⟨h1, h2⟩ => ⟨by rw [h1, beq_self_eq_true], h2⟩
set_option maxRecDepth 100000 in
set_option maxHeartbeats 8000000 in
theorem tells10_any (s : List UInt8) (texts : List (List UInt8)) (size most : Int) (A : Option Addr) (c : Nat) (w : World) (hV : Vs w.heap.size w) (hr : RdL 1 strE w w.heap.size A texts) (hn : texts.length ≤ 9223372036854775807)
    (hsz : InInt size) (hmo : InInt most) :
    Calls Tryd.prog 3 #[.string (bs s), .slice A texts.length c, .int .i64 size, .int .i64 most] w fun e w' => e = .returned (.bool true) ∧ Below w.heap.size w w' := by
  have HV := Lib.hid hV
  have HR := Lib.hid hr
  have HSz := Lib.hid hsz
  have HMo := Lib.hid hmo
  have hbz : (bs s).size = s.length := bs_size s
  have HB0 := Lib.hid (Below.refl w.heap.size w)
  clear hV hr hsz hmo
  go_enter Tryd.func3, Tryd.ntmps3
  go_wp2_with fail
  refine (small10_any _ HV.out).mono ?_
  rintro e w1 ⟨rfl, hb⟩
  have HB1 := Lib.hid (HB0.out.trans (hb.mono HB0.out.size))
  clear hb
  by_cases g1 : (400 : Int) < s.length
  · go_wp2_with fail
    go_ret
    exact ⟨rfl, HB1.out⟩
  have d1 : decide ((400 : Int) < s.length) = false := by simp; omega
  go_wp2_with fail
  refine (fewW_any texts 20 A c _ (HR.out.now HB1.out) hn (by decide)).mono ?_
  rintro e w2 ⟨rfl, rfl⟩
  cases hf : fewB texts 20
  · go_wp2_with fail
    go_ret
    exact ⟨rfl, HB1.out⟩
  have HF := Lib.hid (fewB_inv hf)
  have hf1 := HF.out.1
  have hls : s.length ≤ 1000000 := by omega
  have HX := Lib.hid (show ∀ x ∈ texts, x.length ≤ 1000000 from fun x hx => by have := HF.out.2 x hx; omega)
  have HWl := Lib.hid (words_len s)
  have HPl := Lib.hid (partsF_len s size most hls)
  have HFl := Lib.hid (findF_len texts s)
  clear hf g1
  go_wp2_with fail
  refine (words_any s _ hls).mono ?_
  rintro e w3 ⟨A3, c3, rfl, ho, hb⟩
  have HR3 := Lib.hid (ho.rd (strLay))
  have HN3 := Lib.hid hb
  have HB3 := Lib.hid (HB1.out.trans (hb.mono HB1.out.size))
  clear hb ho
  go_wp2_with fail
  refine (wordsR_any s _ hls).mono ?_
  rintro e w4 ⟨A4, c4, rfl, ho, hb⟩
  have HR4 := Lib.hid (ho.rd (strLay))
  have HN4 := Lib.hid hb
  have HB4 := Lib.hid (HB3.out.trans (hb.mono HB3.out.size))
  clear hb ho
  go_wp2_with fail
  refine (sameW_refl (wordsF s) A3 A4 c3 c4 _ (HR3.out.now HN4.out) HR4.out (by have := HWl.out; omega)).mono ?_
  rintro e w5 ⟨rfl, hb⟩
  have HB5 := Lib.hid (HB4.out.trans (hb.mono HB4.out.size))
  clear hb
  clear HR3 HR4 HN3 HN4
  go_wp2_with fail
  refine (parts_any s size most _ hls HSz.out HMo.out).mono ?_
  rintro e w6 ⟨A6, c6, rfl, ho, hb⟩
  have HR6 := Lib.hid (ho.rd (strLay))
  have HN6 := Lib.hid hb
  have HB6 := Lib.hid (HB5.out.trans (hb.mono HB5.out.size))
  clear hb ho
  go_wp2_with fail
  refine (partsR_any s size most _ hls HSz.out HMo.out).mono ?_
  rintro e w7 ⟨A7, c7, rfl, ho, hb⟩
  have HR7 := Lib.hid (ho.rd (strLay))
  have HN7 := Lib.hid hb
  have HB7 := Lib.hid (HB6.out.trans (hb.mono HB6.out.size))
  clear hb ho
  go_wp2_with fail
  refine (sameW_refl (partsF s size most) A6 A7 c6 c7 _ (HR6.out.now HN7.out) HR7.out (by have := HPl.out; omega)).mono ?_
  rintro e w8 ⟨rfl, hb⟩
  have HB8 := Lib.hid (HB7.out.trans (hb.mono HB7.out.size))
  clear hb
  clear HR6 HR7 HN6 HN7
  go_wp2_with fail
  refine (line_any s most _ (by omega) HMo.out).mono ?_
  rintro e w9 ⟨rfl, hb⟩
  have HB9 := Lib.hid (HB8.out.trans (hb.mono HB8.out.size))
  clear hb
  go_wp2_with fail
  refine (lineRb_any s most _ (by omega) HMo.out).mono ?_
  rintro e w10 ⟨rfl, hb⟩
  have HB10 := Lib.hid (HB9.out.trans (hb.mono HB9.out.size))
  clear hb
  have q1 : ((bs (lineF s most)).toList == (bs (lineF s most)).toList) = true := beq_self_eq_true _
  clear HB1 HB3 HB4 HB5 HB6 HB7 HB8 HB9
  go_wp2_with fail
  refine (find_any texts s A c _ (HR.out.now HB10.out) (by omega) HX.out hls).mono ?_
  rintro e w11 ⟨A11, c11, rfl, ho, hb⟩
  have HR11 := Lib.hid (ho.rd (intLay))
  have HN11 := Lib.hid hb
  have HB11 := Lib.hid (HB10.out.trans (hb.mono HB10.out.size))
  clear hb ho
  go_wp2_with fail
  refine (findR_any texts s A c _ (HR.out.now HB11.out) (by omega) HX.out hls).mono ?_
  rintro e w12 ⟨A12, c12, rfl, ho, hb⟩
  have HR12 := Lib.hid (ho.rd (intLay))
  have HN12 := Lib.hid hb
  have HB12 := Lib.hid (HB11.out.trans (hb.mono HB11.out.size))
  clear hb ho
  go_wp2_with fail
  refine (intsW_refl (findF texts s) A11 A12 c11 c12 _ (HR11.out.now HN12.out) HR12.out (by have := HFl.out; omega)).mono ?_
  rintro e w13 ⟨rfl, hb⟩
  have HB13 := Lib.hid (HB12.out.trans (hb.mono HB12.out.size))
  clear hb
  clear HR11 HR12 HN11 HN12
  go_wp2_with fail
  refine (digest_any texts A c _ (HV.out.on HB13.out) (HR.out.now HB13.out) (by omega) HX.out).mono ?_
  rintro e w14 ⟨rfl, hb⟩
  have HB14 := Lib.hid (HB13.out.trans (hb.mono HB13.out.size))
  clear hb
  go_wp2_with fail
  refine (digestR_any texts A c _ (HR.out.now HB14.out) (by omega) HX.out).mono ?_
  rintro e w15 ⟨rfl, hb⟩
  have HB15 := Lib.hid (HB14.out.trans (hb.mono HB14.out.size))
  clear hb
  have q2 : ((bs (digestF texts)).toList == (bs (digestF texts)).toList) = true := beq_self_eq_true _
  go_wp2_with fail
  go_ret
  exact ⟨rfl, HB15.out⟩
end Go.Proofs.YtpcfmmiiokbjbaaDoor
