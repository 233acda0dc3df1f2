/- The walk of WireAgain. -/
import Derived.Test.YtijknmocidggbaaDoorWrWrites
import Derived.Test.YtijknmocidggbaaDoorWrP
namespace Go.Proofs.YtijknmocidggbaaDoor
open Go.RowKit

/-- What a reader has read, and what is left. -/
def Took (l t : List UInt8) (s : RS) : Prop := (s.bad = false → l = t ++ s.rest) ∧ (s.bad = true → s.rest = [])
theorem rNum_bad {e : UInt8} {m : Int} {s : RS} (h0 : s.bad = false) (h : (rNum e m s).2.bad = true) : (rNum e m s).2.rest = [] := by
  unfold rNum at h ⊢
  simp only at h ⊢
  split
  · rfl
  · rename_i h1
    rw [if_neg h1] at h
    split
    · rename_i n hn
      rw [hn] at h
      simp only at h
      split
      · rename_i hq
        rw [if_pos hq] at h
        simp only at h
        rw [h0] at h; cases h
      · rfl
    · rfl
theorem rClose_bad {c : UInt8} {s : RS} (h0 : s.bad = true → s.rest = []) (h : (rClose c s).bad = true) : (rClose c s).rest = [] := by
  unfold rClose at h ⊢
  split
  · rename_i hp
    rw [if_pos hp] at h
    rw [h0 h]; rfl
  · rfl
theorem rText_bad {s : RS} (h0 : s.bad = false) (h : (rText s).2.bad = true) : (rText s).2.rest = [] := by
  unfold rText at h ⊢
  simp only at h ⊢
  split
  · rfl
  · rename_i h1
    rw [if_neg h1] at h
    have hn : (rNum 58 0 s).2.bad = true → (rNum 58 0 s).2.rest = [] := fun hb => rNum_bad h0 hb
    have hc := rClose_bad (c := 44) (s := ⟨(rNum 58 0 s).2.rest.drop (rNum 58 0 s).1.toNat, (rNum 58 0 s).2.bad⟩) (fun hb => by simp only at hb ⊢; rw [hn hb]; simp)
    split
    · rename_i hb; exact hc hb
    · rename_i hb; rw [if_neg hb] at h; exact absurd h hb
theorem itLoop_rest {T : Type} (one : RS → T × RS) (hone : ∀ s, s.bad = false → (one s).2.bad = true → (one s).2.rest = []) : ∀ (n : Nat) (s : RS) (out : List T), (s.bad = true → s.rest = []) → (itLoop one n s out).2.bad = true → (itLoop one n s out).2.rest = []
  | 0, s, out, h0, h => h0 h
  | n + 1, s, out, h0, h => by
    cases hb : s.bad with
    | true => rw [itLoop_bad _ _ _ _ hb]; exact h0 hb
    | false =>
      rw [itLoop_go _ _ _ _ hb] at h ⊢
      exact itLoop_rest one hone n _ _ (hone s hb) h
theorem rItems_bad {T : Type} {one : RS → T × RS} (hone : ∀ s, s.bad = false → (one s).2.bad = true → (one s).2.rest = []) {s : RS} (h0 : s.bad = false) (h : (rItems one s).2.bad = true) : (rItems one s).2.rest = [] := by
  have hl := itLoop_rest one hone (rNum 91 0 s).1.toNat (rNum 91 0 s).2 [] (rNum_bad h0)
  have hc := rClose_bad (c := 93) hl
  unfold rItems at h ⊢
  simp only at h ⊢
  split
  · rename_i hb; exact hc hb
  · rename_i hb; rw [if_neg hb] at h; exact absurd h hb
theorem took_end {l t : List UInt8} {s : RS} (h : Took l t s) (hc : ¬ (s.rest.length = 0 ∧ rDone s = false)) : s.bad = false ∧ l = t ++ s.rest := by
  cases hb : s.bad with
  | false => exact ⟨rfl, h.1 hb⟩
  | true =>
    have := h.2 hb
    exact absurd ⟨by rw [this]; rfl, by simp [rDone, hb]⟩ hc
/-- What is read and written by one of the five kinds. -/
def tookT (k : Int) (s : RS) : List UInt8 × RS :=
  if k = 0 then (encN (rNum 59 0 s).1, (rNum 59 0 s).2) else if k = 1 then (encI (rNum 59 (-9223372036854775808) s).1, (rNum 59 (-9223372036854775808) s).2)
  else if k = 2 then (encT (rText s).1, (rText s).2) else if k = 3 then (encL encI (rItems (rNum 59 (-9223372036854775808)) s).1, (rItems (rNum 59 (-9223372036854775808)) s).2)
  else (encL encT (rItems rText s).1, (rItems rText s).2)
theorem tookT_ok (k : Int) (l : List UInt8) : Took l (tookT k ⟨l, false⟩).1 (tookT k ⟨l, false⟩).2 := by
  unfold tookT
  split
  · refine ⟨fun h => ?_, rNum_bad rfl⟩
    have h1 := (rInt_inv rfl h).2
    have h2 := rNum_ge 59 ⟨l, false⟩
    simp only at h1 ⊢
    rw [encN, if_neg (by omega)]
    exact h1
  · split
    · exact ⟨fun h => (rInt_inv rfl h).2, rNum_bad rfl⟩
    · split
      · exact ⟨fun h => (rText_inv h).2, rText_bad rfl⟩
      · split
        · exact ⟨fun h => (rItems_inv (one := rNum 59 (-9223372036854775808)) encI (fun s h => rInt_inv rfl h) h).2, rItems_bad (one := rNum 59 (-9223372036854775808)) (fun s h0 h => rNum_bad h0 h) rfl⟩
        · exact ⟨fun h => (rItems_inv encT (fun s h => rText_inv h) h).2, rItems_bad (fun s h0 h => rText_bad h0 h) rfl⟩
set_option maxRecDepth 100000 in
set_option maxHeartbeats 4000000 in
theorem again_any (l : List UInt8) (what : Int) (w : World) (hV : Vs w.heap.size w) :
    Calls Tryd.prog 4 #[.string (bs l), .int .i64 what] w fun e w' => e = .returned (.bool true) ∧ Below w.heap.size w w' := by
  have HV := Lib.hid hV
  clear hV
  have hsz : (bs l).size = l.length := bs_size l
  go_enter Tryd.func4, Tryd.ntmps4
  go_wp2_with fail
  refine (small_any _ HV.out).mono ?_
  rintro e w1 ⟨rfl, hb1⟩
  have HB1 := Lib.hid hb1
  clear hb1
  by_cases h400 : (400 : Int) < l.length
  · go_wp2_with fail
    go_ret
    exact ⟨rfl, HB1.out⟩
  · go_wp2_with fail
    refine (open_any l _).mono ?_
    rintro e w2 ⟨rfl, hr2, hb2⟩
    have HR2 := Lib.hid hr2
    have HB2 := Lib.hid (HB1.out.trans (hb2.mono HB1.out.size))
    have HZ := Lib.hid (show w.heap.size ≤ w1.heap.size from HB1.out.size)
    generalize w1.heap.size = b at *
    clear hr2 hb2
    go_wp2_with fail
    refine (kind_any ⟨what, 0, [], [], none, 0, [], none, 0⟩ _).mono ?_
    rintro e w3 ⟨rfl, hb3⟩
    have HR3 := Lib.hid (HR2.out.now hb3)
    have HB3 := Lib.hid (HB2.out.trans (hb3.mono HB2.out.size))
    have hk5 := VM.knd_in ⟨what, 0, [], [], none, 0, [], none, 0⟩
    generalize VM.knd ⟨what, 0, [], [], none, 0, [], none, 0⟩ = k at *
    have HV3 := Lib.hid (HV.out.now HB3.out)
    have hl := HR3.out.lt
    clear hb3 HR2 HB2 HB1
    have hrl : (⟨l, false⟩ : RS).rest.length ≤ 1000000000000 := by show l.length ≤ _; omega
    have hl4 : l.length ≤ 400 := by omega
    have HRL := Lib.hid hrl
    have HL4 := Lib.hid hl4
    clear hrl hl4
    have hcase : k = 0 ∨ k = 1 ∨ k = 2 ∨ k = 3 ∨ k = 4 := by omega
    clear hk5
    have HTk := Lib.hid (tookT_ok k l)
    go_upto_block 0 with fail
    go_cut [7] (fun t wx => t = .string (bs (tookT k ⟨l, false⟩).1) ∧ RdAt b (tookT k ⟨l, false⟩).2 wx ∧ Below w.heap.size w wx)
    case first =>
      rcases hcase with rfl | rfl | rfl | rfl | rfl
      · go_wp2_with fail
        refine (rdNum_any b ⟨l, false⟩ _ HV3.out HZ.out HR3.out HRL.out).mono ?_
        rintro e w4 ⟨rfl, h4, t4⟩
        have H4 := Lib.hid h4
        have HB4 := Lib.hid (HB3.out.trans (t4.to_below HB3.out.size (fun i hi => by cases hi; exact HZ.out)))
        have HV4 := Lib.hid (HV.out.now HB4.out)
        clear h4 t4
        go_wp2_with fail
        refine (wNum_any _ _ HV4.out (rNum_in _ _ _)).mono ?_
        rintro e w5 ⟨rfl, hb5⟩
        have H5 := Lib.hid (H4.out.now hb5)
        have HB5 := Lib.hid (HB4.out.trans (hb5.mono HB4.out.size))
        clear hb5
        go_wp2_with fail
        go_meet
        exact ⟨rfl, H5.out, HB5.out⟩
      · go_wp2_with fail
        refine (rdInt_any b ⟨l, false⟩ _ HV3.out HZ.out HR3.out HRL.out).mono ?_
        rintro e w4 ⟨rfl, h4, t4⟩
        have H4 := Lib.hid h4
        have HB4 := Lib.hid (HB3.out.trans (t4.to_below HB3.out.size (fun i hi => by cases hi; exact HZ.out)))
        have HV4 := Lib.hid (HV.out.now HB4.out)
        clear h4 t4
        go_wp2_with fail
        refine (wInt_any _ _ HV4.out (rNum_in _ _ _)).mono ?_
        rintro e w5 ⟨rfl, hb5⟩
        have H5 := Lib.hid (H4.out.now hb5)
        have HB5 := Lib.hid (HB4.out.trans (hb5.mono HB4.out.size))
        clear hb5
        go_wp2_with fail
        go_meet
        exact ⟨rfl, H5.out, HB5.out⟩
      · go_wp2_with fail
        refine (rdText_any b ⟨l, false⟩ _ HV3.out HZ.out HR3.out HRL.out).mono ?_
        rintro e w4 ⟨rfl, h4, t4⟩
        have H4 := Lib.hid h4
        have HB4 := Lib.hid (HB3.out.trans (t4.to_below HB3.out.size (fun i hi => by cases hi; exact HZ.out)))
        have HV4 := Lib.hid (HV.out.now HB4.out)
        clear h4 t4
        go_wp2_with fail
        refine (wText_any _ _ HV4.out (by have h := text_small ⟨l, false⟩; have := HL4.out; simp only at h; omega)).mono ?_
        rintro e w5 ⟨rfl, hb5⟩
        have H5 := Lib.hid (H4.out.now hb5)
        have HB5 := Lib.hid (HB4.out.trans (hb5.mono HB4.out.size))
        clear hb5
        go_wp2_with fail
        go_meet
        exact ⟨rfl, H5.out, HB5.out⟩
      · go_wp2_with fail
        refine (rdNums_any b ⟨l, false⟩ _ HV3.out HZ.out HR3.out HRL.out).mono ?_
        rintro e w4 ⟨A4, c4, rfl, ho4, h4, t4⟩
        have H4 := Lib.hid h4
        have HB4 := Lib.hid (HB3.out.trans (t4.to_below HB3.out.size (fun i hi => by cases hi; exact HZ.out)))
        have HV4 := Lib.hid (HV.out.now HB4.out)
        clear h4 t4
        go_wp2_with fail
        refine (wNums_any _ A4 c4 _ HV4.out (ho4.rd intLay) (items_all InInt (fun s => rNum_in _ _ _) _) (by have h := nums_small ⟨l, false⟩; have := HL4.out; simp only at h; omega)).mono ?_
        rintro e w5 ⟨rfl, hb5⟩
        have H5 := Lib.hid (H4.out.now hb5)
        have HB5 := Lib.hid (HB4.out.trans (hb5.mono HB4.out.size))
        clear hb5
        go_wp2_with fail
        go_meet
        exact ⟨rfl, H5.out, HB5.out⟩
      · go_wp2_with fail
        refine (rdTexts_any b ⟨l, false⟩ _ HV3.out HZ.out HR3.out HRL.out).mono ?_
        rintro e w4 ⟨A4, c4, rfl, ho4, h4, t4⟩
        have H4 := Lib.hid h4
        have HB4 := Lib.hid (HB3.out.trans (t4.to_below HB3.out.size (fun i hi => by cases hi; exact HZ.out)))
        have HV4 := Lib.hid (HV.out.now HB4.out)
        clear h4 t4
        go_wp2_with fail
        refine (wTexts_any _ A4 c4 _ HV4.out (ho4.rd strLay) (by have h := (texts_small ⟨l, false⟩).2; have := HL4.out; simp only at h; omega) (by have h := (texts_small ⟨l, false⟩).1; have := HL4.out; simp only at h; omega)).mono ?_
        rintro e w5 ⟨rfl, hb5⟩
        have H5 := Lib.hid (H4.out.now hb5)
        have HB5 := Lib.hid (HB4.out.trans (hb5.mono HB4.out.size))
        clear hb5
        go_wp2_with fail
        go_meet
        exact ⟨rfl, H5.out, HB5.out⟩
    case rest =>
      obtain ⟨rfl, h6, hb6⟩ := hcut
      have H6 := Lib.hid h6
      have HB6 := Lib.hid hb6
      clear h6 hb6 hcase
      generalize tookT k ⟨l, false⟩ = y at *
      obtain ⟨tt, s6⟩ := y
      simp only at H6 HTk ⊢
      go_wp2_with fail
      refine (left_any b s6 _ H6.out).mono ?_
      rintro e w7 ⟨rfl, rfl⟩
      by_cases hz : s6.rest.length = 0
      · have hz1 : (s6.rest.length : Int) = 0 := by omega
        go_wp2_with fail
        refine (done_any b s6 _ H6.out).mono ?_
        rintro e w8 ⟨rfl, rfl⟩
        cases hd : rDone s6 with
        | false =>
          clear hd
          go_wp2_with fail
          go_ret
          exact ⟨rfl, HB6.out⟩
        | true =>
          have HT := Lib.hid (took_end HTk.out (fun h => by rw [hd] at h; exact absurd h.2 (by simp)))
          clear hd
          have hTl := HT.out.2
          have hll : l.length = tt.length + s6.rest.length := by rw [hTl, List.length_append]
          have HTl := Lib.hid hTl
          clear hTl
          go_wp2_with fail
          refine (left_any b s6 _ H6.out).mono ?_
          rintro e w8 ⟨rfl, rfl⟩
          go_wp2_with fail
          go_ret
          refine ⟨ret_bool ?_, HB6.out⟩
          try rw [show (max 0 (min (tt.length : Int) (tt.length + s6.rest.length))).toNat = tt.length by omega]
          rw [bs_take, bs_beq, HTl.out]
          simp
      · have HT := Lib.hid (took_end HTk.out (fun h => hz h.1))
        have hz1 : ¬ (s6.rest.length : Int) = 0 := by omega
        have hTl := HT.out.2
        have hll : l.length = tt.length + s6.rest.length := by rw [hTl, List.length_append]
        have HTl := Lib.hid hTl
        clear hTl
        go_wp2_with fail
        refine (left_any b s6 _ H6.out).mono ?_
        rintro e w8 ⟨rfl, rfl⟩
        go_wp2_with fail
        go_ret
        refine ⟨ret_bool ?_, HB6.out⟩
        try rw [show (max 0 (min (tt.length : Int) (tt.length + s6.rest.length))).toNat = tt.length by omega]
        rw [bs_take, bs_beq, HTl.out]
        simp
end Go.Proofs.YtijknmocidggbaaDoor
