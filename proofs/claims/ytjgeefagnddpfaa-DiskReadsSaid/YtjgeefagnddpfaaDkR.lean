/- The walk of DiskReads. -/
import Derived.Test.YtjgeefagnddpfaaDkS
namespace Go.Proofs.Ytjgeefagnddpfaa
open Go.RowKit

/-- What the law does behind the acts. -/
theorem reads_plain {S : DS} (hwf : S.wf) (ha : S.armed = 0) (hd : S.down = false) {f a : Int} {s : ByteArray} (h0 : 0 ≤ f) (h1 : f < 16) (ha0 : 0 ≤ a) (ha1 : a ≤ 3000) (hs : s.size ≤ 300) :
    S.writeC f a s = 0 ∧ S.write f a s = S.wadd f a s ∧ (S.wadd f a s).wf ∧ (S.wadd f a s).down = false ∧ (S.wadd f a s).armed = 0 ∧ (S.wadd f a s).keep = S.keep ∧ ((S.wadd f a s).files f).1 = putB (S.files f).1 a.toNat s := by
  have he : S.endsB = false := by unfold DS.endsB; rw [ha]; simp
  have ht : S.tick = S := by unfold DS.tick; rw [if_pos (.inr ha)]
  have hfit : fitsB a s = true := by unfold fitsB; simp; omega
  have hc : S.wcode f a s = 0 := by
    unfold DS.wcode
    rw [may_zero hd h0 h1, if_neg (by omega), if_neg (by omega), if_pos hfit]
  have hw : S.wr f a s = S.wadd f a s := by unfold DS.wr; rw [if_pos hc]
  refine ⟨by unfold DS.writeC; rw [he, ht]; exact hc, by unfold DS.write; rw [he, ht]; exact hw, DS.wadd_wf hwf f a s ⟨h0, h1⟩ ha0 (by omega), ?_, ?_, ?_, ?_⟩
  · unfold DS.wadd; split <;> exact hd
  · unfold DS.wadd; split <;> exact ha
  · unfold DS.wadd; split <;> rfl
  · unfold DS.wadd
    split
    · rename_i hz
      unfold putB
      rw [if_pos hz]
    · show (updF _ _ _ f).1 = _
      rw [updF, if_pos rfl]
theorem writeC_bad {S : DS} (ha : S.armed = 0) {f a : Int} {s : ByteArray} (h : S.down = true ∨ f < 0 ∨ 15 < f) : (S.writeC f a s == 0) = false := by
  have he : S.endsB = false := by unfold DS.endsB; rw [ha]; simp
  have ht : S.tick = S := by unfold DS.tick; rw [if_pos (.inr ha)]
  have hm : S.may f ≠ 0 := by
    unfold DS.may
    split
    · decide
    · rw [if_pos (by rcases h with h | h | h <;> first | contradiction | omega)]
      decide
  have : S.writeC f a s = S.may f := by unfold DS.writeC DS.wcode; rw [he, ht, if_neg (by decide), if_pos hm]
  rw [this]
  simpa using hm

theorem trunc_plain {S : DS} (hwf : S.wf) (ha : S.armed = 0) (hd : S.down = false) {f m : Int} (h0 : 0 ≤ f) (h1 : f < 16) (hm0 : 0 ≤ m) (hm1 : m ≤ (S.files f).1.size) :
    S.truncC f m = 0 ∧ (((S.trunc f m).crash []).start).readC f 0 16777216 = 0 ∧ (((S.trunc f m).crash []).start).readS f 0 16777216 = (S.files f).1.extract 0 m.toNat := by
  have he : S.endsB = false := by unfold DS.endsB; rw [ha]; simp
  have ht : S.tick = S := by unfold DS.tick; rw [if_pos (.inr ha)]
  have hc : S.come = S := by unfold DS.come; rw [he, ht]; rfl
  have hcode : S.truncC0 f m = 0 := by unfold DS.truncC0; rw [may_zero hd h0 h1, if_neg (by omega), if_neg (by omega)]
  have htr : S.trunc f m = S.settle f ((S.files f).1.extract 0 m.toNat) := by unfold DS.trunc DS.trunc0; rw [hc, if_pos hcode]
  have hrc : (((S.trunc f m).crash []).start).readC f 0 16777216 = 0 := by
    unfold DS.readC
    rw [may_zero rfl h0 h1, if_neg (by omega), if_neg (by omega)]
  refine ⟨by unfold DS.truncC; rw [hc]; exact hcode, hrc, ?_⟩
  rw [readS_eq hrc, htr]
  have hfl : (((S.settle f ((S.files f).1.extract 0 m.toNat)).crash []).start.files f).1 = (S.files f).1.extract 0 m.toNat := by
    unfold DS.crash
    rw [if_neg (by show ¬ S.down = true; rw [hd]; simp)]
    show (lastF (survQ [] 0 _ (updF S.files f _)) f).1 = _
    rw [survQ_nil]
    unfold lastF updF
    rw [if_pos rfl]
  rw [hfl]
  refine readX_all _ _ ?_
  have := hwf.now f
  rw [extract_size]
  omega
set_option maxRecDepth 100000 in
set_option maxHeartbeats 4000000 in
theorem reads_any (l : List ActM) (A : Option Addr) (c : Nat) (f a : Int) (s : ByteArray) (n : Int) (w : World) (hr : RdL 5 actC w w.heap.size A l) (hl : ∀ a ∈ l, ActOk w a) (hm : l.length ≤ 9223372036854775807) (hf : inI64 f) (ha : inI64 a) (hs : s.size ≤ 9223372036854775807) (hn : inI64 n) :
    Calls Try.prog 7 #[.slice A l.length c, .int .i64 f, .int .i64 a, .string s, .int .i64 n] w fun e w' => e = .returned (.bool true) ∧ Below w.heap.size w w' := by
  have HR := Lib.hid hr
  have HL := Lib.hid hl
  clear hr hl
  have ha' := ha
  have hn' := hn
  unfold inI64 at ha' hn'
  go_enter Try.func7, Try.ntmps7
  go_wp2_with fail
  refine (lSmall_any w).mono ?_
  rintro e w1 ⟨rfl, hb1⟩
  have HB := Lib.hid hb1
  have hz := hb1.size
  have F1 := Lib.hid (lFew_any l A c w1 (HR.out.now hb1) hm (acts_now HL.out hb1))
  clear hb1
  cases hf1 : fewB l
  · rw [hf1] at F1
    go_wp2_with fail
    refine F1.out.mono ?_
    rintro e wx ⟨rfl, hw⟩
    obtain rfl := hw
    go_wp2
    go_ret
    exact ⟨rfl, HB.out⟩
  rw [hf1] at F1
  have HF1 := Lib.hid hf1
  clear hf1
  go_wp2_with fail
  refine F1.out.mono ?_
  rintro e wx ⟨rfl, hw⟩
  obtain rfl := hw
  clear F1
  by_cases g1 : (300 : Int) < s.size
  · have d1 : decide ((300 : Int) < s.size) = true := by simpa using g1
    go_wp2
    go_ret
    exact ⟨rfl, HB.out⟩
  have d1 : decide ((300 : Int) < s.size) = false := by simpa using g1
  by_cases g2 : a < 0
  · have d2 : decide (a < 0) = true := by simpa using g2
    go_wp2
    go_ret
    exact ⟨rfl, HB.out⟩
  have d2 : decide (a < 0) = false := by simpa using g2
  by_cases g3 : 3000 < a
  · have d3 : decide (3000 < a) = true := by simpa using g3
    go_wp2
    go_ret
    exact ⟨rfl, HB.out⟩
  have d3 : decide (3000 < a) = false := by simpa using g3
  by_cases g4 : n < 0
  · have d4 : decide (n < 0) = true := by simpa using g4
    go_wp2
    go_ret
    exact ⟨rfl, HB.out⟩
  have d4 : decide (n < 0) = false := by simpa using g4
  go_wp2_with fail
  refine (lPlayed_any l A c w1 (HR.out.now HB.out) (acts_now HL.out HB.out) HF1.out).mono ?_
  rintro e w2 ⟨p, L, rfl, D, O, hb2⟩
  have O : Own w.heap.size p L := ⟨fun i hi => Nat.le_trans hz (O.own i hi)⟩
  have HB := Lib.hid (HB.out.trans (hb2.mono hz))
  have hz := HB.out.size
  generalize playS DS.new l = S0 at *
  clear hb2
  go_wp2_with fail
  refine (dArm_any p S0 L w2 0 (by unfold inI64; omega) [] none 0 0 rfl RdL.nil_ (by simp) (by simp) D).mono ?_
  rintro e w3 ⟨rfl, hu⟩
  obtain ⟨L3, D3, O3, _, hb3⟩ := O.upd hz hu
  have HB := Lib.hid (HB.out.trans hb3)
  have hz := HB.out.size
  have har : (S0.arm 0 []).armed = 0 := rfl
  have hke : (S0.arm 0 []).keep = [] := rfl
  generalize S0.arm 0 [] = S at *
  have HD3 := Lib.hid D3
  have HO3 := Lib.hid O3
  have HAr := Lib.hid har
  have HKe := Lib.hid hke
  clear D O hu hb3 D3 O3 har hke
  go_wp2_with fail
  refine (dDown_any p S L3 w3 HD3.out).mono ?_
  rintro e wx ⟨rfl, hw⟩
  obtain rfl := hw.symm
  have HW := Lib.hid (dWrite_any p S L3 w3 f a s hf ha (by omega) (by rw [HKe.out]; simp) HD3.out)
  by_cases bad : S.down = true ∨ f < 0 ∨ 15 < f
  · have hbad := writeC_bad (f := f) (a := a) (s := s) HAr.out bad
    generalize S.writeC f a s = cw at *
    cases hdn : S.down
    · by_cases g5 : f < 0
      · have d5 : decide (f < 0) = true := by simpa using g5
        go_wp2_with fail
        refine HW.out.mono ?_
        rintro e w4 ⟨rfl, hu⟩
        obtain ⟨L4, D4, O4, _, hb4⟩ := HO3.out.upd hz hu
        have HB := Lib.hid (HB.out.trans hb4)
        clear hu hb4 D4 O4
        go_wp2
        go_ret
        exact ⟨ret_bool (by simp only [bne, hbad]; rfl), HB.out⟩
      · have d5 : decide (f < 0) = false := by simpa using g5
        have d6 : decide (15 < f) = true := by
          rw [hdn] at bad
          simp
          rcases bad with h | h | h
          · cases h
          · omega
          · exact h
        go_wp2_with fail
        refine HW.out.mono ?_
        rintro e w4 ⟨rfl, hu⟩
        obtain ⟨L4, D4, O4, _, hb4⟩ := HO3.out.upd hz hu
        have HB := Lib.hid (HB.out.trans hb4)
        clear hu hb4 D4 O4
        go_wp2
        go_ret
        exact ⟨ret_bool (by simp only [bne, hbad]; rfl), HB.out⟩
    · skip
      go_wp2_with fail
      refine HW.out.mono ?_
      rintro e w4 ⟨rfl, hu⟩
      obtain ⟨L4, D4, O4, _, hb4⟩ := HO3.out.upd hz hu
      have HB := Lib.hid (HB.out.trans hb4)
      clear hu hb4 D4 O4
      go_wp2
      go_ret
      exact ⟨ret_bool (by simp only [bne, hbad]; rfl), HB.out⟩
  · have hdn : S.down = false := by
      cases hq : S.down
      · rfl
      · exact absurd (.inl hq) bad
    have f0 : 0 ≤ f := by omega
    have f1 : f < 16 := by omega
    obtain ⟨p1, p2, p3, p4, p5, p6, p7⟩ := reads_plain HD3.out.wf HAr.out hdn f0 f1 (show 0 ≤ a by omega) (show a ≤ 3000 by omega) (show s.size ≤ 300 by omega)
    rw [p1, p2] at HW
    have d5 : decide (f < 0) = false := by simpa using f0
    have d6 : decide (15 < f) = false := by simp; omega
    have HK2 := Lib.hid (p6.trans HKe.out)
    clear bad p1 p2 p6
    obtain ⟨y, hy⟩ : ∃ y, y = ((S.wadd f a s).files f).1 := ⟨_, rfl⟩
    have hys := p3.now f
    rw [← hy] at hys
    have e1 : (S.wadd f a s).readC f a s.size = 0 := by unfold DS.readC; rw [may_zero p4 f0 f1, if_neg (by omega), if_neg (by omega)]
    have e2 : (S.wadd f a s).readS f a s.size = s := by rw [readS_eq e1, p7]; exact readX_put _ _ _ (by omega)
    have e3 : (S.wadd f a s).readC f 0 y.size = 0 := by unfold DS.readC; rw [may_zero p4 f0 f1, if_neg (by omega), if_neg (by omega)]
    have e4 : (S.wadd f a s).readS f 0 y.size = y := by rw [readS_eq e3, ← hy]; exact readX_all _ _ (by omega)
    have e5 : (S.wadd f a s).readC f a n = 0 := by unfold DS.readC; rw [may_zero p4 f0 f1, if_neg (by omega), if_neg (by omega)]
    have e6 : (S.wadd f a s).readS f a n = y.extract (min a y.size).toNat (min a y.size + min n (y.size - min a y.size)).toNat := by rw [readS_eq e5, ← hy]; exact readX_slice _ _ _ (by omega) (by omega)
    obtain ⟨m, hmm⟩ : ∃ m : Int, m = min a y.size := ⟨_, rfl⟩
    have HT := trunc_plain p3 p5 p4 f0 f1 (show 0 ≤ m by omega) (by rw [← hy]; omega)
    rw [← hy] at HT
    obtain ⟨t1, t2, t3⟩ := HT
    rw [← hmm] at e6
    have HT1 := Lib.hid t1
    have HT2 := Lib.hid t2
    have HT3 := Lib.hid t3
    have HY := Lib.hid hy
    clear p3 p4 p5 p7 t1 t2 t3 hy HAr
    generalize S.wadd f a s = S2 at *
    by_cases k1 : a ≤ y.size
    · have hma : m = a := by omega
      rw [hma] at e6 HT1 HT2 HT3
      clear hmm hma
      have k2 : ¬ ((y.size : Int) < a) := by omega
      by_cases k3 : n ≤ y.size - a
      · have e6' : S2.readS f a n = y.extract a.toNat (a + n).toNat := by rw [e6, Int.min_eq_left k3]
        go_wp2_with fail
        refine HW.out.mono ?_
        rintro e w4 ⟨rfl, hu⟩
        obtain ⟨L4, D4, O4, _, hb4⟩ := HO3.out.upd hz hu
        have HB := Lib.hid (HB.out.trans hb4)
        have hz := HB.out.size
        clear hu hb4 HW
        have R1 := Lib.hid (dRead_any p S2 L4 w4 f a s.size hf D4)
        rw [e1, e2] at R1
        have R2 := Lib.hid (dRead_any p S2 L4 w4 f 0 y.size hf D4)
        rw [e3, e4] at R2
        have R3 := Lib.hid (dRead_any p S2 L4 w4 f a n hf D4)
        rw [e5, e6'] at R3
        have RZ := Lib.hid (dSize_any p S2 L4 w4 f hf D4)
        rw [← HY.out] at RZ
        have HTr := Lib.hid (dTrunc_any p S2 L4 w4 f a hf (by unfold inI64; omega) (by rw [HK2.out]; simp) D4)
        rw [HT1.out] at HTr
        have HO4 := Lib.hid O4
        clear e1 e2 e3 e4 e5 e6 e6' D4 O4 HD3 HO3
        go_wp2_with fail
        refine R1.out.mono ?_
        rintro e wx ⟨rfl, hw⟩
        obtain rfl := hw.symm
        go_wp2_with fail
        refine RZ.out.mono ?_
        rintro e wx ⟨rfl, hw⟩
        obtain rfl := hw.symm
        go_wp2_with fail
        refine R2.out.mono ?_
        rintro e wx ⟨rfl, hw⟩
        obtain rfl := hw.symm
        go_wp2_with fail
        refine R3.out.mono ?_
        rintro e wx ⟨rfl, hw⟩
        obtain rfl := hw.symm
        clear R1 R2 R3
        go_wp2_with (go_at_call 16; refine RZ.out.mono ?_; rintro e wx ⟨rfl, hw⟩; obtain rfl := hw.symm)
        refine HTr.out.mono ?_
        rintro e w5 ⟨rfl, hu⟩
        obtain ⟨L5, D5, O5, _, hb5⟩ := HO4.out.upd hz hu
        have HB := Lib.hid (HB.out.trans hb5)
        have hz := HB.out.size
        clear hu hb5 HTr
        go_wp2_with fail
        refine (dCrash_any p _ L5 w5 [] none 0 RdL.nil_ (by simp) (fun h => absurd rfl h) D5).mono ?_
        rintro e w6 ⟨rfl, hu⟩
        obtain ⟨L6, D6, O6, _, hb6⟩ := O5.upd hz hu
        have HB := Lib.hid (HB.out.trans hb6)
        have hz := HB.out.size
        clear hu hb6 D5 O5
        go_wp2_with fail
        refine (dStart_any p _ L6 w6 D6).mono ?_
        rintro e w7 ⟨rfl, hu⟩
        obtain ⟨L7, D7, O7, _, hb7⟩ := O6.upd hz hu
        have HB := Lib.hid (HB.out.trans hb7)
        have R7 := Lib.hid (dRead_any p _ L7 w7 f 0 16777216 hf D7)
        rw [HT2.out, HT3.out] at R7
        clear hu hb7 D6 O6 D7 O7
        go_wp2_with fail
        refine R7.out.mono ?_
        rintro e wx ⟨rfl, hw⟩
        obtain rfl := hw.symm
        go_wp2
        go_ret
        exact ⟨rfl, HB.out⟩
      · have e6' : S2.readS f a n = y.extract a.toNat (a + (y.size - a)).toNat := by rw [e6, Int.min_eq_right (by omega)]
        have k4 : (y.size : Int) - a < n := by omega
        clear k3
        go_wp2_with fail
        refine HW.out.mono ?_
        rintro e w4 ⟨rfl, hu⟩
        obtain ⟨L4, D4, O4, _, hb4⟩ := HO3.out.upd hz hu
        have HB := Lib.hid (HB.out.trans hb4)
        have hz := HB.out.size
        clear hu hb4 HW
        have R1 := Lib.hid (dRead_any p S2 L4 w4 f a s.size hf D4)
        rw [e1, e2] at R1
        have R2 := Lib.hid (dRead_any p S2 L4 w4 f 0 y.size hf D4)
        rw [e3, e4] at R2
        have R3 := Lib.hid (dRead_any p S2 L4 w4 f a n hf D4)
        rw [e5, e6'] at R3
        have RZ := Lib.hid (dSize_any p S2 L4 w4 f hf D4)
        rw [← HY.out] at RZ
        have HTr := Lib.hid (dTrunc_any p S2 L4 w4 f a hf (by unfold inI64; omega) (by rw [HK2.out]; simp) D4)
        rw [HT1.out] at HTr
        have HO4 := Lib.hid O4
        clear e1 e2 e3 e4 e5 e6 e6' D4 O4 HD3 HO3
        go_wp2_with fail
        refine R1.out.mono ?_
        rintro e wx ⟨rfl, hw⟩
        obtain rfl := hw.symm
        go_wp2_with fail
        refine RZ.out.mono ?_
        rintro e wx ⟨rfl, hw⟩
        obtain rfl := hw.symm
        go_wp2_with fail
        refine R2.out.mono ?_
        rintro e wx ⟨rfl, hw⟩
        obtain rfl := hw.symm
        go_wp2_with fail
        refine R3.out.mono ?_
        rintro e wx ⟨rfl, hw⟩
        obtain rfl := hw.symm
        clear R1 R2 R3
        go_wp2_with (go_at_call 16; refine RZ.out.mono ?_; rintro e wx ⟨rfl, hw⟩; obtain rfl := hw.symm)
        refine HTr.out.mono ?_
        rintro e w5 ⟨rfl, hu⟩
        obtain ⟨L5, D5, O5, _, hb5⟩ := HO4.out.upd hz hu
        have HB := Lib.hid (HB.out.trans hb5)
        have hz := HB.out.size
        clear hu hb5 HTr
        go_wp2_with fail
        refine (dCrash_any p _ L5 w5 [] none 0 RdL.nil_ (by simp) (fun h => absurd rfl h) D5).mono ?_
        rintro e w6 ⟨rfl, hu⟩
        obtain ⟨L6, D6, O6, _, hb6⟩ := O5.upd hz hu
        have HB := Lib.hid (HB.out.trans hb6)
        have hz := HB.out.size
        clear hu hb6 D5 O5
        go_wp2_with fail
        refine (dStart_any p _ L6 w6 D6).mono ?_
        rintro e w7 ⟨rfl, hu⟩
        obtain ⟨L7, D7, O7, _, hb7⟩ := O6.upd hz hu
        have HB := Lib.hid (HB.out.trans hb7)
        have R7 := Lib.hid (dRead_any p _ L7 w7 f 0 16777216 hf D7)
        rw [HT2.out, HT3.out] at R7
        clear hu hb7 D6 O6 D7 O7
        go_wp2_with fail
        refine R7.out.mono ?_
        rintro e wx ⟨rfl, hw⟩
        obtain rfl := hw.symm
        go_wp2
        go_ret
        exact ⟨rfl, HB.out⟩
    · have hma : m = y.size := by omega
      rw [hma] at e6 HT1 HT2 HT3
      clear hmm hma
      have k2 : (y.size : Int) < a := by omega
      have e6' : S2.readS f a n = y.extract y.size y.size := by rw [e6, Int.sub_self, Int.min_eq_right (by omega), Int.add_zero]; rfl
      clear k1
      by_cases k5 : n = 0
      · subst k5
        go_wp2_with fail
        refine HW.out.mono ?_
        rintro e w4 ⟨rfl, hu⟩
        obtain ⟨L4, D4, O4, _, hb4⟩ := HO3.out.upd hz hu
        have HB := Lib.hid (HB.out.trans hb4)
        have hz := HB.out.size
        clear hu hb4 HW
        have R1 := Lib.hid (dRead_any p S2 L4 w4 f a s.size hf D4)
        rw [e1, e2] at R1
        have R2 := Lib.hid (dRead_any p S2 L4 w4 f 0 y.size hf D4)
        rw [e3, e4] at R2
        have R3 := Lib.hid (dRead_any p S2 L4 w4 f a 0 hf D4)
        rw [e5, e6'] at R3
        have RZ := Lib.hid (dSize_any p S2 L4 w4 f hf D4)
        rw [← HY.out] at RZ
        have HTr := Lib.hid (dTrunc_any p S2 L4 w4 f (y.size : Int) hf (by unfold inI64; omega) (by rw [HK2.out]; simp) D4)
        rw [HT1.out] at HTr
        have HO4 := Lib.hid O4
        clear e1 e2 e3 e4 e5 e6 e6' D4 O4 HD3 HO3
        go_wp2_with fail
        refine R1.out.mono ?_
        rintro e wx ⟨rfl, hw⟩
        obtain rfl := hw.symm
        go_wp2_with fail
        refine RZ.out.mono ?_
        rintro e wx ⟨rfl, hw⟩
        obtain rfl := hw.symm
        go_wp2_with fail
        refine R2.out.mono ?_
        rintro e wx ⟨rfl, hw⟩
        obtain rfl := hw.symm
        go_wp2_with fail
        refine R3.out.mono ?_
        rintro e wx ⟨rfl, hw⟩
        obtain rfl := hw.symm
        clear R1 R2 R3
        go_wp2_with (go_at_call 16; refine RZ.out.mono ?_; rintro e wx ⟨rfl, hw⟩; obtain rfl := hw.symm)
        refine HTr.out.mono ?_
        rintro e w5 ⟨rfl, hu⟩
        obtain ⟨L5, D5, O5, _, hb5⟩ := HO4.out.upd hz hu
        have HB := Lib.hid (HB.out.trans hb5)
        have hz := HB.out.size
        clear hu hb5 HTr
        go_wp2_with fail
        refine (dCrash_any p _ L5 w5 [] none 0 RdL.nil_ (by simp) (fun h => absurd rfl h) D5).mono ?_
        rintro e w6 ⟨rfl, hu⟩
        obtain ⟨L6, D6, O6, _, hb6⟩ := O5.upd hz hu
        have HB := Lib.hid (HB.out.trans hb6)
        have hz := HB.out.size
        clear hu hb6 D5 O5
        go_wp2_with fail
        refine (dStart_any p _ L6 w6 D6).mono ?_
        rintro e w7 ⟨rfl, hu⟩
        obtain ⟨L7, D7, O7, _, hb7⟩ := O6.upd hz hu
        have HB := Lib.hid (HB.out.trans hb7)
        have R7 := Lib.hid (dRead_any p _ L7 w7 f 0 16777216 hf D7)
        rw [HT2.out, HT3.out] at R7
        clear hu hb7 D6 O6 D7 O7
        go_wp2_with fail
        refine R7.out.mono ?_
        rintro e wx ⟨rfl, hw⟩
        obtain rfl := hw.symm
        go_wp2
        go_ret
        exact ⟨rfl, HB.out⟩
      · have k6 : 0 < n := by omega
        clear k5
        go_wp2_with fail
        refine HW.out.mono ?_
        rintro e w4 ⟨rfl, hu⟩
        obtain ⟨L4, D4, O4, _, hb4⟩ := HO3.out.upd hz hu
        have HB := Lib.hid (HB.out.trans hb4)
        have hz := HB.out.size
        clear hu hb4 HW
        have R1 := Lib.hid (dRead_any p S2 L4 w4 f a s.size hf D4)
        rw [e1, e2] at R1
        have R2 := Lib.hid (dRead_any p S2 L4 w4 f 0 y.size hf D4)
        rw [e3, e4] at R2
        have R3 := Lib.hid (dRead_any p S2 L4 w4 f a n hf D4)
        rw [e5, e6'] at R3
        have RZ := Lib.hid (dSize_any p S2 L4 w4 f hf D4)
        rw [← HY.out] at RZ
        have HTr := Lib.hid (dTrunc_any p S2 L4 w4 f (y.size : Int) hf (by unfold inI64; omega) (by rw [HK2.out]; simp) D4)
        rw [HT1.out] at HTr
        have HO4 := Lib.hid O4
        clear e1 e2 e3 e4 e5 e6 e6' D4 O4 HD3 HO3
        go_wp2_with fail
        refine R1.out.mono ?_
        rintro e wx ⟨rfl, hw⟩
        obtain rfl := hw.symm
        go_wp2_with fail
        refine RZ.out.mono ?_
        rintro e wx ⟨rfl, hw⟩
        obtain rfl := hw.symm
        go_wp2_with fail
        refine R2.out.mono ?_
        rintro e wx ⟨rfl, hw⟩
        obtain rfl := hw.symm
        go_wp2_with fail
        refine R3.out.mono ?_
        rintro e wx ⟨rfl, hw⟩
        obtain rfl := hw.symm
        clear R1 R2 R3
        go_wp2_with (go_at_call 16; refine RZ.out.mono ?_; rintro e wx ⟨rfl, hw⟩; obtain rfl := hw.symm)
        refine HTr.out.mono ?_
        rintro e w5 ⟨rfl, hu⟩
        obtain ⟨L5, D5, O5, _, hb5⟩ := HO4.out.upd hz hu
        have HB := Lib.hid (HB.out.trans hb5)
        have hz := HB.out.size
        clear hu hb5 HTr
        go_wp2_with fail
        refine (dCrash_any p _ L5 w5 [] none 0 RdL.nil_ (by simp) (fun h => absurd rfl h) D5).mono ?_
        rintro e w6 ⟨rfl, hu⟩
        obtain ⟨L6, D6, O6, _, hb6⟩ := O5.upd hz hu
        have HB := Lib.hid (HB.out.trans hb6)
        have hz := HB.out.size
        clear hu hb6 D5 O5
        go_wp2_with fail
        refine (dStart_any p _ L6 w6 D6).mono ?_
        rintro e w7 ⟨rfl, hu⟩
        obtain ⟨L7, D7, O7, _, hb7⟩ := O6.upd hz hu
        have HB := Lib.hid (HB.out.trans hb7)
        have R7 := Lib.hid (dRead_any p _ L7 w7 f 0 16777216 hf D7)
        rw [HT2.out, HT3.out] at R7
        clear hu hb7 D6 O6 D7 O7
        go_wp2_with fail
        refine R7.out.mono ?_
        rintro e wx ⟨rfl, hw⟩
        obtain rfl := hw.symm
        go_wp2
        go_ret
        exact ⟨rfl, HB.out⟩
end Go.Proofs.Ytjgeefagnddpfaa
