/- Contracts and plain laws, joined: ErFs. -/
import Derived.Test.YtlgnggogiopjaaaGreatDoorQbf
/- The walk of EraseFirst. -/
set_option linter.unusedSimpArgs false
set_option linter.unusedVariables false
namespace Go.Proofs.YtlgnggogiopjaaaGreatDoor
open Go.RowKit
set_option maxRecDepth 100000

section
variable {S : DS} {f : Int} {p : List UInt8} {l l2 : List (List UInt8)}
/-- Rewrite on a disk that is up, whatever stands in the other side. -/
theorem rewrite_fair (h : Up S) (hh : Has S f p l) (hnil : p = [] → Firm (nowF f p) e0 S) (hf : 0 ≤ f ∧ f ≤ 13) (hfit : fitsE l2 = true) : (rewE S f l2).1 = 0 ∧ Up (rewE S f l2).2 ∧ Neat (rewE S f l2).2 f (nextP p) l2 := by
  have htl := (fits_parts hfit).2.2
  obtain ⟨n1, n2, n3, n4, n5⟩ := side_ne f p
  obtain ⟨h1, h2⟩ := rew_up h hf p (textsL l2) htl
  rw [rewE_run hh h.up hf hfit]
  refine ⟨h1, h2, ?_⟩
  rcases rew_out hh hf hfit with ⟨_, a, b, c⟩ | ⟨a, _⟩
  · refine ⟨a, ?_, fun e => absurd e (next_ne p)⟩
    rw [oth_next f hh.ok]
    by_cases hp : p = []
    · exact rew_firm hf (hnil hp) _ htl n1 (fun e => n3 e) (fun hq => absurd hp hq)
    · exact c hp
  · omega
end
section
variable {w wr : World} {p : Nat} {S : DS} {D : DL} {R a b : Ob} {f : Int} {q : List UInt8} {l l2 : List (List UInt8)} {A : Option Addr} {c : Nat}
theorem rw_fair (hV : Vs w.heap.size w) (h : St w ((dOb p S D).sep R) wr) (hu : Up S) (hh : Has S f q l) (hnil : q = [] → Firm (nowF f q) e0 S) (hkp : S.keep.length ≤ 20) (hf : 0 ≤ f ∧ f ≤ 13) (hfit : fitsE l2 = true) (hr : RdL 1 strE wr wr.heap.size A l2) :
    Calls Tryz.prog 16 #[.pointer (some ⟨p, 0, none⟩), .int .i64 f, .slice A l2.length c] wr fun e w' => ∃ S2 D2, e = .returned (.int .i64 0) ∧ St w ((dOb p S2 D2).sep R) w' ∧ Gd S2 f (nextP q) l2 := by
  have hl := (fits_parts hfit).1
  refine (rewrite_any2 hV h hr (by omega) (by unfold inI64; omega) (by omega)).mono ?_
  rintro e w' ⟨D', rfl, hst⟩
  obtain ⟨h1, h2, h3⟩ := rewrite_fair hu hh hnil hf hfit
  exact ⟨_, D', by rw [h1], hst, ⟨h2, h3, hfit, by rw [rewE_keep]; exact hkp⟩⟩
theorem copy_any2 (h : St w ((dOb p S D).sep R) wr) : Calls Tryz.prog 38 #[.pointer (some ⟨p, 0, none⟩)] wr fun e w' => ∃ p2 D2, e = .returned (.pointer (some ⟨p2, 0, none⟩)) ∧ St w ((dOb p S D).sep ((dOb p2 S D2).sep R)) w' := by
  have hd := h.disk
  refine (dCopy_any p S D wr hd).mono ?_
  rintro e w' ⟨p2, D2, rfl, hb, hd2, hown, hk⟩
  refine ⟨p2, D2, rfl, (h.upd (OUpd.left h.ok (a2 := (dOb p S D).sep (dOb p2 S D2)) ?_)).assoc⟩
  refine ⟨⟨⟨Ob.below (a := dOb p S D) hd hb, hd2⟩, fun i h1 h2 => ?_, fun i h1 h2 => ?_, fun i h1 h2 => ?_⟩, Turn.below hb, fun i hi => hi.imp id (hown i), fun i hi => hi.elim .inl (fun h => .inl (by show slBlk D.kA = some i; rw [← hk]; exact h))⟩
  · have := hd.lt i h1; have := hown i h2; omega
  · have := hd.kl i h1; have := hown i h2; omega
  · exact hd.kp i (by rw [← hk]; exact h1) h2
theorem St.rot (h : St w (a.sep (b.sep R)) wr) : St w (b.sep (R.sep a)) wr := h.swap.assoc
end
-- fsTailA Q | LS | FITS | WORLD : what follows the first Rewrite, up to the list that is recovered
-- fsTailB Q | LS : the rest of the law
-- fsSame LS | fsOther : the test of the list
-- fsCode : Rewrite failed
set_option maxHeartbeats 8000000 in
theorem first43_any (now later : List (List UInt8)) (keep : List Int) (A0 A1 A4 : Option Addr) (c0 c1 c4 : Nat) (x n lose : Int) (w : World) (hV : Vs w.heap.size w) (hr0 : RdL 1 strE w w.heap.size A0 now) (hr1 : RdL 1 strE w w.heap.size A1 later)
    (hr4 : RdL 1 intC w w.heap.size A4 keep) (h0 : now.length ≤ 9223372036854775807) (h1 : later.length ≤ 9223372036854775807) (hki : ∀ k ∈ keep, inI64 k) (hx : 0 ≤ x ∧ x ≤ 255) (hn : inI64 n) (hl : inI64 lose) :
    Calls Tryz.prog 8 #[.slice A0 now.length c0, .slice A1 later.length c1, .int .u8 x, .int .i64 n, .slice A4 keep.length c4, .int .i64 lose] w fun e w' => e = .returned (.bool true) ∧ Below w.heap.size w w' := by
  have HV := Lib.hid hV
  have R0 := Lib.hid hr0
  have R1 := Lib.hid hr1
  have R4 := Lib.hid hr4
  have HKi := Lib.hid hki
  have HN := Lib.hid hn
  have HL := Lib.hid hl
  clear hV hr0 hr1 hr4 hki hn hl
  go_enter Tryz.func8, Tryz.ntmps8
  go_wp2_with fail
  refine (small43_any w HV.out).mono ?_
  rintro e w1 ⟨rfl, hb1⟩
  have HB1 := Lib.hid hb1
  go_wp2_with fail
  refine (rFewR_any now A0 c0 w1 (R0.out.now hb1) h0).mono ?_
  rintro e wz ⟨b0, rfl, hf0, hw⟩
  obtain rfl := hw
  cases b0 with
  | false =>
    go_wp2_with fail
    go_ret
    exact ⟨rfl, HB1.out⟩
  | true =>
  have F0 := Lib.hid (hf0 rfl)
  clear hf0
  go_wp2_with fail
  refine (rFewR_any later A1 c1 w1 (R1.out.now hb1) h1).mono ?_
  rintro e wz ⟨b0, rfl, hf0, hw⟩
  obtain rfl := hw
  cases b0 with
  | false =>
    go_wp2_with fail
    go_ret
    exact ⟨rfl, HB1.out⟩
  | true =>
  have F1 := Lib.hid (hf0 rfl)
  clear hf0
  cases q1 : decide ((20 : Int) < (keep.length : Int)) with
  | true =>
    go_wp2_with fail
    go_ret
    exact ⟨rfl, HB1.out⟩
  | false =>
  have hk20 : keep.length ≤ 20 := by simp at q1; omega
  go_wp2_with fail
  refine (dNew_any w1).mono ?_
  rintro e w2 ⟨rfl, hb2, D0, hd0, ho0, -⟩
  have hz1 := HB1.out.size
  have H0 : Hid (St w ((dOb (w1.heap.size + 2) DS.new D0).sep Ob.nil) w2) := Lib.hid (St.nil ⟨hd0, HB1.out.trans (hb2.mono hz1), fun i hi => Nat.le_trans hz1 (ho0 i hi)⟩)
  generalize w1.heap.size + 2 = p at *
  clear hb2 hd0 ho0 HB1 hz1 hb1 q1
  go_upto_region 8 with fail
  have hat : 0 ≤ x % 14 ∧ x % 14 ≤ 13 := by omega
  generalize x % 14 = at_ at *
  have hkl : keep.length ≤ 4194320 := by omega
  go_wp2_with fail
  refine (dArm_any p DS.new D0 w2 n HN.out keep A4 keep.length c4 rfl (R4.out.now H0.out.bl) hkl HKi.out H0.out.disk).mono ?_
  rintro e w6 ⟨rfl, hu⟩
  obtain ⟨D3b, hst⟩ := H0.out.dupd hu
  have H3b := Lib.hid hst
  clear hu hst H0
  go_wp2_with fail
  refine (dLose_any p _ D3b w6 lose HL.out H3b.out.disk).mono ?_
  rintro e w6b ⟨rfl, hu⟩
  obtain ⟨D3c, hst⟩ := H3b.out.dupd hu
  have H3c := Lib.hid hst
  have h3 : Has ((DS.new.arm n keep).lose lose) at_ [] [] ∧ ((DS.new.arm n keep).lose lose).down = false ∧ Firm (nowF at_ []) e0 ((DS.new.arm n keep).lose lose) ∧ ((DS.new.arm n keep).lose lose).keep.length ≤ 4194320 ∧ ((DS.new.arm n keep).lose lose).wf :=
    ⟨(Gd.new at_).nt.has.same rfl rfl, rfl, firm_same ((Gd.new at_).nt.nil rfl) rfl rfl, hkl, DS.lose_wf (DS.arm_wf Up.new.wf n keep HN.out HKi.out) lose HL.out⟩
  clear hu hst H3b
  generalize (DS.new.arm n keep).lose lose = S3 at *
  obtain ⟨h3a, h3d, h3o, h3k, h3w⟩ := h3
  have hrun := rewE_run h3a h3d (f := at_) (by omega) (few_fits F0.out)
  have hro := rew_out h3a (f := at_) (by omega) (few_fits F0.out)
  have hrf := rew_firm (p := []) (f := at_) (by omega) h3o (textsL now) (fits_parts (few_fits F0.out)).2.2 (side_ne at_ []).1 (side_ne at_ []).2.2.1 (fun h => absurd rfl h)
  have hrw := rew_wf (f := at_) h3w [] (textsL now)
  rw [← hrun] at hro hrf hrw
  have HRo := Lib.hid hro
  have HRf := Lib.hid hrf
  have HRw := Lib.hid hrw
  clear hrun hro hrf hrw h3a h3d h3o h3w
  go_wp2_with fail
  refine (rewrite_any2 HV.out H3c.out (R0.out.now H3c.out.bl) h0 (f := at_) (by unfold inI64; omega) h3k).mono ?_
  rintro e w7 ⟨D4, rfl, hst⟩
  have H4 := Lib.hid hst
  clear hst H3c h3k
  generalize rewE S3 at_ now = r at *
  obtain ⟨er, S4⟩ := r
  simp only at H4 HRf HRw ⊢
  have HAg := Lib.hid (rew_again HRo.out keep)
  have HUp := Lib.hid (again_up HRw.out keep)
  have HOf := Lib.hid (again_firm HRf.out keep)
  have hRo := HRo.out
  simp only at HAg HUp HOf
  unfold RewOut at hRo
  simp only at hRo
  clear HRo HRf HRw
  rcases hRo with ⟨rfl, -, -, -⟩ | ⟨hcode, -⟩
  · have P5 : Hid (Up ((((S4.arm 0 []).lose 0).crash keep).start) ∧ Has ((((S4.arm 0 []).lose 0).crash keep).start) at_ [48] now ∧ Firm (nowF at_ []) e0 ((((S4.arm 0 []).lose 0).crash keep).start)) := Lib.hid ⟨HUp.out, by
      rcases HAg.out with ⟨_, h⟩ | ⟨h, _⟩
      · exact h
      · omega, HOf.out⟩
    clear HAg HUp HOf
    go_wp2_with fail
    refine (dArm_any p S4 D4 w7 0 (by unfold inI64; omega) [] none 0 0 rfl RdL.nil_ (by decide) (fun _ h => (by cases h)) H4.out.disk).mono ?_
    rintro e w8 ⟨rfl, hu⟩
    obtain ⟨D5, hst⟩ := H4.out.dupd hu
    have H5 := Lib.hid hst
    clear hu hst
    go_wp2_with fail
    refine (dLose_any p _ D5 w8 0 (by unfold inI64; omega) H5.out.disk).mono ?_
    rintro e w9 ⟨rfl, hu⟩
    obtain ⟨D6, hst⟩ := H5.out.dupd hu
    have H6 := Lib.hid hst
    clear hu hst H5
    go_wp2_with fail
    refine (dCrash_any p _ D6 w9 keep A4 c4 (R4.out.now H6.out.bl) (by omega) (H6.out.notOwn R4.out) H6.out.disk).mono ?_
    rintro e w10 ⟨rfl, hu⟩
    obtain ⟨D7, hst⟩ := H6.out.dupd hu
    have H7 := Lib.hid hst
    clear hu hst H6
    go_wp2_with fail
    refine (dStart_any p _ D7 w10 H7.out.disk).mono ?_
    rintro e w11 ⟨rfl, hu⟩
    obtain ⟨D8, hst⟩ := H7.out.dupd hu
    have H8 := Lib.hid hst
    have hkp : ((((S4.arm 0 []).lose 0).crash keep).start).keep.length ≤ 20 := by
      show (DS.crash _ keep).keep.length ≤ 20
      rw [crash_keep]
      exact Nat.zero_le _
    have HKp := Lib.hid hkp
    clear hu hst H7 H4 hkp
    generalize (((S4.arm 0 []).lose 0).crash keep).start = S5 at *
    go_wp2_with fail
    refine (copy_any2 H8.out).mono ?_
    rintro e w11b ⟨p2, D8b, rfl, hst⟩
    have H8b := Lib.hid hst
    clear hst H8
    obtain ⟨hc6, hl6, hu6, hh6, he6, hk6⟩ := recover_up P5.out.1 P5.out.2.1 (by omega) (few_fits F0.out)
    have hg6 : Gd (recS S5 at_) at_ [48] now := ⟨hu6, ⟨hh6, he6, fun h => (by first | exact absurd h (by decide) | exact hk6 _ _ (side_ne at_ []).1 (side_ne at_ []).2.2.1 P5.out.2.2)⟩, few_fits F0.out, by rw [recS_keep]; exact HKp.out⟩
    have G6 := Lib.hid hg6
    have HC6 := Lib.hid hc6
    have HL6 := Lib.hid hl6
    have hk5 := HKp.out
    clear hc6 hl6 hu6 hh6 he6 hk6 hg6
    go_wp2_with fail
    refine (recover_any2 HV.out H8b.out (f := at_) (by unfold inI64; omega) (by omega)).mono ?_
    rintro e w12 ⟨D9, A9, c9, rfl, hst⟩
    rw [HL6.out] at hst
    rw [HC6.out, HL6.out]
    have H9 := Lib.hid hst
    clear hst H8b HC6 HL6 hk5
    generalize recS S5 at_ = S6 at *
    go_wp2_with fail
    refine (strs_any now now A9 A0 c9 c0 w12 (slOb.rd H9.out.ok.1.2.1.1) (R0.out.now H9.out.bl) (by have := F0.out.1; omega) (by have := F0.out.1; omega)).mono ?_
    rintro e w13 ⟨rfl, hb13⟩
    rw [show ((now) == (now)) = true from by simp]
    have H10 := Lib.hid (H9.out.on hb13)
    clear hb13 H9
    go_wp2_with fail
    refine (kp_good HV.out H10.out G6.out (by omega) (slOb.rd H10.out.ok.1.2.1.1)).mono ?_
    rintro e w14 ⟨rfl, hb14⟩
    have H11 := Lib.hid (H10.out.on hb14).rot.rot.assoc
    have hk5 := HKp.out
    clear hb14 H10
    go_wp2_with fail
    refine (rw_fair HV.out H11.out P5.out.1 P5.out.2.1 (fun h => (by first | exact absurd h (by decide) | exact P5.out.2.2)) hk5 (by omega) (few_fits F1.out) (R1.out.now H11.out.bl)).mono ?_
    rintro e w15 ⟨S8, D10, rfl, hst, hg8⟩
    have H12 := Lib.hid hst
    have G8 := Lib.hid hg8
    clear hst hg8 H11 hk5 P5 HKp
    go_wp2_with fail
    refine (kp_good HV.out H12.out G8.out (by omega) (R1.out.now H12.out.bl)).mono ?_
    rintro e w16 ⟨rfl, hb16⟩
    have H13 := Lib.hid (H12.out.on hb16).rot.rot.assoc
    clear hb16 H12 G8
    go_wp2_with fail
    refine (rw_good HV.out H13.out G6.out (by omega) (few_fits F1.out) (R1.out.now H13.out.bl)).mono ?_
    rintro e w17 ⟨S9, D11, rfl, hst, hg9, -, -⟩
    have H14 := Lib.hid hst
    have G9 := Lib.hid hg9
    clear hst hg9 H13 G6
    go_wp2_with fail
    refine (kp_good HV.out H14.out G9.out (by omega) (R1.out.now H14.out.bl)).mono ?_
    rintro e w18 ⟨rfl, hb18⟩
    have H15 := Lib.hid (H14.out.on hb18)
    clear hb18 H14
    go_wp2_with fail
    go_ret
    exact ⟨rfl, H15.out.bl⟩
  · have HAg2 : Hid (Has ((((S4.arm 0 []).lose 0).crash keep).start) at_ [] [] ∨ Has ((((S4.arm 0 []).lose 0).crash keep).start) at_ [48] now) := Lib.hid (by
      rcases HAg.out with ⟨h, _⟩ | ⟨_, h⟩
      · omega
      · exact h)
    clear HAg
    rcases hcode with rfl | rfl
    · skip
      rcases HAg2.out with hh | hh
      · have P5 : Hid (Up ((((S4.arm 0 []).lose 0).crash keep).start) ∧ Has ((((S4.arm 0 []).lose 0).crash keep).start) at_ [] [] ∧ Firm (nowF at_ []) e0 ((((S4.arm 0 []).lose 0).crash keep).start)) := Lib.hid ⟨HUp.out, hh, HOf.out⟩
        clear hh HAg2 HUp HOf
        by_cases hon : now = []
        · subst hon
          skip
          go_wp2_with fail
          refine (dArm_any p S4 D4 w7 0 (by unfold inI64; omega) [] none 0 0 rfl RdL.nil_ (by decide) (fun _ h => (by cases h)) H4.out.disk).mono ?_
          rintro e w8 ⟨rfl, hu⟩
          obtain ⟨D5, hst⟩ := H4.out.dupd hu
          have H5 := Lib.hid hst
          clear hu hst
          go_wp2_with fail
          refine (dLose_any p _ D5 w8 0 (by unfold inI64; omega) H5.out.disk).mono ?_
          rintro e w9 ⟨rfl, hu⟩
          obtain ⟨D6, hst⟩ := H5.out.dupd hu
          have H6 := Lib.hid hst
          clear hu hst H5
          go_wp2_with fail
          refine (dCrash_any p _ D6 w9 keep A4 c4 (R4.out.now H6.out.bl) (by omega) (H6.out.notOwn R4.out) H6.out.disk).mono ?_
          rintro e w10 ⟨rfl, hu⟩
          obtain ⟨D7, hst⟩ := H6.out.dupd hu
          have H7 := Lib.hid hst
          clear hu hst H6
          go_wp2_with fail
          refine (dStart_any p _ D7 w10 H7.out.disk).mono ?_
          rintro e w11 ⟨rfl, hu⟩
          obtain ⟨D8, hst⟩ := H7.out.dupd hu
          have H8 := Lib.hid hst
          have hkp : ((((S4.arm 0 []).lose 0).crash keep).start).keep.length ≤ 20 := by
            show (DS.crash _ keep).keep.length ≤ 20
            rw [crash_keep]
            exact Nat.zero_le _
          have HKp := Lib.hid hkp
          clear hu hst H7 H4 hkp
          generalize (((S4.arm 0 []).lose 0).crash keep).start = S5 at *
          go_wp2_with fail
          refine (copy_any2 H8.out).mono ?_
          rintro e w11b ⟨p2, D8b, rfl, hst⟩
          have H8b := Lib.hid hst
          clear hst H8
          obtain ⟨hc6, hl6, hu6, hh6, he6, hk6⟩ := recover_up P5.out.1 P5.out.2.1 (by omega) ((Gd.new 0).fit)
          have hg6 : Gd (recS S5 at_) at_ [] [] := ⟨hu6, ⟨hh6, he6, fun h => (by first | exact absurd h (by decide) | exact hk6 _ _ (side_ne at_ []).1 (side_ne at_ []).2.2.1 P5.out.2.2)⟩, (Gd.new 0).fit, by rw [recS_keep]; exact HKp.out⟩
          have G6 := Lib.hid hg6
          have HC6 := Lib.hid hc6
          have HL6 := Lib.hid hl6
          have hk5 := HKp.out
          clear hc6 hl6 hu6 hh6 he6 hk6 hg6
          go_wp2_with fail
          refine (recover_any2 HV.out H8b.out (f := at_) (by unfold inI64; omega) (by omega)).mono ?_
          rintro e w12 ⟨D9, A9, c9, rfl, hst⟩
          rw [HL6.out] at hst
          rw [HC6.out, HL6.out]
          have H9 := Lib.hid hst
          clear hst H8b HC6 HL6 hk5
          generalize recS S5 at_ = S6 at *
          go_wp2_with fail
          refine (strs_any [] [] A9 A0 c9 c0 w12 (slOb.rd H9.out.ok.1.2.1.1) (R0.out.now H9.out.bl) (by have := F0.out.1; omega) (by have := F0.out.1; omega)).mono ?_
          rintro e w13 ⟨rfl, hb13⟩
          rw [show (([]) == ([])) = true from by simp]
          have H10 := Lib.hid (H9.out.on hb13)
          clear hb13 H9
          go_wp2_with fail
          refine (kp_good HV.out H10.out G6.out (by omega) (slOb.rd H10.out.ok.1.2.1.1)).mono ?_
          rintro e w14 ⟨rfl, hb14⟩
          have H11 := Lib.hid (H10.out.on hb14).rot.rot.assoc
          have hk5 := HKp.out
          clear hb14 H10
          go_wp2_with fail
          refine (rw_fair HV.out H11.out P5.out.1 P5.out.2.1 (fun h => (by first | exact absurd h (by decide) | exact P5.out.2.2)) hk5 (by omega) (few_fits F1.out) (R1.out.now H11.out.bl)).mono ?_
          rintro e w15 ⟨S8, D10, rfl, hst, hg8⟩
          have H12 := Lib.hid hst
          have G8 := Lib.hid hg8
          clear hst hg8 H11 hk5 P5 HKp
          go_wp2_with fail
          refine (kp_good HV.out H12.out G8.out (by omega) (R1.out.now H12.out.bl)).mono ?_
          rintro e w16 ⟨rfl, hb16⟩
          have H13 := Lib.hid (H12.out.on hb16).rot.rot.assoc
          clear hb16 H12 G8
          go_wp2_with fail
          refine (rw_good HV.out H13.out G6.out (by omega) (few_fits F1.out) (R1.out.now H13.out.bl)).mono ?_
          rintro e w17 ⟨S9, D11, rfl, hst, hg9, -, -⟩
          have H14 := Lib.hid hst
          have G9 := Lib.hid hg9
          clear hst hg9 H13 G6
          go_wp2_with fail
          refine (kp_good HV.out H14.out G9.out (by omega) (R1.out.now H14.out.bl)).mono ?_
          rintro e w18 ⟨rfl, hb18⟩
          have H15 := Lib.hid (H14.out.on hb18)
          clear hb18 H14
          go_wp2_with fail
          go_ret
          exact ⟨rfl, H15.out.bl⟩
        · skip
          go_wp2_with fail
          refine (dArm_any p S4 D4 w7 0 (by unfold inI64; omega) [] none 0 0 rfl RdL.nil_ (by decide) (fun _ h => (by cases h)) H4.out.disk).mono ?_
          rintro e w8 ⟨rfl, hu⟩
          obtain ⟨D5, hst⟩ := H4.out.dupd hu
          have H5 := Lib.hid hst
          clear hu hst
          go_wp2_with fail
          refine (dLose_any p _ D5 w8 0 (by unfold inI64; omega) H5.out.disk).mono ?_
          rintro e w9 ⟨rfl, hu⟩
          obtain ⟨D6, hst⟩ := H5.out.dupd hu
          have H6 := Lib.hid hst
          clear hu hst H5
          go_wp2_with fail
          refine (dCrash_any p _ D6 w9 keep A4 c4 (R4.out.now H6.out.bl) (by omega) (H6.out.notOwn R4.out) H6.out.disk).mono ?_
          rintro e w10 ⟨rfl, hu⟩
          obtain ⟨D7, hst⟩ := H6.out.dupd hu
          have H7 := Lib.hid hst
          clear hu hst H6
          go_wp2_with fail
          refine (dStart_any p _ D7 w10 H7.out.disk).mono ?_
          rintro e w11 ⟨rfl, hu⟩
          obtain ⟨D8, hst⟩ := H7.out.dupd hu
          have H8 := Lib.hid hst
          have hkp : ((((S4.arm 0 []).lose 0).crash keep).start).keep.length ≤ 20 := by
            show (DS.crash _ keep).keep.length ≤ 20
            rw [crash_keep]
            exact Nat.zero_le _
          have HKp := Lib.hid hkp
          clear hu hst H7 H4 hkp
          generalize (((S4.arm 0 []).lose 0).crash keep).start = S5 at *
          go_wp2_with fail
          refine (copy_any2 H8.out).mono ?_
          rintro e w11b ⟨p2, D8b, rfl, hst⟩
          have H8b := Lib.hid hst
          clear hst H8
          obtain ⟨hc6, hl6, hu6, hh6, he6, hk6⟩ := recover_up P5.out.1 P5.out.2.1 (by omega) ((Gd.new 0).fit)
          have hg6 : Gd (recS S5 at_) at_ [] [] := ⟨hu6, ⟨hh6, he6, fun h => (by first | exact absurd h (by decide) | exact hk6 _ _ (side_ne at_ []).1 (side_ne at_ []).2.2.1 P5.out.2.2)⟩, (Gd.new 0).fit, by rw [recS_keep]; exact HKp.out⟩
          have G6 := Lib.hid hg6
          have HC6 := Lib.hid hc6
          have HL6 := Lib.hid hl6
          have hk5 := HKp.out
          clear hc6 hl6 hu6 hh6 he6 hk6 hg6
          go_wp2_with fail
          refine (recover_any2 HV.out H8b.out (f := at_) (by unfold inI64; omega) (by omega)).mono ?_
          rintro e w12 ⟨D9, A9, c9, rfl, hst⟩
          rw [HL6.out] at hst
          rw [HC6.out, HL6.out]
          have H9 := Lib.hid hst
          clear hst H8b HC6 HL6 hk5
          generalize recS S5 at_ = S6 at *
          go_wp2_with fail
          refine (strs_any [] now A9 A0 c9 c0 w12 (slOb.rd H9.out.ok.1.2.1.1) (R0.out.now H9.out.bl) (by simp) (by have := F0.out.1; omega)).mono ?_
          rintro e w13 ⟨rfl, hb13⟩
          rw [show (([] : List (List UInt8)) == now) = false from by simpa using hon]
          have H10 := Lib.hid (H9.out.on hb13)
          clear hb13 H9
          go_wp2_with fail
          refine (kp_good HV.out H10.out G6.out (by omega) (slOb.rd H10.out.ok.1.2.1.1)).mono ?_
          rintro e w14 ⟨rfl, hb14⟩
          have H11 := Lib.hid (H10.out.on hb14).rot.rot.assoc
          have hk5 := HKp.out
          clear hb14 H10
          go_wp2_with fail
          refine (rw_fair HV.out H11.out P5.out.1 P5.out.2.1 (fun h => (by first | exact absurd h (by decide) | exact P5.out.2.2)) hk5 (by omega) (few_fits F1.out) (R1.out.now H11.out.bl)).mono ?_
          rintro e w15 ⟨S8, D10, rfl, hst, hg8⟩
          have H12 := Lib.hid hst
          have G8 := Lib.hid hg8
          clear hst hg8 H11 hk5 P5 HKp
          go_wp2_with fail
          refine (kp_good HV.out H12.out G8.out (by omega) (R1.out.now H12.out.bl)).mono ?_
          rintro e w16 ⟨rfl, hb16⟩
          have H13 := Lib.hid (H12.out.on hb16).rot.rot.assoc
          clear hb16 H12 G8
          go_wp2_with fail
          refine (rw_good HV.out H13.out G6.out (by omega) (few_fits F1.out) (R1.out.now H13.out.bl)).mono ?_
          rintro e w17 ⟨S9, D11, rfl, hst, hg9, -, -⟩
          have H14 := Lib.hid hst
          have G9 := Lib.hid hg9
          clear hst hg9 H13 G6
          go_wp2_with fail
          refine (kp_good HV.out H14.out G9.out (by omega) (R1.out.now H14.out.bl)).mono ?_
          rintro e w18 ⟨rfl, hb18⟩
          have H15 := Lib.hid (H14.out.on hb18)
          clear hb18 H14
          go_wp2_with fail
          go_ret
          exact ⟨rfl, H15.out.bl⟩
      · have P5 : Hid (Up ((((S4.arm 0 []).lose 0).crash keep).start) ∧ Has ((((S4.arm 0 []).lose 0).crash keep).start) at_ [48] now ∧ Firm (nowF at_ []) e0 ((((S4.arm 0 []).lose 0).crash keep).start)) := Lib.hid ⟨HUp.out, hh, HOf.out⟩
        clear hh HAg2 HUp HOf
        go_wp2_with fail
        refine (dArm_any p S4 D4 w7 0 (by unfold inI64; omega) [] none 0 0 rfl RdL.nil_ (by decide) (fun _ h => (by cases h)) H4.out.disk).mono ?_
        rintro e w8 ⟨rfl, hu⟩
        obtain ⟨D5, hst⟩ := H4.out.dupd hu
        have H5 := Lib.hid hst
        clear hu hst
        go_wp2_with fail
        refine (dLose_any p _ D5 w8 0 (by unfold inI64; omega) H5.out.disk).mono ?_
        rintro e w9 ⟨rfl, hu⟩
        obtain ⟨D6, hst⟩ := H5.out.dupd hu
        have H6 := Lib.hid hst
        clear hu hst H5
        go_wp2_with fail
        refine (dCrash_any p _ D6 w9 keep A4 c4 (R4.out.now H6.out.bl) (by omega) (H6.out.notOwn R4.out) H6.out.disk).mono ?_
        rintro e w10 ⟨rfl, hu⟩
        obtain ⟨D7, hst⟩ := H6.out.dupd hu
        have H7 := Lib.hid hst
        clear hu hst H6
        go_wp2_with fail
        refine (dStart_any p _ D7 w10 H7.out.disk).mono ?_
        rintro e w11 ⟨rfl, hu⟩
        obtain ⟨D8, hst⟩ := H7.out.dupd hu
        have H8 := Lib.hid hst
        have hkp : ((((S4.arm 0 []).lose 0).crash keep).start).keep.length ≤ 20 := by
          show (DS.crash _ keep).keep.length ≤ 20
          rw [crash_keep]
          exact Nat.zero_le _
        have HKp := Lib.hid hkp
        clear hu hst H7 H4 hkp
        generalize (((S4.arm 0 []).lose 0).crash keep).start = S5 at *
        go_wp2_with fail
        refine (copy_any2 H8.out).mono ?_
        rintro e w11b ⟨p2, D8b, rfl, hst⟩
        have H8b := Lib.hid hst
        clear hst H8
        obtain ⟨hc6, hl6, hu6, hh6, he6, hk6⟩ := recover_up P5.out.1 P5.out.2.1 (by omega) (few_fits F0.out)
        have hg6 : Gd (recS S5 at_) at_ [48] now := ⟨hu6, ⟨hh6, he6, fun h => (by first | exact absurd h (by decide) | exact hk6 _ _ (side_ne at_ []).1 (side_ne at_ []).2.2.1 P5.out.2.2)⟩, few_fits F0.out, by rw [recS_keep]; exact HKp.out⟩
        have G6 := Lib.hid hg6
        have HC6 := Lib.hid hc6
        have HL6 := Lib.hid hl6
        have hk5 := HKp.out
        clear hc6 hl6 hu6 hh6 he6 hk6 hg6
        go_wp2_with fail
        refine (recover_any2 HV.out H8b.out (f := at_) (by unfold inI64; omega) (by omega)).mono ?_
        rintro e w12 ⟨D9, A9, c9, rfl, hst⟩
        rw [HL6.out] at hst
        rw [HC6.out, HL6.out]
        have H9 := Lib.hid hst
        clear hst H8b HC6 HL6 hk5
        generalize recS S5 at_ = S6 at *
        go_wp2_with fail
        refine (strs_any now now A9 A0 c9 c0 w12 (slOb.rd H9.out.ok.1.2.1.1) (R0.out.now H9.out.bl) (by have := F0.out.1; omega) (by have := F0.out.1; omega)).mono ?_
        rintro e w13 ⟨rfl, hb13⟩
        rw [show ((now) == (now)) = true from by simp]
        have H10 := Lib.hid (H9.out.on hb13)
        clear hb13 H9
        go_wp2_with fail
        refine (kp_good HV.out H10.out G6.out (by omega) (slOb.rd H10.out.ok.1.2.1.1)).mono ?_
        rintro e w14 ⟨rfl, hb14⟩
        have H11 := Lib.hid (H10.out.on hb14).rot.rot.assoc
        have hk5 := HKp.out
        clear hb14 H10
        go_wp2_with fail
        refine (rw_fair HV.out H11.out P5.out.1 P5.out.2.1 (fun h => (by first | exact absurd h (by decide) | exact P5.out.2.2)) hk5 (by omega) (few_fits F1.out) (R1.out.now H11.out.bl)).mono ?_
        rintro e w15 ⟨S8, D10, rfl, hst, hg8⟩
        have H12 := Lib.hid hst
        have G8 := Lib.hid hg8
        clear hst hg8 H11 hk5 P5 HKp
        go_wp2_with fail
        refine (kp_good HV.out H12.out G8.out (by omega) (R1.out.now H12.out.bl)).mono ?_
        rintro e w16 ⟨rfl, hb16⟩
        have H13 := Lib.hid (H12.out.on hb16).rot.rot.assoc
        clear hb16 H12 G8
        go_wp2_with fail
        refine (rw_good HV.out H13.out G6.out (by omega) (few_fits F1.out) (R1.out.now H13.out.bl)).mono ?_
        rintro e w17 ⟨S9, D11, rfl, hst, hg9, -, -⟩
        have H14 := Lib.hid hst
        have G9 := Lib.hid hg9
        clear hst hg9 H13 G6
        go_wp2_with fail
        refine (kp_good HV.out H14.out G9.out (by omega) (R1.out.now H14.out.bl)).mono ?_
        rintro e w18 ⟨rfl, hb18⟩
        have H15 := Lib.hid (H14.out.on hb18)
        clear hb18 H14
        go_wp2_with fail
        go_ret
        exact ⟨rfl, H15.out.bl⟩
    · skip
      rcases HAg2.out with hh | hh
      · have P5 : Hid (Up ((((S4.arm 0 []).lose 0).crash keep).start) ∧ Has ((((S4.arm 0 []).lose 0).crash keep).start) at_ [] [] ∧ Firm (nowF at_ []) e0 ((((S4.arm 0 []).lose 0).crash keep).start)) := Lib.hid ⟨HUp.out, hh, HOf.out⟩
        clear hh HAg2 HUp HOf
        by_cases hon : now = []
        · subst hon
          skip
          go_wp2_with fail
          refine (dArm_any p S4 D4 w7 0 (by unfold inI64; omega) [] none 0 0 rfl RdL.nil_ (by decide) (fun _ h => (by cases h)) H4.out.disk).mono ?_
          rintro e w8 ⟨rfl, hu⟩
          obtain ⟨D5, hst⟩ := H4.out.dupd hu
          have H5 := Lib.hid hst
          clear hu hst
          go_wp2_with fail
          refine (dLose_any p _ D5 w8 0 (by unfold inI64; omega) H5.out.disk).mono ?_
          rintro e w9 ⟨rfl, hu⟩
          obtain ⟨D6, hst⟩ := H5.out.dupd hu
          have H6 := Lib.hid hst
          clear hu hst H5
          go_wp2_with fail
          refine (dCrash_any p _ D6 w9 keep A4 c4 (R4.out.now H6.out.bl) (by omega) (H6.out.notOwn R4.out) H6.out.disk).mono ?_
          rintro e w10 ⟨rfl, hu⟩
          obtain ⟨D7, hst⟩ := H6.out.dupd hu
          have H7 := Lib.hid hst
          clear hu hst H6
          go_wp2_with fail
          refine (dStart_any p _ D7 w10 H7.out.disk).mono ?_
          rintro e w11 ⟨rfl, hu⟩
          obtain ⟨D8, hst⟩ := H7.out.dupd hu
          have H8 := Lib.hid hst
          have hkp : ((((S4.arm 0 []).lose 0).crash keep).start).keep.length ≤ 20 := by
            show (DS.crash _ keep).keep.length ≤ 20
            rw [crash_keep]
            exact Nat.zero_le _
          have HKp := Lib.hid hkp
          clear hu hst H7 H4 hkp
          generalize (((S4.arm 0 []).lose 0).crash keep).start = S5 at *
          go_wp2_with fail
          refine (copy_any2 H8.out).mono ?_
          rintro e w11b ⟨p2, D8b, rfl, hst⟩
          have H8b := Lib.hid hst
          clear hst H8
          obtain ⟨hc6, hl6, hu6, hh6, he6, hk6⟩ := recover_up P5.out.1 P5.out.2.1 (by omega) ((Gd.new 0).fit)
          have hg6 : Gd (recS S5 at_) at_ [] [] := ⟨hu6, ⟨hh6, he6, fun h => (by first | exact absurd h (by decide) | exact hk6 _ _ (side_ne at_ []).1 (side_ne at_ []).2.2.1 P5.out.2.2)⟩, (Gd.new 0).fit, by rw [recS_keep]; exact HKp.out⟩
          have G6 := Lib.hid hg6
          have HC6 := Lib.hid hc6
          have HL6 := Lib.hid hl6
          have hk5 := HKp.out
          clear hc6 hl6 hu6 hh6 he6 hk6 hg6
          go_wp2_with fail
          refine (recover_any2 HV.out H8b.out (f := at_) (by unfold inI64; omega) (by omega)).mono ?_
          rintro e w12 ⟨D9, A9, c9, rfl, hst⟩
          rw [HL6.out] at hst
          rw [HC6.out, HL6.out]
          have H9 := Lib.hid hst
          clear hst H8b HC6 HL6 hk5
          generalize recS S5 at_ = S6 at *
          go_wp2_with fail
          refine (strs_any [] [] A9 A0 c9 c0 w12 (slOb.rd H9.out.ok.1.2.1.1) (R0.out.now H9.out.bl) (by have := F0.out.1; omega) (by have := F0.out.1; omega)).mono ?_
          rintro e w13 ⟨rfl, hb13⟩
          rw [show (([]) == ([])) = true from by simp]
          have H10 := Lib.hid (H9.out.on hb13)
          clear hb13 H9
          go_wp2_with fail
          refine (kp_good HV.out H10.out G6.out (by omega) (slOb.rd H10.out.ok.1.2.1.1)).mono ?_
          rintro e w14 ⟨rfl, hb14⟩
          have H11 := Lib.hid (H10.out.on hb14).rot.rot.assoc
          have hk5 := HKp.out
          clear hb14 H10
          go_wp2_with fail
          refine (rw_fair HV.out H11.out P5.out.1 P5.out.2.1 (fun h => (by first | exact absurd h (by decide) | exact P5.out.2.2)) hk5 (by omega) (few_fits F1.out) (R1.out.now H11.out.bl)).mono ?_
          rintro e w15 ⟨S8, D10, rfl, hst, hg8⟩
          have H12 := Lib.hid hst
          have G8 := Lib.hid hg8
          clear hst hg8 H11 hk5 P5 HKp
          go_wp2_with fail
          refine (kp_good HV.out H12.out G8.out (by omega) (R1.out.now H12.out.bl)).mono ?_
          rintro e w16 ⟨rfl, hb16⟩
          have H13 := Lib.hid (H12.out.on hb16).rot.rot.assoc
          clear hb16 H12 G8
          go_wp2_with fail
          refine (rw_good HV.out H13.out G6.out (by omega) (few_fits F1.out) (R1.out.now H13.out.bl)).mono ?_
          rintro e w17 ⟨S9, D11, rfl, hst, hg9, -, -⟩
          have H14 := Lib.hid hst
          have G9 := Lib.hid hg9
          clear hst hg9 H13 G6
          go_wp2_with fail
          refine (kp_good HV.out H14.out G9.out (by omega) (R1.out.now H14.out.bl)).mono ?_
          rintro e w18 ⟨rfl, hb18⟩
          have H15 := Lib.hid (H14.out.on hb18)
          clear hb18 H14
          go_wp2_with fail
          go_ret
          exact ⟨rfl, H15.out.bl⟩
        · skip
          go_wp2_with fail
          refine (dArm_any p S4 D4 w7 0 (by unfold inI64; omega) [] none 0 0 rfl RdL.nil_ (by decide) (fun _ h => (by cases h)) H4.out.disk).mono ?_
          rintro e w8 ⟨rfl, hu⟩
          obtain ⟨D5, hst⟩ := H4.out.dupd hu
          have H5 := Lib.hid hst
          clear hu hst
          go_wp2_with fail
          refine (dLose_any p _ D5 w8 0 (by unfold inI64; omega) H5.out.disk).mono ?_
          rintro e w9 ⟨rfl, hu⟩
          obtain ⟨D6, hst⟩ := H5.out.dupd hu
          have H6 := Lib.hid hst
          clear hu hst H5
          go_wp2_with fail
          refine (dCrash_any p _ D6 w9 keep A4 c4 (R4.out.now H6.out.bl) (by omega) (H6.out.notOwn R4.out) H6.out.disk).mono ?_
          rintro e w10 ⟨rfl, hu⟩
          obtain ⟨D7, hst⟩ := H6.out.dupd hu
          have H7 := Lib.hid hst
          clear hu hst H6
          go_wp2_with fail
          refine (dStart_any p _ D7 w10 H7.out.disk).mono ?_
          rintro e w11 ⟨rfl, hu⟩
          obtain ⟨D8, hst⟩ := H7.out.dupd hu
          have H8 := Lib.hid hst
          have hkp : ((((S4.arm 0 []).lose 0).crash keep).start).keep.length ≤ 20 := by
            show (DS.crash _ keep).keep.length ≤ 20
            rw [crash_keep]
            exact Nat.zero_le _
          have HKp := Lib.hid hkp
          clear hu hst H7 H4 hkp
          generalize (((S4.arm 0 []).lose 0).crash keep).start = S5 at *
          go_wp2_with fail
          refine (copy_any2 H8.out).mono ?_
          rintro e w11b ⟨p2, D8b, rfl, hst⟩
          have H8b := Lib.hid hst
          clear hst H8
          obtain ⟨hc6, hl6, hu6, hh6, he6, hk6⟩ := recover_up P5.out.1 P5.out.2.1 (by omega) ((Gd.new 0).fit)
          have hg6 : Gd (recS S5 at_) at_ [] [] := ⟨hu6, ⟨hh6, he6, fun h => (by first | exact absurd h (by decide) | exact hk6 _ _ (side_ne at_ []).1 (side_ne at_ []).2.2.1 P5.out.2.2)⟩, (Gd.new 0).fit, by rw [recS_keep]; exact HKp.out⟩
          have G6 := Lib.hid hg6
          have HC6 := Lib.hid hc6
          have HL6 := Lib.hid hl6
          have hk5 := HKp.out
          clear hc6 hl6 hu6 hh6 he6 hk6 hg6
          go_wp2_with fail
          refine (recover_any2 HV.out H8b.out (f := at_) (by unfold inI64; omega) (by omega)).mono ?_
          rintro e w12 ⟨D9, A9, c9, rfl, hst⟩
          rw [HL6.out] at hst
          rw [HC6.out, HL6.out]
          have H9 := Lib.hid hst
          clear hst H8b HC6 HL6 hk5
          generalize recS S5 at_ = S6 at *
          go_wp2_with fail
          refine (strs_any [] now A9 A0 c9 c0 w12 (slOb.rd H9.out.ok.1.2.1.1) (R0.out.now H9.out.bl) (by simp) (by have := F0.out.1; omega)).mono ?_
          rintro e w13 ⟨rfl, hb13⟩
          rw [show (([] : List (List UInt8)) == now) = false from by simpa using hon]
          have H10 := Lib.hid (H9.out.on hb13)
          clear hb13 H9
          go_wp2_with fail
          refine (kp_good HV.out H10.out G6.out (by omega) (slOb.rd H10.out.ok.1.2.1.1)).mono ?_
          rintro e w14 ⟨rfl, hb14⟩
          have H11 := Lib.hid (H10.out.on hb14).rot.rot.assoc
          have hk5 := HKp.out
          clear hb14 H10
          go_wp2_with fail
          refine (rw_fair HV.out H11.out P5.out.1 P5.out.2.1 (fun h => (by first | exact absurd h (by decide) | exact P5.out.2.2)) hk5 (by omega) (few_fits F1.out) (R1.out.now H11.out.bl)).mono ?_
          rintro e w15 ⟨S8, D10, rfl, hst, hg8⟩
          have H12 := Lib.hid hst
          have G8 := Lib.hid hg8
          clear hst hg8 H11 hk5 P5 HKp
          go_wp2_with fail
          refine (kp_good HV.out H12.out G8.out (by omega) (R1.out.now H12.out.bl)).mono ?_
          rintro e w16 ⟨rfl, hb16⟩
          have H13 := Lib.hid (H12.out.on hb16).rot.rot.assoc
          clear hb16 H12 G8
          go_wp2_with fail
          refine (rw_good HV.out H13.out G6.out (by omega) (few_fits F1.out) (R1.out.now H13.out.bl)).mono ?_
          rintro e w17 ⟨S9, D11, rfl, hst, hg9, -, -⟩
          have H14 := Lib.hid hst
          have G9 := Lib.hid hg9
          clear hst hg9 H13 G6
          go_wp2_with fail
          refine (kp_good HV.out H14.out G9.out (by omega) (R1.out.now H14.out.bl)).mono ?_
          rintro e w18 ⟨rfl, hb18⟩
          have H15 := Lib.hid (H14.out.on hb18)
          clear hb18 H14
          go_wp2_with fail
          go_ret
          exact ⟨rfl, H15.out.bl⟩
      · have P5 : Hid (Up ((((S4.arm 0 []).lose 0).crash keep).start) ∧ Has ((((S4.arm 0 []).lose 0).crash keep).start) at_ [48] now ∧ Firm (nowF at_ []) e0 ((((S4.arm 0 []).lose 0).crash keep).start)) := Lib.hid ⟨HUp.out, hh, HOf.out⟩
        clear hh HAg2 HUp HOf
        go_wp2_with fail
        refine (dArm_any p S4 D4 w7 0 (by unfold inI64; omega) [] none 0 0 rfl RdL.nil_ (by decide) (fun _ h => (by cases h)) H4.out.disk).mono ?_
        rintro e w8 ⟨rfl, hu⟩
        obtain ⟨D5, hst⟩ := H4.out.dupd hu
        have H5 := Lib.hid hst
        clear hu hst
        go_wp2_with fail
        refine (dLose_any p _ D5 w8 0 (by unfold inI64; omega) H5.out.disk).mono ?_
        rintro e w9 ⟨rfl, hu⟩
        obtain ⟨D6, hst⟩ := H5.out.dupd hu
        have H6 := Lib.hid hst
        clear hu hst H5
        go_wp2_with fail
        refine (dCrash_any p _ D6 w9 keep A4 c4 (R4.out.now H6.out.bl) (by omega) (H6.out.notOwn R4.out) H6.out.disk).mono ?_
        rintro e w10 ⟨rfl, hu⟩
        obtain ⟨D7, hst⟩ := H6.out.dupd hu
        have H7 := Lib.hid hst
        clear hu hst H6
        go_wp2_with fail
        refine (dStart_any p _ D7 w10 H7.out.disk).mono ?_
        rintro e w11 ⟨rfl, hu⟩
        obtain ⟨D8, hst⟩ := H7.out.dupd hu
        have H8 := Lib.hid hst
        have hkp : ((((S4.arm 0 []).lose 0).crash keep).start).keep.length ≤ 20 := by
          show (DS.crash _ keep).keep.length ≤ 20
          rw [crash_keep]
          exact Nat.zero_le _
        have HKp := Lib.hid hkp
        clear hu hst H7 H4 hkp
        generalize (((S4.arm 0 []).lose 0).crash keep).start = S5 at *
        go_wp2_with fail
        refine (copy_any2 H8.out).mono ?_
        rintro e w11b ⟨p2, D8b, rfl, hst⟩
        have H8b := Lib.hid hst
        clear hst H8
        obtain ⟨hc6, hl6, hu6, hh6, he6, hk6⟩ := recover_up P5.out.1 P5.out.2.1 (by omega) (few_fits F0.out)
        have hg6 : Gd (recS S5 at_) at_ [48] now := ⟨hu6, ⟨hh6, he6, fun h => (by first | exact absurd h (by decide) | exact hk6 _ _ (side_ne at_ []).1 (side_ne at_ []).2.2.1 P5.out.2.2)⟩, few_fits F0.out, by rw [recS_keep]; exact HKp.out⟩
        have G6 := Lib.hid hg6
        have HC6 := Lib.hid hc6
        have HL6 := Lib.hid hl6
        have hk5 := HKp.out
        clear hc6 hl6 hu6 hh6 he6 hk6 hg6
        go_wp2_with fail
        refine (recover_any2 HV.out H8b.out (f := at_) (by unfold inI64; omega) (by omega)).mono ?_
        rintro e w12 ⟨D9, A9, c9, rfl, hst⟩
        rw [HL6.out] at hst
        rw [HC6.out, HL6.out]
        have H9 := Lib.hid hst
        clear hst H8b HC6 HL6 hk5
        generalize recS S5 at_ = S6 at *
        go_wp2_with fail
        refine (strs_any now now A9 A0 c9 c0 w12 (slOb.rd H9.out.ok.1.2.1.1) (R0.out.now H9.out.bl) (by have := F0.out.1; omega) (by have := F0.out.1; omega)).mono ?_
        rintro e w13 ⟨rfl, hb13⟩
        rw [show ((now) == (now)) = true from by simp]
        have H10 := Lib.hid (H9.out.on hb13)
        clear hb13 H9
        go_wp2_with fail
        refine (kp_good HV.out H10.out G6.out (by omega) (slOb.rd H10.out.ok.1.2.1.1)).mono ?_
        rintro e w14 ⟨rfl, hb14⟩
        have H11 := Lib.hid (H10.out.on hb14).rot.rot.assoc
        have hk5 := HKp.out
        clear hb14 H10
        go_wp2_with fail
        refine (rw_fair HV.out H11.out P5.out.1 P5.out.2.1 (fun h => (by first | exact absurd h (by decide) | exact P5.out.2.2)) hk5 (by omega) (few_fits F1.out) (R1.out.now H11.out.bl)).mono ?_
        rintro e w15 ⟨S8, D10, rfl, hst, hg8⟩
        have H12 := Lib.hid hst
        have G8 := Lib.hid hg8
        clear hst hg8 H11 hk5 P5 HKp
        go_wp2_with fail
        refine (kp_good HV.out H12.out G8.out (by omega) (R1.out.now H12.out.bl)).mono ?_
        rintro e w16 ⟨rfl, hb16⟩
        have H13 := Lib.hid (H12.out.on hb16).rot.rot.assoc
        clear hb16 H12 G8
        go_wp2_with fail
        refine (rw_good HV.out H13.out G6.out (by omega) (few_fits F1.out) (R1.out.now H13.out.bl)).mono ?_
        rintro e w17 ⟨S9, D11, rfl, hst, hg9, -, -⟩
        have H14 := Lib.hid hst
        have G9 := Lib.hid hg9
        clear hst hg9 H13 G6
        go_wp2_with fail
        refine (kp_good HV.out H14.out G9.out (by omega) (R1.out.now H14.out.bl)).mono ?_
        rintro e w18 ⟨rfl, hb18⟩
        have H15 := Lib.hid (H14.out.on hb18)
        clear hb18 H14
        go_wp2_with fail
        go_ret
        exact ⟨rfl, H15.out.bl⟩
end Go.Proofs.YtlgnggogiopjaaaGreatDoor
