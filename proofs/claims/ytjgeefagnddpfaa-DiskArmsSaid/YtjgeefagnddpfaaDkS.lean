/- The walk of DiskSynced. -/
import Derived.Test.YtjgeefagnddpfaaDkP
namespace Go.Proofs.Ytjgeefagnddpfaa
open Go.RowKit

theorem acts_now {w w' : World} {l : List ActM} (h : ∀ a ∈ l, ActOk w a) (hb : Below w.heap.size w w') : ∀ a ∈ l, ActOk w' a := fun a ha => (h a ha).now hb
set_option maxRecDepth 100000 in
set_option maxHeartbeats 4000000 in
theorem synced_any (l : List ActM) (A : Option Addr) (c : Nat) (f : Int) (l2 : List ActM) (A2 : Option Addr) (c2 : Nat) (keep : List Int) (kA : Option Addr) (kc : Nat) (w : World) (hr : RdL 5 actC w w.heap.size A l) (hl : ∀ a ∈ l, ActOk w a) (hm : l.length ≤ 9223372036854775807) (hf : inI64 f)
    (hr2 : RdL 5 actC w w.heap.size A2 l2) (hl2 : ∀ a ∈ l2, ActOk w a) (hm2 : l2.length ≤ 9223372036854775807) (hk : RdL 1 intC w w.heap.size kA keep) (hkm : keep.length ≤ 9223372036854775807) :
    Calls Try.prog 5 #[.slice A l.length c, .int .i64 f, .slice A2 l2.length c2, .slice kA keep.length kc] w fun e w' => e = .returned (.bool true) ∧ Below w.heap.size w w' := by
  have HR := Lib.hid hr
  have HL := Lib.hid hl
  have HR2 := Lib.hid hr2
  have HL2 := Lib.hid hl2
  have HK := Lib.hid hk
  clear hr hl hr2 hl2 hk
  go_enter Try.func5, Try.ntmps5
  go_wp2_with fail
  refine (lSmall_any w).mono ?_
  rintro e w1 ⟨rfl, hb1⟩
  have HB := Lib.hid hb1
  have hz := hb1.size
  have F1 := Lib.hid (lFew_any l A c w1 (HR.out.now hb1) hm (acts_now HL.out hb1))
  have F2 := Lib.hid (lFew_any l2 A2 c2 w1 (HR2.out.now hb1) hm2 (acts_now HL2.out hb1))
  clear hb1
  cases hf1 : fewB l
  · rw [hf1] at F1
    go_wp2_with fail
    refine F1.out.mono ?_
    rintro e wx ⟨rfl, hw⟩
    obtain rfl := hw
    go_wp2
    go_ret
    exact ⟨rfl, HB.out⟩
  rw [hf1] at F1
  have HF1 := Lib.hid hf1
  cases hf2 : fewB l2
  · rw [hf2] at F2
    go_wp2_with fail
    refine F1.out.mono ?_
    rintro e wx ⟨rfl, hw⟩
    obtain rfl := hw
    go_wp2_with fail
    refine F2.out.mono ?_
    rintro e wx ⟨rfl, hw⟩
    obtain rfl := hw
    go_wp2
    go_ret
    exact ⟨rfl, HB.out⟩
  rw [hf2] at F2
  have HF2 := Lib.hid hf2
  clear hf1 hf2
  go_wp2_with fail
  refine F1.out.mono ?_
  rintro e wx ⟨rfl, hw⟩
  obtain rfl := hw
  go_wp2_with fail
  refine F2.out.mono ?_
  rintro e wx ⟨rfl, hw⟩
  obtain rfl := hw
  clear F1 F2
  by_cases hk60 : (60 : Int) < keep.length
  · have d1 : decide ((60 : Int) < keep.length) = true := by simpa using hk60
    go_wp2
    go_ret
    exact ⟨rfl, HB.out⟩
  have d1 : decide ((60 : Int) < keep.length) = false := by simpa using hk60
  go_wp2_with fail
  refine (lPlayed_any l A c w1 (HR.out.now HB.out) (acts_now HL.out HB.out) HF1.out).mono ?_
  rintro e w2 ⟨p, L, rfl, D, O, hb2⟩
  have O : Own w.heap.size p L := ⟨fun i hi => Nat.le_trans hz (O.own i hi)⟩
  have HB := Lib.hid (HB.out.trans (hb2.mono hz))
  have hz := HB.out.size
  have hkp : (playS DS.new l).keep.length ≤ 60 := play_keep l DS.new (by simp [DS.new]) (few_ok HF1.out).2
  generalize playS DS.new l = S at *
  have HRd := Lib.hid (dRead_any p S L w2 f 0 16777216 hf D)
  have HSy := Lib.hid (dSync_any p S L w2 f hf (by omega) D)
  clear hb2
  go_wp2_with fail
  refine HRd.out.mono ?_
  rintro e wx ⟨rfl, hw⟩
  obtain rfl := hw.symm
  go_wp2_with fail
  refine HSy.out.mono ?_
  rintro e w3 ⟨rfl, hu⟩
  obtain ⟨L3, D3, O3, _, hb3⟩ := O.upd hz hu
  have HB := Lib.hid (HB.out.trans hb3)
  have hz := HB.out.size
  have hwf := D.wf
  clear D O hu hb3 HRd HSy
  by_cases hc : S.syncC f = 0
  · obtain ⟨s1, s2, s3, s4, s5⟩ := syncC_ok hc
    have hfirm : Firm f (S.files f).1 (S.sync f) := by
      rw [s5]
      refine ⟨by show updF _ _ _ f = _; rw [updF, if_pos rfl], fun q hq => ?_⟩
      have := (List.mem_filter.1 hq).2
      simpa using this
    have hrc : S.readC f 0 16777216 = 0 := by unfold DS.readC; rw [may_zero s1 s2 s3, if_neg (by omega), if_neg (by omega)]
    have hrs : S.readS f 0 16777216 = (S.files f).1 := by rw [readS_eq hrc, readX_all _ _ (by have := hwf.now f; omega)]
    have hd1 : (S.sync f).down = false := by rw [s5]; show S.tick.down = false; rw [(tick_same S).2.2.1]; exact s1
    have hrc1 : (S.sync f).readC f 0 16777216 = 0 := by unfold DS.readC; rw [may_zero hd1 s2 s3, if_neg (by omega), if_neg (by omega)]
    have hrs1 : (S.sync f).readS f 0 16777216 = (S.files f).1 := by rw [readS_eq hrc1, hfirm.1, readX_all _ _ (by have := hwf.now f; show ((S.files f).1.size : Int) ≤ _; omega)]
    have hxs := hwf.now f
    have hk1 : (S.sync f).keep.length ≤ 60 := by
      rw [s5]
      show S.tick.keep.length ≤ 60
      rw [DS.tick_keep]
      exact hkp
    rw [hc, hrs, hrc]
    generalize hx : (S.files f).1 = x at *
    generalize S.sync f = S1 at *
    have HFi := Lib.hid hfirm
    have HRd := Lib.hid (dRead_any p S1 L3 w3 f 0 16777216 hf D3)
    rw [hrs1, hrc1] at HRd
    clear hc hrs hrc hrs1 hrc1 hfirm s5 s4 s1 hwf hkp hx hd1
    go_wp2_with fail
    refine HRd.out.mono ?_
    rintro e wx ⟨rfl, hw⟩
    obtain rfl := hw.symm
    clear HRd
    go_wp2_with fail
    have HO := Lib.hid O3
    go_loopw [15, 16] (fun i _ wr => ∃ (k : Nat) (S' : DS) (L' : DL), k ≤ l2.length ∧ i = .int .i64 k ∧ DK wr p S' L' ∧ Own w.heap.size p L' ∧ Firm f x S' ∧ S'.keep.length ≤ 60 ∧ Below w.heap.size w wr) (fun i _ _ => l2.length - (intOf i).toNat)
    case atStart => exact ⟨0, S1, L3, Nat.zero_le _, rfl, D3, O3, HFi.out, hk1, HB.out⟩
    case round =>
      clear D3 O3 HO HFi hk1 HB
      obtain ⟨k, S', L', hk, rfl, d, o, hfi, hk1, hb⟩ := hrel
      have D := Lib.hid d
      have O := Lib.hid o
      have HFi := Lib.hid hfi
      have HB := Lib.hid hb
      have hz := hb.size
      by_cases hlt : k < l2.length
      · obtain ⟨b, off, rfl, hbb, c0, c1, c2', c3, c4⟩ := (HR2.out.now hb).act hlt
        have hok := HL2.out l2[k] (List.getElem_mem hlt)
        have hfa := (few_ok HF2.out).2 l2[k] (List.getElem_mem hlt)
        have HD := Lib.hid (lDo_any p S' L' wr l2[k] (hok.now hb) hfa hk1 (fun hne => O.out.apart hok.rd hne) d)
        have HAct := Lib.hid (hfi.act l2[k])
        have HKe := Lib.hid (doS_keep hk1 hfa)
        have hM := and7 l2[k].d
        clear hok hfa d o hb hfi
        generalize l2[k] = a at *
        by_cases hrun : (a.d % 8 < 4 ∧ a.f ≠ f) ∨ a.d % 8 = 4
        · have HFi2 := Lib.hid (HAct.out hrun)
          by_cases m4 : a.d % 8 = 4
          · have b4 : (a.d % 8 == 4) = true := by simpa using m4
            have b5 : decide (a.d % 8 < 4) = false := by simp; omega
            go_wp2_with (go_at_call 12; refine HD.out.mono ?_; rintro e w5 ⟨rfl, hu⟩)
            obtain ⟨L5, d5, o5, _, hb5⟩ := O.out.upd hz hu
            go_roundw
            case rel => exact ⟨k + 1, _, L5, by omega, by go_num, d5, o5, HFi2.out, HKe.out, HB.out.trans hb5⟩
            case measure => simp [intOf]; omega
          · have b4 : (a.d % 8 == 4) = false := by simpa using m4
            have b5 : decide (a.d % 8 < 4) = true := by simp; omega
            have b6 : (a.f == f) = false := by simp; omega
            go_wp2_with (go_at_call 12; refine HD.out.mono ?_; rintro e w5 ⟨rfl, hu⟩)
            obtain ⟨L5, d5, o5, _, hb5⟩ := O.out.upd hz hu
            go_roundw
            case rel => exact ⟨k + 1, _, L5, by omega, by go_num, d5, o5, HFi2.out, HKe.out, HB.out.trans hb5⟩
            case measure => simp [intOf]; omega
        · have b4 : (a.d % 8 == 4) = false := by simp; omega
          by_cases m4 : a.d % 8 < 4
          · have b5 : decide (a.d % 8 < 4) = true := by simpa using m4
            have b6 : (a.f == f) = true := by simp; omega
            go_wp2
            go_roundw
            case rel => exact ⟨k + 1, S', L', by omega, by go_num, D.out, O.out, HFi.out, hk1, HB.out⟩
            case measure => simp [intOf]; omega
          · have b5 : decide (a.d % 8 < 4) = false := by simpa using m4
            go_wp2
            go_roundw
            case rel => exact ⟨k + 1, S', L', by omega, by go_num, D.out, O.out, HFi.out, hk1, HB.out⟩
            case measure => simp [intOf]; omega
      · have HCr := Lib.hid (dCrash_any p S' L' wr keep kA kc (HK.out.now hb) (by omega) (fun hne => O.out.apart HK.out hne) d)
        clear d o hb
        go_wp2_with fail
        refine HCr.out.mono ?_
        rintro e w5 ⟨rfl, hu⟩
        obtain ⟨L5, d5, o5, _, hb5⟩ := O.out.upd hz hu
        have HB5 := Lib.hid (HB.out.trans hb5)
        have hz5 := HB5.out.size
        clear hu hb5 HCr
        go_wp2_with fail
        refine (dStart_any p _ L5 w5 d5).mono ?_
        rintro e w6 ⟨rfl, hu⟩
        obtain ⟨L6, d6, o6, _, hb6⟩ := o5.upd hz5 hu
        have HB6 := Lib.hid (HB5.out.trans hb6)
        have hfe : Firm f x (S'.crash keep).start := HFi.out.crash keep
        have hrc2 : (S'.crash keep).start.readC f 0 16777216 = 0 := by unfold DS.readC; rw [may_zero rfl s2 s3, if_neg (by omega), if_neg (by omega)]
        have hrs2 : (S'.crash keep).start.readS f 0 16777216 = x := by rw [readS_eq hrc2, hfe.1, readX_all _ _ (by show (x.size : Int) ≤ _; omega)]
        have HRd := Lib.hid (dRead_any p _ L6 w6 f 0 16777216 hf d6)
        rw [hrs2, hrc2] at HRd
        clear hu hb6 d5 o5 d6 o6 hfe hrc2 hrs2
        go_wp2_with fail
        refine HRd.out.mono ?_
        rintro e wx ⟨rfl, hw⟩
        obtain rfl := hw.symm
        go_wp2
        go_ret
        exact ⟨rfl, HB6.out⟩
  · have hne : (S.syncC f == 0) = false := by simpa using hc
    clear hc
    generalize S.syncC f = cc at *
    go_wp2
    go_ret
    exact ⟨rfl, HB.out⟩
end Go.Proofs.Ytjgeefagnddpfaa
