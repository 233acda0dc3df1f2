/- Contracts of Write, Sync and Truncate of a disk of the reference. -/
import Derived.Test.YtjgeefagnddpfaaDkRH
namespace Go.Proofs.Ytjgeefagnddpfaa
open Go.RowKit

set_option maxHeartbeats 2000000 in
theorem rWrite_any (p : Nat) (S : DS) (L : RL) (w : World) (f a : Int) (s : ByteArray) (ha : inI64 a) (hs : s.size ≤ 1073741824) (hk : S.keep.length ≤ 4194320) (h : RK w p S L) :
    Calls Try.prog 38 #[.pointer (some ⟨p, 0, none⟩), .int .i64 f, .int .i64 a, .string s] w fun e w' => e = .returned (.int .i64 (S.writeC f a s)) ∧ RUpd p (S.write f a s) L w w' := by
  have HC := Lib.hid (rComes_any p S L w f a s ha hs hk h)
  have HFi := Lib.hid (fun w => rFits_any a s w ha hs)
  clear h
  cases he : S.endsB
  · have h1 : S.writeC f a s = S.tick.wcode f a s := by unfold DS.writeC; rw [he]; rfl
    have h2 : S.write f a s = S.tick.wr f a s := by unfold DS.write; rw [he]; rfl
    rw [comeW_tick he] at HC
    rw [h1, h2]
    clear h1 h2 he
    generalize S.tick = S1 at *
    go_enter Try.func38, Try.ntmps38
    go_wp2_with fail
    refine HC.out.mono ?_
    rintro e w1 ⟨rfl, L1, d1, t1, o1, k1⟩
    have HM := Lib.hid (rMay_any p S1 L1 _ f d1)
    by_cases h0 : S1.may f = 0
    · rw [h0] at HM
      obtain ⟨_, m1, m2⟩ := may_ok h0
      cases hfit : fitsB a s
      · rw [hfit] at HFi
        have hr : S1.wr f a s = S1 := wr_no (fun _ => hfit)
        have HR1 := Lib.hid hr
        have D1 := Lib.hid d1
        by_cases h2 : a < 0
        · have hc : S1.wcode f a s = 1 := by unfold DS.wcode; rw [if_neg (by omega), if_pos h2]
          have HC1 := Lib.hid hc
          clear hr hc hfit d1
          go_wp2_with (go_at_call 46; refine HM.out.mono ?_; rintro e w4 ⟨rfl, hw4⟩; obtain rfl := hw4.symm)
          go_ret
          exact ⟨by rw [HC1.out]; rfl, by rw [HR1.out]; exact RUpd.trans t1 o1 k1 (RUpd.refl D1.out)⟩
        · have hc : S1.wcode f a s = 6 := by unfold DS.wcode; rw [if_neg (by omega), if_neg h2, hfit]; rfl
          have HC1 := Lib.hid hc
          have h3 : 0 ≤ a := by omega
          clear hr hc hfit d1 h2
          go_wp2_with (first | (go_at_call 46; refine HM.out.mono ?_; rintro e w4 ⟨rfl, hw4⟩; obtain rfl := hw4.symm) | (go_at_call 53; refine (HFi.out _).mono ?_; rintro e wx ⟨rfl, hwx⟩; obtain rfl := hwx))
          go_ret
          exact ⟨by rw [HC1.out]; rfl, by rw [HR1.out]; exact RUpd.trans t1 o1 k1 (RUpd.refl D1.out)⟩
      · rw [hfit] at HFi
        obtain ⟨q1, q2⟩ := fits_ok hfit
        have hc : S1.wcode f a s = 0 := by unfold DS.wcode; rw [if_neg (by omega), if_neg (by omega), if_pos hfit]
        have hr : S1.wr f a s = S1.wadd f a s := by unfold DS.wr; rw [if_pos hc]
        have HAdd := Lib.hid (rAdd_any p S1 L1 _ f a s d1 ⟨m1, m2⟩ hfit)
        have HR1 := Lib.hid hr
        have HC1 := Lib.hid hc
        clear hr hc hfit d1
        go_wp2_with (first | (go_at_call 46; refine HM.out.mono ?_; rintro e w4 ⟨rfl, hw4⟩; obtain rfl := hw4.symm) | (go_at_call 53; refine (HFi.out _).mono ?_; rintro e wx ⟨rfl, hwx⟩; obtain rfl := hwx) | (go_at_call 54; refine HAdd.out.mono ?_; rintro e w2 ⟨rfl, hu2⟩))
        go_ret
        exact ⟨by rw [HC1.out]; rfl, by rw [HR1.out]; exact RUpd.trans t1 o1 k1 hu2⟩
    · have hc : S1.wcode f a s = S1.may f := by unfold DS.wcode; rw [if_pos h0]
      have hr : S1.wr f a s = S1 := by unfold DS.wr; rw [if_neg (by rw [hc]; exact h0)]
      have HR1 := Lib.hid hr
      have HC1 := Lib.hid hc
      have D1 := Lib.hid d1
      have h2 : (S1.may f == 0) = false := by simpa using h0
      clear hc hr h0 d1
      generalize S1.may f = cm at *
      go_wp2_with (go_at_call 46; refine HM.out.mono ?_; rintro e w4 ⟨rfl, hw4⟩; obtain rfl := hw4.symm)
      go_ret
      exact ⟨by rw [HC1.out]; rfl, by rw [HR1.out]; exact RUpd.trans t1 o1 k1 (RUpd.refl D1.out)⟩
  · obtain ⟨h1, h2⟩ := DS.write_come S f a s he
    have hdn := comeW_down he f a s
    have hm : (S.comeW f a s).may f = 8 := by unfold DS.may; rw [if_pos hdn]
    rw [h1, h2]
    clear h1 h2 he hdn
    generalize S.comeW f a s = S1 at *
    go_enter Try.func38, Try.ntmps38
    go_wp2_with fail
    refine HC.out.mono ?_
    rintro e w1 ⟨rfl, L1, d1, t1, o1, k1⟩
    have HM := Lib.hid (rMay_any p S1 L1 _ f d1)
    have D1 := Lib.hid d1
    rw [hm] at HM
    clear d1 hm
    go_wp2_with (go_at_call 46; refine HM.out.mono ?_; rintro e w4 ⟨rfl, hw4⟩; obtain rfl := hw4.symm)
    go_ret
    exact ⟨rfl, RUpd.trans t1 o1 k1 (RUpd.refl D1.out)⟩
set_option maxHeartbeats 2000000 in
theorem rSync_any (p : Nat) (S : DS) (L : RL) (w : World) (f : Int) (hk : S.keep.length ≤ 4194320) (h : RK w p S L) :
    Calls Try.prog 32 #[.pointer (some ⟨p, 0, none⟩), .int .i64 f] w fun e w' => e = .returned (.int .i64 (S.syncC f)) ∧ RUpd p (S.sync f) L w w' := by
  have HC := Lib.hid (rComes_any p S L w 0 0 e0 (by unfold inI64; omega) (by decide) hk h)
  clear h
  rw [comeW_none] at HC
  show Calls _ _ _ _ (fun e w' => e = .returned (.int .i64 (S.come.syncC0 f)) ∧ RUpd p (S.come.sync0 f) L w w')
  generalize S.come = S1 at *
  have q2 := fun a b c w => fieldRFile1 a b c w
  go_enter Try.func32, Try.ntmps32
  go_wp2_with fail
  refine HC.out.mono ?_
  rintro e w1 ⟨rfl, L1, d1, t1, o1, k1⟩
  have HM := Lib.hid (rMay_any p S1 L1 _ f d1)
  by_cases hm : S1.may f = 0
  · rw [hm] at HM
    have c2 := d1.c2
    have cz := fun j => box_free d1.box j
    obtain ⟨_, m1, m2⟩ := may_ok hm
    by_cases hl : 0 < S1.lost
    · have e1 : S1.syncC0 f = 9 := by unfold DS.syncC0; rw [if_neg (by omega), if_pos hl]
      have e2 : S1.sync0 f = ⟨S1.files, S1.queue, S1.lost - 1, S1.down, S1.armed, S1.keep⟩ := by unfold DS.sync0; rw [if_neg (by omega), if_pos hl]
      have hw := DS.sync0_wf d1.wf f
      rw [e2] at hw
      have E1 := Lib.hid e1
      have E2 := Lib.hid e2
      have hl1 := d1.wf.lost1
      unfold inI64 at hl1
      have D1 := Lib.hid d1
      have HW := Lib.hid hw
      clear d1 e1 e2 hw
      go_wp2_with (go_at_call 46; refine HM.out.mono ?_; rintro e w4 ⟨rfl, hw4⟩; obtain rfl := hw4.symm)
      go_ret
      exact ⟨by rw [E1.out]; rfl, by rw [E2.out]; exact RUpd.trans t1 o1 k1 (RK.scal D1.out (S1.lost - 1) S1.down S1.armed HW.out (heap_setCell_same _ _ _ _ _ _ D1.out.box) (grown_set _ _ _ _))⟩
    · have e1 : S1.syncC0 f = 0 := by unfold DS.syncC0; rw [if_neg (by omega), if_neg hl]
      have e2 : S1.sync0 f = S1.settle f (S1.files f).1 := by unfold DS.sync0; rw [if_neg (by omega), if_neg hl]
      have E1 := Lib.hid e1
      have E2 := Lib.hid e2
      have HG := Lib.hid (rGet_any p S1 L1 _ f d1)
      have D1 := Lib.hid d1
      have hnow := d1.wf.now f
      clear d1 e1 e2
      go_wp2_with (first | (go_at_call 46; refine HM.out.mono ?_; rintro e w4 ⟨rfl, hw4⟩; obtain rfl := hw4.symm) | (go_at_call 39; refine HG.out.mono ?_; rintro e w5 ⟨rfl, hb5⟩) | (go_at_call 51; refine (rSettle_any p S1 L1 _ f (S1.files f).1 (D1.out.below hb5) ⟨m1, m2⟩ hnow).mono ?_; rintro e w6 ⟨rfl, hu6⟩))
      go_ret
      exact ⟨by rw [E1.out]; rfl, by rw [E2.out]; exact RUpd.trans t1 o1 k1 (RUpd.behind hb5 hu6)⟩
  · have e1 : S1.syncC0 f = S1.may f := by unfold DS.syncC0; rw [if_pos hm]
    have e2 : S1.sync0 f = S1 := by unfold DS.sync0; rw [if_pos hm]
    have hne : (S1.may f == 0) = false := by simpa using hm
    have E1 := Lib.hid e1
    have E2 := Lib.hid e2
    have D1 := Lib.hid d1
    clear e1 e2 d1
    generalize S1.may f = cm at *
    go_wp2_with (go_at_call 46; refine HM.out.mono ?_; rintro e w4 ⟨rfl, hw4⟩; obtain rfl := hw4.symm)
    go_ret
    exact ⟨by rw [E1.out]; rfl, by rw [E2.out]; exact RUpd.trans t1 o1 k1 (RUpd.refl D1.out)⟩
set_option maxHeartbeats 2000000 in
theorem rTrunc_any (p : Nat) (S : DS) (L : RL) (w : World) (f n : Int) (hn : inI64 n) (hk : S.keep.length ≤ 4194320) (h : RK w p S L) :
    Calls Try.prog 33 #[.pointer (some ⟨p, 0, none⟩), .int .i64 f, .int .i64 n] w fun e w' => e = .returned (.int .i64 (S.truncC f n)) ∧ RUpd p (S.trunc f n) L w w' := by
  have HC := Lib.hid (rComes_any p S L w 0 0 e0 (by unfold inI64; omega) (by decide) hk h)
  clear h
  rw [comeW_none] at HC
  show Calls _ _ _ _ (fun e w' => e = .returned (.int .i64 (S.come.truncC0 f n)) ∧ RUpd p (S.come.trunc0 f n) L w w')
  generalize S.come = S1 at *
  have q2 := fun a b c w => fieldRFile1 a b c w
  unfold inI64 at hn
  go_enter Try.func33, Try.ntmps33
  go_wp2_with fail
  refine HC.out.mono ?_
  rintro e w1 ⟨rfl, L1, d1, t1, o1, k1⟩
  have HM := Lib.hid (rMay_any p S1 L1 _ f d1)
  have D1 := Lib.hid d1
  by_cases hm : S1.may f = 0
  · rw [hm] at HM
    obtain ⟨_, m1, m2⟩ := may_ok hm
    have hnow := d1.wf.now f
    have HG := Lib.hid (rGet_any p S1 L1 _ f d1)
    obtain ⟨x0, hx0⟩ : ∃ x, x = S1.files f := ⟨_, rfl⟩
    by_cases hb : n < 0 ∨ (S1.files f).1.size < n
    · have e1 : S1.truncC0 f n = 1 := by unfold DS.truncC0; rw [if_neg (by omega), if_pos hb]
      have e2 : S1.trunc0 f n = S1 := by unfold DS.trunc0; rw [if_neg (by omega)]
      have E1 := Lib.hid e1
      have E2 := Lib.hid e2
      rw [← hx0] at HG hnow hb
      clear d1 e1 e2 hx0
      go_wp2_with (first | (go_at_call 46; refine HM.out.mono ?_; rintro e w4 ⟨rfl, hw4⟩; obtain rfl := hw4.symm) | (go_at_call 39; refine HG.out.mono ?_; rintro e w5 ⟨rfl, hb5⟩))
      all_goals first
        | (exfalso; omega)
        | (go_ret; exact ⟨by rw [E1.out]; rfl, by rw [E2.out]; exact RUpd.trans t1 o1 k1 (RUpd.of_below D1.out hb5)⟩)
    · have e1 : S1.truncC0 f n = 0 := by unfold DS.truncC0; rw [if_neg (by omega), if_neg hb]
      have e2 : S1.trunc0 f n = S1.settle f ((S1.files f).1.extract 0 n.toNat) := by unfold DS.trunc0; rw [if_pos e1]
      have E1 := Lib.hid e1
      have E2 := Lib.hid e2
      rw [← hx0] at HG hnow hb E2
      have hb1 : 0 ≤ n := by omega
      have hb2 : n ≤ x0.1.size := by omega
      have hxs : (x0.1.extract 0 n.toNat).size ≤ 16777216 := by rw [extract_size]; omega
      clear d1 e1 e2 hb hx0
      go_wp2_with (first | (go_at_call 46; refine HM.out.mono ?_; rintro e w4 ⟨rfl, hw4⟩; obtain rfl := hw4.symm) | (go_at_call 39; refine HG.out.mono ?_; rintro e w5 ⟨rfl, hb5⟩) | (go_at_call 51; refine (rSettle_any p S1 L1 _ f (x0.1.extract 0 n.toNat) (D1.out.below hb5) ⟨m1, m2⟩ hxs).mono ?_; rintro e w6 ⟨rfl, hu6⟩))
      all_goals first
        | (exfalso; omega)
        | (go_ret; exact ⟨by rw [E1.out]; rfl, by rw [E2.out]; exact RUpd.trans t1 o1 k1 (RUpd.behind hb5 hu6)⟩)
  · have e1 : S1.truncC0 f n = S1.may f := by unfold DS.truncC0; rw [if_pos hm]
    have e2 : S1.trunc0 f n = S1 := by unfold DS.trunc0; rw [if_neg (by omega)]
    have hne : (S1.may f == 0) = false := by simpa using hm
    have E1 := Lib.hid e1
    have E2 := Lib.hid e2
    clear e1 e2 d1
    generalize S1.may f = cm at *
    go_wp2_with (go_at_call 46; refine HM.out.mono ?_; rintro e w4 ⟨rfl, hw4⟩; obtain rfl := hw4.symm)
    go_ret
    exact ⟨by rw [E1.out]; rfl, by rw [E2.out]; exact RUpd.trans t1 o1 k1 (RUpd.refl D1.out)⟩
end Go.Proofs.Ytjgeefagnddpfaa
