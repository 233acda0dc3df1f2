/- Contracts of Write, Sync, Truncate and New of a disk. -/
import Derived.Test.YtjgeefagnddpfaaDkH
namespace Go.Proofs.Ytjgeefagnddpfaa
open Go.RowKit

/-- What a call does, and then a second one. -/
theorem Upd.then {w w1 w2 : World} {p : Nat} {S1 S2 : DS} {L : DL} (h : Upd p S1 L w w1) (k : ∀ L1, DK w1 p S1 L1 → Upd p S2 L1 w1 w2) : Upd p S2 L w w2 := by
  obtain ⟨L1, d, t, o, kk⟩ := h
  exact Upd.trans t o kk (k L1 d)
theorem keep_ok {w : World} {p : Nat} {S : DS} {L : DL} (d : DK w p S L) : ∀ i, slBlk L.kA = some i → ¬ L.own p i := d.kp
theorem dNew_any (w : World) : Calls Try.prog 10 #[] w fun e w' => e = .returned (.pointer (some ⟨w.heap.size + 2, 0, none⟩)) ∧ Below w.heap.size w w' ∧ ∃ L, DK w' (w.heap.size + 2) DS.new L ∧ (∀ i, L.own (w.heap.size + 2) i → w.heap.size ≤ i) ∧ L.kA = none := by
  have hmm := @run_makeMap Try.prog
  go_enter Try.func10, Try.ntmps10
  go_wp2
  go_ret
  refine ⟨rfl, by repeat (first | with_reducible exact Below.refl _ _ | with_reducible assumption | with_reducible refine Below.drew ?_ | with_reducible refine Below.alloc ?_ (by first | omega | (simp; done) | (simp; omega)) _), ⟨w.heap.size, w.heap.size + 1, none, 0, none, 0⟩, ⟨DS.new_wf, ?_, ⟨fun _ => none, ?_, rfl⟩, OwnL.nil_, ?_, RdL.nil_, ?_, ?_, ?_, ?_, ?_, ?_⟩, ?_, rfl⟩
  · have h1 := (MapKept.heap_alloc ((w.alloc (.map #[] 0)).alloc (.map #[] 0)) (.cells (diskV DS.new ⟨w.heap.size, w.heap.size + 1, none, 0, none, 0⟩) 56)).1
    rw [show ((w.alloc (.map #[] 0)).alloc (.map #[] 0)).heap.size = w.heap.size + 2 by simp] at h1
    exact h1
  · exact (MapF.new w).of_block (by
      rw [Below.heap_alloc _ _ _ (by simp; omega), Below.heap_alloc _ _ _ (by simp)])
  · have he : setF DS.new.queue = (fun _ => none) := by funext x; simp [setF, DS.new]
    have h1 := MapF.new (ok := okS) (kv := secV) (vv := Value.bool) (w.alloc (.map #[] 0))
    rw [show (w.alloc (.map #[] 0)).heap.size = w.heap.size + 1 by simp] at h1
    show MapF _ (w.heap.size + 1) okS secV Value.bool (setF DS.new.queue)
    rw [he]
    exact h1.of_block (Below.heap_alloc _ _ _ (by simp))
  · show w.heap.size + 2 ≠ w.heap.size
    omega
  · show w.heap.size + 2 ≠ w.heap.size + 1
    omega
  · show w.heap.size ≠ w.heap.size + 1
    omega
  · intro i hi
    cases hi
  · intro i hi
    cases hi
  · intro i hi
    cases hi
  · rintro i (h | h | h | h)
    · omega
    · have h' : i = w.heap.size := h
      omega
    · have h' : i = w.heap.size + 1 := h
      omega
    · cases h
theorem dWrite_any (p : Nat) (S : DS) (L : DL) (w : World) (f a : Int) (s : ByteArray) (hf : inI64 f) (ha : inI64 a) (hs : s.size ≤ 1073741824) (hk : S.keep.length ≤ 4194320) (h : DK w p S L) :
    Calls Try.prog 29 #[.pointer (some ⟨p, 0, none⟩), .int .i64 f, .int .i64 a, .string s] w fun e w' => e = .returned (.int .i64 (S.writeC f a s)) ∧ Upd p (S.write f a s) L w w' := by
  have HE := Lib.hid (dEnds_any p S L w h)
  clear h
  cases he : S.endsB
  · have h1 : S.writeC f a s = S.tick.wcode f a s := by unfold DS.writeC; rw [he]; rfl
    have h2 : S.write f a s = S.tick.wr f a s := by unfold DS.write; rw [he]; rfl
    rw [h1, h2]
    rw [he] at HE
    clear h1 h2
    go_enter Try.func29, Try.ntmps29
    go_wp2_with fail
    refine HE.out.mono ?_
    rintro e w1 ⟨rfl, L1, d1, t1, o1, k1⟩
    go_wp2_with fail
    refine (dwrite_any p S.tick L1 _ f a s hf ha hs d1).mono ?_
    rintro e w2 ⟨rfl, hu2⟩
    go_wp2
    go_ret
    exact ⟨rfl, Upd.trans t1 o1 k1 hu2⟩
  · have h1 : S.writeC f a s = 8 := by unfold DS.writeC; rw [he]; rfl
    have h2 : S.write f a s = (S.tick.wr f a s).crash S.keep := by unfold DS.write; rw [he]; rfl
    have hk2 : (S.tick.wr f a s).keep = S.keep := by rw [DS.wr_keep, DS.tick_keep]
    rw [h1, h2]
    rw [he] at HE
    clear h1 h2
    go_enter Try.func29, Try.ntmps29
    go_wp2_with fail
    refine HE.out.mono ?_
    rintro e w1 ⟨rfl, L1, d1, t1, o1, k1⟩
    go_wp2_with fail
    refine (dwrite_any p S.tick L1 _ f a s hf ha hs d1).mono ?_
    rintro e w2 ⟨rfl, hu2⟩
    obtain ⟨L2, d2, t2, o2, k2⟩ := Upd.trans t1 o1 k1 hu2
    have c6 := d2.c6
    rw [hk2] at c6
    have HC := Lib.hid (dCrash_any p _ L2 w2 S.keep L2.kA L2.kc (by have := d2.keep; rwa [hk2] at this) hk (fun _ => d2.kp) d2)
    have T2 := Lib.hid t2
    clear d1 t1 o1 k1 hu2 d2 t2
    go_wp2_with fail
    refine HC.out.mono ?_
    rintro e w3 ⟨rfl, hu3⟩
    go_wp2
    go_ret
    exact ⟨rfl, Upd.trans T2.out o2 k2 hu3⟩

set_option maxHeartbeats 1000000 in
theorem dSync_any (p : Nat) (S : DS) (L : DL) (w : World) (f : Int) (hf : inI64 f) (hk : S.keep.length ≤ 4194320) (h : DK w p S L) :
    Calls Try.prog 19 #[.pointer (some ⟨p, 0, none⟩), .int .i64 f] w fun e w' => e = .returned (.int .i64 (S.syncC f)) ∧ Upd p (S.sync f) L w w' := by
  have HE := Lib.hid (dEnds_any p S L w h)
  clear h
  have HG0 : Hid (∀ e w', (e = Ending.returned (.int .i64 (S.come.syncC0 f)) ∧ Upd p (S.come.sync0 f) L w w') → (e = Ending.returned (.int .i64 (S.syncC f)) ∧ Upd p (S.sync f) L w w')) := Lib.hid (fun _ _ h => h)
  cases he : S.endsB
  · have hc : S.come = S.tick := by unfold DS.come; rw [he]; rfl
    rw [he] at HE
    rw [hc] at HG0
    have HG := HG0
    clear HG0 hc
    go_enter Try.func19, Try.ntmps19
    go_wp2_with fail
    refine HE.out.mono ?_
    rintro e w1 ⟨rfl, L1, d1, t1, o1, k1⟩
    generalize S.tick = S1 at *
    have HM := Lib.hid (dMay_any p S1 L1 _ f d1)
    by_cases hm : S1.may f = 0
    · rw [hm] at HM
      have c3 := d1.c3
      have c0 := d1.c0
      have cz := fun j => box_free d1.box j
      obtain ⟨_, m1, m2⟩ := may_ok hm
      by_cases hl : 0 < S1.lost
      · have e1 : S1.syncC0 f = 9 := by unfold DS.syncC0; rw [if_neg (by omega), if_pos hl]
        have e2 : S1.sync0 f = ⟨S1.files, S1.queue, S1.lost - 1, S1.down, S1.armed, S1.keep⟩ := by unfold DS.sync0; rw [if_neg (by omega), if_pos hl]
        have hw := DS.sync0_wf d1.wf f
        rw [e2] at hw
        rw [e1, e2] at HG
        have hl1 := d1.wf.lost1
        unfold inI64 at hl1
        have D1 := Lib.hid d1
        clear d1 e1 e2
        go_wp2_with (go_at_call 44; refine HM.out.mono ?_; rintro e w4 ⟨rfl, hw4⟩; obtain rfl := hw4.symm)
        go_ret
        exact HG.out _ _ ⟨rfl, Upd.trans t1 o1 k1 (Upd.scal D1.out (S1.lost - 1) S1.down S1.armed hw (heap_setCell_same _ _ _ _ _ _ D1.out.box) (grown_set _ _ _ _))⟩
      · have e1 : S1.syncC0 f = 0 := by unfold DS.syncC0; rw [if_neg (by omega), if_neg hl]
        have e2 : S1.sync0 f = S1.settle f (S1.files f).1 := by unfold DS.sync0; rw [if_neg (by omega), if_neg hl]
        rw [e1, e2] at HG
        have q := d1.look f hf
        have q2 := fun a b w => fieldFile0 a b w
        have HSe := Lib.hid (dSettle_any p S1 L1 _ f (S1.files f).1 ⟨m1, m2⟩ (d1.wf.now f) d1)
        have hl1 := d1.wf.lost1
        unfold inI64 at hl1
        clear d1 e1 e2
        go_wp2_with (first | (go_at_call 44; refine HM.out.mono ?_; rintro e w4 ⟨rfl, hw4⟩; obtain rfl := hw4.symm) | (go_at_call 45; refine HSe.out.mono ?_; rintro e w5 ⟨rfl, hu5⟩))
        go_ret
        exact HG.out _ _ ⟨rfl, Upd.trans t1 o1 k1 hu5⟩
    · have e1 : S1.syncC0 f = S1.may f := by unfold DS.syncC0; rw [if_pos hm]
      have e2 : S1.sync0 f = S1 := by unfold DS.sync0; rw [if_pos hm]
      have hne : (S1.may f == 0) = false := by simpa using hm
      rw [e1, e2] at HG
      have D1 := Lib.hid d1
      clear e1 e2 d1
      generalize S1.may f = cm at *
      go_wp2_with (go_at_call 44; refine HM.out.mono ?_; rintro e w4 ⟨rfl, hw4⟩; obtain rfl := hw4.symm)
      go_ret
      exact HG.out _ _ ⟨rfl, Upd.trans t1 o1 k1 (Upd.refl D1.out)⟩
  · have hc : S.come = S.tick.crash S.keep := by unfold DS.come; rw [he]; rfl
    rw [he] at HE
    rw [hc] at HG0
    have HG := HG0
    clear HG0 hc
    go_enter Try.func19, Try.ntmps19
    go_wp2_with fail
    refine HE.out.mono ?_
    rintro e w0 ⟨rfl, L0, d0, t0, o0, k0⟩
    have c6 := d0.c6
    rw [DS.tick_keep] at c6
    have HC := Lib.hid (dCrash_any p _ L0 w0 S.keep L0.kA L0.kc (by have := d0.keep; rwa [DS.tick_keep] at this) hk (fun _ => d0.kp) d0)
    clear d0
    go_wp2_with fail
    refine HC.out.mono ?_
    rintro e w1 ⟨rfl, hu⟩
    obtain ⟨L1, d1, t1, o1, k1⟩ := Upd.trans t0 o0 k0 hu
    generalize S.tick.crash S.keep = S1 at *
    clear t0 o0 k0 hu c6
    have HM := Lib.hid (dMay_any p S1 L1 _ f d1)
    by_cases hm : S1.may f = 0
    · rw [hm] at HM
      have c3 := d1.c3
      have c0 := d1.c0
      have cz := fun j => box_free d1.box j
      obtain ⟨_, m1, m2⟩ := may_ok hm
      by_cases hl : 0 < S1.lost
      · have e1 : S1.syncC0 f = 9 := by unfold DS.syncC0; rw [if_neg (by omega), if_pos hl]
        have e2 : S1.sync0 f = ⟨S1.files, S1.queue, S1.lost - 1, S1.down, S1.armed, S1.keep⟩ := by unfold DS.sync0; rw [if_neg (by omega), if_pos hl]
        have hw := DS.sync0_wf d1.wf f
        rw [e2] at hw
        rw [e1, e2] at HG
        have hl1 := d1.wf.lost1
        unfold inI64 at hl1
        have D1 := Lib.hid d1
        clear d1 e1 e2
        go_wp2_with (go_at_call 44; refine HM.out.mono ?_; rintro e w4 ⟨rfl, hw4⟩; obtain rfl := hw4.symm)
        go_ret
        exact HG.out _ _ ⟨rfl, Upd.trans t1 o1 k1 (Upd.scal D1.out (S1.lost - 1) S1.down S1.armed hw (heap_setCell_same _ _ _ _ _ _ D1.out.box) (grown_set _ _ _ _))⟩
      · have e1 : S1.syncC0 f = 0 := by unfold DS.syncC0; rw [if_neg (by omega), if_neg hl]
        have e2 : S1.sync0 f = S1.settle f (S1.files f).1 := by unfold DS.sync0; rw [if_neg (by omega), if_neg hl]
        rw [e1, e2] at HG
        have q := d1.look f hf
        have q2 := fun a b w => fieldFile0 a b w
        have HSe := Lib.hid (dSettle_any p S1 L1 _ f (S1.files f).1 ⟨m1, m2⟩ (d1.wf.now f) d1)
        have hl1 := d1.wf.lost1
        unfold inI64 at hl1
        clear d1 e1 e2
        go_wp2_with (first | (go_at_call 44; refine HM.out.mono ?_; rintro e w4 ⟨rfl, hw4⟩; obtain rfl := hw4.symm) | (go_at_call 45; refine HSe.out.mono ?_; rintro e w5 ⟨rfl, hu5⟩))
        go_ret
        exact HG.out _ _ ⟨rfl, Upd.trans t1 o1 k1 hu5⟩
    · have e1 : S1.syncC0 f = S1.may f := by unfold DS.syncC0; rw [if_pos hm]
      have e2 : S1.sync0 f = S1 := by unfold DS.sync0; rw [if_pos hm]
      have hne : (S1.may f == 0) = false := by simpa using hm
      rw [e1, e2] at HG
      have D1 := Lib.hid d1
      clear e1 e2 d1
      generalize S1.may f = cm at *
      go_wp2_with (go_at_call 44; refine HM.out.mono ?_; rintro e w4 ⟨rfl, hw4⟩; obtain rfl := hw4.symm)
      go_ret
      exact HG.out _ _ ⟨rfl, Upd.trans t1 o1 k1 (Upd.refl D1.out)⟩
set_option maxHeartbeats 1000000 in
theorem dTrunc_any (p : Nat) (S : DS) (L : DL) (w : World) (f n : Int) (hf : inI64 f) (hn : inI64 n) (hk : S.keep.length ≤ 4194320) (h : DK w p S L) :
    Calls Try.prog 30 #[.pointer (some ⟨p, 0, none⟩), .int .i64 f, .int .i64 n] w fun e w' => e = .returned (.int .i64 (S.truncC f n)) ∧ Upd p (S.trunc f n) L w w' := by
  have HE := Lib.hid (dEnds_any p S L w h)
  clear h
  have HG0 : Hid (∀ e w', (e = Ending.returned (.int .i64 (S.come.truncC0 f n)) ∧ Upd p (S.come.trunc0 f n) L w w') → (e = Ending.returned (.int .i64 (S.truncC f n)) ∧ Upd p (S.trunc f n) L w w')) := Lib.hid (fun _ _ h => h)
  cases he : S.endsB
  · have hc : S.come = S.tick := by unfold DS.come; rw [he]; rfl
    rw [he] at HE
    rw [hc] at HG0
    have HG := HG0
    clear HG0 hc
    go_enter Try.func30, Try.ntmps30
    go_wp2_with fail
    refine HE.out.mono ?_
    rintro e w1 ⟨rfl, L1, d1, t1, o1, k1⟩
    generalize S.tick = S1 at *
    have HM := Lib.hid (dMay_any p S1 L1 _ f d1)
    unfold inI64 at hn
    by_cases hm : S1.may f = 0
    · rw [hm] at HM
      have c0 := d1.c0
      obtain ⟨_, m1, m2⟩ := may_ok hm
      have hnow := d1.wf.now f
      have HZ := Lib.hid (dSize_any p S1 L1 _ f hf d1)
      by_cases hb : n < 0 ∨ (S1.files f).1.size < n
      · have e1 : S1.truncC0 f n = 1 := by unfold DS.truncC0; rw [if_neg (by omega), if_pos hb]
        have e2 : S1.trunc0 f n = S1 := by unfold DS.trunc0; rw [if_neg (by omega)]
        rw [e1, e2] at HG
        have D1 := Lib.hid d1
        clear d1 e1 e2
        generalize (S1.files f).1.size = z at *
        go_wp2_with (first | (go_at_call 44; refine HM.out.mono ?_; rintro e w4 ⟨rfl, hw4⟩; obtain rfl := hw4.symm) | (go_at_call 16; refine HZ.out.mono ?_; rintro e w5 ⟨rfl, hw5⟩; obtain rfl := hw5.symm))
        all_goals first
          | (exfalso; omega)
          | (go_ret; exact HG.out _ _ ⟨rfl, Upd.trans t1 o1 k1 (Upd.refl D1.out)⟩)
      · have e1 : S1.truncC0 f n = 0 := by unfold DS.truncC0; rw [if_neg (by omega), if_neg hb]
        have e2 : S1.trunc0 f n = S1.settle f ((S1.files f).1.extract 0 n.toNat) := by unfold DS.trunc0; rw [if_pos e1]
        rw [e1, e2] at HG
        have q := d1.look f hf
        have q2 := fun a b w => fieldFile0 a b w
        have HSe := Lib.hid (dSettle_any p S1 L1 _ f ((S1.files f).1.extract 0 n.toNat) ⟨m1, m2⟩ (by rw [extract_size]; omega) d1)
        have hb1 : 0 ≤ n := by omega
        have hb2 : n ≤ (S1.files f).1.size := by omega
        clear d1 e1 e2 hb
        go_wp2_with (first | (go_at_call 44; refine HM.out.mono ?_; rintro e w4 ⟨rfl, hw4⟩; obtain rfl := hw4.symm) | (go_at_call 16; refine HZ.out.mono ?_; rintro e w5 ⟨rfl, hw5⟩; obtain rfl := hw5.symm) | (go_at_call 45; refine HSe.out.mono ?_; rintro e w5 ⟨rfl, hu5⟩))
        all_goals first
          | (exfalso; omega)
          | (go_ret; exact HG.out _ _ ⟨rfl, Upd.trans t1 o1 k1 hu5⟩)
    · have e1 : S1.truncC0 f n = S1.may f := by unfold DS.truncC0; rw [if_pos hm]
      have e2 : S1.trunc0 f n = S1 := by unfold DS.trunc0; rw [if_neg (by omega)]
      have hne : (S1.may f == 0) = false := by simpa using hm
      rw [e1, e2] at HG
      have D1 := Lib.hid d1
      clear e1 e2 d1
      generalize S1.may f = cm at *
      go_wp2_with (go_at_call 44; refine HM.out.mono ?_; rintro e w4 ⟨rfl, hw4⟩; obtain rfl := hw4.symm)
      go_ret
      exact HG.out _ _ ⟨rfl, Upd.trans t1 o1 k1 (Upd.refl D1.out)⟩
  · have hc : S.come = S.tick.crash S.keep := by unfold DS.come; rw [he]; rfl
    rw [he] at HE
    rw [hc] at HG0
    have HG := HG0
    clear HG0 hc
    go_enter Try.func30, Try.ntmps30
    go_wp2_with fail
    refine HE.out.mono ?_
    rintro e w0 ⟨rfl, L0, d0, t0, o0, k0⟩
    have c6 := d0.c6
    rw [DS.tick_keep] at c6
    have HC := Lib.hid (dCrash_any p _ L0 w0 S.keep L0.kA L0.kc (by have := d0.keep; rwa [DS.tick_keep] at this) hk (fun _ => d0.kp) d0)
    clear d0
    go_wp2_with fail
    refine HC.out.mono ?_
    rintro e w1 ⟨rfl, hu⟩
    obtain ⟨L1, d1, t1, o1, k1⟩ := Upd.trans t0 o0 k0 hu
    generalize S.tick.crash S.keep = S1 at *
    clear t0 o0 k0 hu c6
    have HM := Lib.hid (dMay_any p S1 L1 _ f d1)
    unfold inI64 at hn
    by_cases hm : S1.may f = 0
    · rw [hm] at HM
      have c0 := d1.c0
      obtain ⟨_, m1, m2⟩ := may_ok hm
      have hnow := d1.wf.now f
      have HZ := Lib.hid (dSize_any p S1 L1 _ f hf d1)
      by_cases hb : n < 0 ∨ (S1.files f).1.size < n
      · have e1 : S1.truncC0 f n = 1 := by unfold DS.truncC0; rw [if_neg (by omega), if_pos hb]
        have e2 : S1.trunc0 f n = S1 := by unfold DS.trunc0; rw [if_neg (by omega)]
        rw [e1, e2] at HG
        have D1 := Lib.hid d1
        clear d1 e1 e2
        generalize (S1.files f).1.size = z at *
        go_wp2_with (first | (go_at_call 44; refine HM.out.mono ?_; rintro e w4 ⟨rfl, hw4⟩; obtain rfl := hw4.symm) | (go_at_call 16; refine HZ.out.mono ?_; rintro e w5 ⟨rfl, hw5⟩; obtain rfl := hw5.symm))
        all_goals first
          | (exfalso; omega)
          | (go_ret; exact HG.out _ _ ⟨rfl, Upd.trans t1 o1 k1 (Upd.refl D1.out)⟩)
      · have e1 : S1.truncC0 f n = 0 := by unfold DS.truncC0; rw [if_neg (by omega), if_neg hb]
        have e2 : S1.trunc0 f n = S1.settle f ((S1.files f).1.extract 0 n.toNat) := by unfold DS.trunc0; rw [if_pos e1]
        rw [e1, e2] at HG
        have q := d1.look f hf
        have q2 := fun a b w => fieldFile0 a b w
        have HSe := Lib.hid (dSettle_any p S1 L1 _ f ((S1.files f).1.extract 0 n.toNat) ⟨m1, m2⟩ (by rw [extract_size]; omega) d1)
        have hb1 : 0 ≤ n := by omega
        have hb2 : n ≤ (S1.files f).1.size := by omega
        clear d1 e1 e2 hb
        go_wp2_with (first | (go_at_call 44; refine HM.out.mono ?_; rintro e w4 ⟨rfl, hw4⟩; obtain rfl := hw4.symm) | (go_at_call 16; refine HZ.out.mono ?_; rintro e w5 ⟨rfl, hw5⟩; obtain rfl := hw5.symm) | (go_at_call 45; refine HSe.out.mono ?_; rintro e w5 ⟨rfl, hu5⟩))
        all_goals first
          | (exfalso; omega)
          | (go_ret; exact HG.out _ _ ⟨rfl, Upd.trans t1 o1 k1 hu5⟩)
    · have e1 : S1.truncC0 f n = S1.may f := by unfold DS.truncC0; rw [if_pos hm]
      have e2 : S1.trunc0 f n = S1 := by unfold DS.trunc0; rw [if_neg (by omega)]
      have hne : (S1.may f == 0) = false := by simpa using hm
      rw [e1, e2] at HG
      have D1 := Lib.hid d1
      clear e1 e2 d1
      generalize S1.may f = cm at *
      go_wp2_with (go_at_call 44; refine HM.out.mono ?_; rintro e w4 ⟨rfl, hw4⟩; obtain rfl := hw4.symm)
      go_ret
      exact HG.out _ _ ⟨rfl, Upd.trans t1 o1 k1 (Upd.refl D1.out)⟩
end Go.Proofs.Ytjgeefagnddpfaa
