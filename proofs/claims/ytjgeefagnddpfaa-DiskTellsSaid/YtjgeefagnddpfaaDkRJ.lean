/- Contract of tell: an act on a disk of the reference. -/
import Derived.Test.YtjgeefagnddpfaaDkRI
namespace Go.Proofs.Ytjgeefagnddpfaa
open Go.RowKit
set_option maxHeartbeats 2000000 in
theorem lTell_any (p : Nat) (S : DS) (L : RL) (w : World) (a : ActM) (ha : ActOk w a) (hfew : ActFew a) (hk : S.keep.length ≤ 60) (hA : a.keep ≠ [] → ∀ i, slBlk a.kA = some i → ¬ L.own p i) (h : RK w p S L) :
    Calls Try.prog 13 #[.pointer (some ⟨p, 0, none⟩), .agg #[.int .i64 a.d, .int .i64 a.f, .int .i64 a.n, .string a.s, .slice a.kA a.keep.length a.kc]] w fun e w' => e = .returned (.int .i64 (S.doC a)) ∧ RUpd p (S.doS a) L w w' := by
  have hb1 : Below w.heap.size w (w.alloc (.cells #[.int .i64 a.d, .int .i64 a.f, .int .i64 a.n, .string a.s, .slice a.kA a.keep.length a.kc] 33)) := (Below.refl _ _).alloc (Nat.le_refl _) _
  have D1 := Lib.hid (h.below hb1)
  have R1 := Lib.hid (ha.rd.now hb1)
  have T1 := Lib.hid (Turn.below (F := L.own p) hb1)
  have HA := Lib.hid ha
  have hM := and7 a.d
  have hfs := hfew.s
  have hfk := hfew.k
  clear hb1 h
  by_cases m2 : a.d % 8 = 2
  · skip
    have e1 : S.doC a = S.syncC a.f := by unfold DS.doC; simp [m2]
    have e2 : S.doS a = S.sync a.f := by unfold DS.doS; simp [m2]
    rw [e1, e2]
    have hM2 : bits BinOp.and IntKind.i64 a.d 7 = 2 := by rw [hM, m2]
    clear e1 e2 hM
    go_enter Try.func13, Try.ntmps13
    go_wp2_with (go_at_call 32; refine (rSync_any p S L _ a.f (by omega) D1.out).mono ?_; rintro e w2 ⟨rfl, hu⟩)
    go_ret
    exact ⟨rfl, RUpd.trans T1.out (fun i hi => .inl hi) (fun i hi => .inl hi) hu⟩
  by_cases m3 : a.d % 8 = 3
  · skip
    have e1 : S.doC a = S.truncC a.f a.n := by unfold DS.doC; simp [m3]
    have e2 : S.doS a = S.trunc a.f a.n := by unfold DS.doS; simp [m3]
    rw [e1, e2]
    have hM2 : bits BinOp.and IntKind.i64 a.d 7 = 3 := by rw [hM, m3]
    clear e1 e2 hM
    go_enter Try.func13, Try.ntmps13
    go_wp2_with (go_at_call 33; refine (rTrunc_any p S L _ a.f a.n HA.out.n (by omega) D1.out).mono ?_; rintro e w2 ⟨rfl, hu⟩)
    go_ret
    exact ⟨rfl, RUpd.trans T1.out (fun i hi => .inl hi) (fun i hi => .inl hi) hu⟩
  by_cases m4 : a.d % 8 = 4
  · have hN := and3 a.n
    have hN4 : inI64 (a.n % 4) := by unfold inI64; omega
    have e1 : S.doC a = 0 := by unfold DS.doC; simp [m4]
    have e2 : S.doS a = S.lose (a.n % 4) := by unfold DS.doS; simp [m4]
    rw [e1, e2]
    have hM2 : bits BinOp.and IntKind.i64 a.d 7 = 4 := by rw [hM, m4]
    clear e1 e2 hM
    go_enter Try.func13, Try.ntmps13
    go_wp2_with (go_at_call 34; refine (rLose_any p S L _ (a.n % 4) hN4 D1.out).mono ?_; rintro e w2 ⟨rfl, hu⟩)
    go_ret
    exact ⟨rfl, RUpd.trans T1.out (fun i hi => .inl hi) (fun i hi => .inl hi) hu⟩
  by_cases m5 : a.d % 8 = 5
  · skip
    have e1 : S.doC a = 0 := by unfold DS.doC; simp [m5]
    have e2 : S.doS a = S.arm a.n a.keep := by unfold DS.doS; simp [m5]
    rw [e1, e2]
    have hM2 : bits BinOp.and IntKind.i64 a.d 7 = 5 := by rw [hM, m5]
    clear e1 e2 hM
    go_enter Try.func13, Try.ntmps13
    go_wp2_with (go_at_call 35; refine (rArm_any p S L _ a.n HA.out.n a.keep a.kA a.keep.length a.kc rfl R1.out (by omega) HA.out.k D1.out (fun i hne hi e => hA hne i hi (.inl e))).mono ?_; rintro e w2 ⟨rfl, hu⟩)
    go_ret
    exact ⟨rfl, RUpd.trans T1.out (fun i hi => .inl hi) (fun i hi => .inl hi) hu⟩
  by_cases m6 : a.d % 8 = 6
  · skip
    have e1 : S.doC a = 0 := by unfold DS.doC; simp [m6]
    have e2 : S.doS a = S.crash a.keep := by unfold DS.doS; simp [m6]
    rw [e1, e2]
    have hM2 : bits BinOp.and IntKind.i64 a.d 7 = 6 := by rw [hM, m6]
    clear e1 e2 hM
    go_enter Try.func13, Try.ntmps13
    go_wp2_with (go_at_call 36; refine (rCrash_any p S L _ a.keep a.kA a.kc R1.out (by omega) hA D1.out).mono ?_; rintro e w2 ⟨rfl, hu⟩)
    go_ret
    exact ⟨rfl, RUpd.trans T1.out (fun i hi => .inl hi) (fun i hi => .inl hi) hu⟩
  by_cases m7 : a.d % 8 = 7
  · skip
    have e1 : S.doC a = 0 := by unfold DS.doC; simp [m7]
    have e2 : S.doS a = S.start := by unfold DS.doS; simp [m7]
    rw [e1, e2]
    have hM2 : bits BinOp.and IntKind.i64 a.d 7 = 7 := by rw [hM, m7]
    clear e1 e2 hM
    go_enter Try.func13, Try.ntmps13
    go_wp2_with (go_at_call 37; refine (rStart_any p S L _ D1.out).mono ?_; rintro e w2 ⟨rfl, hu⟩)
    go_ret
    exact ⟨rfl, RUpd.trans T1.out (fun i hi => .inl hi) (fun i hi => .inl hi) hu⟩
  have e1 : S.doC a = S.writeC a.f a.n a.s := by unfold DS.doC; simp [m2, m3, m4, m5, m6, m7]
  have e2 : S.doS a = S.write a.f a.n a.s := by unfold DS.doS; simp [m2, m3, m4, m5, m6, m7]
  rw [e1, e2]
  have b2 : (a.d % 8 == 2) = false := by simpa using m2
  have b3 : (a.d % 8 == 3) = false := by simpa using m3
  have b4 : (a.d % 8 == 4) = false := by simpa using m4
  have b5 : (a.d % 8 == 5) = false := by simpa using m5
  have b6 : (a.d % 8 == 6) = false := by simpa using m6
  have b7 : (a.d % 8 == 7) = false := by simpa using m7
  clear e1 e2 m2 m3 m4 m5 m6 m7
  go_enter Try.func13, Try.ntmps13
  go_wp2_with (go_at_call 38; refine (rWrite_any p S L _ a.f a.n a.s HA.out.n (by omega) (by omega) D1.out).mono ?_; rintro e w2 ⟨rfl, hu⟩)
  go_ret
  exact ⟨rfl, RUpd.trans T1.out (fun i hi => .inl hi) (fun i hi => .inl hi) hu⟩
end Go.Proofs.Ytjgeefagnddpfaa
