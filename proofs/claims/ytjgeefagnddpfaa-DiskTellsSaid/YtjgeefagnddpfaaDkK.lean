/- Contracts of few and do: an act on a disk. -/
import Derived.Test.YtjgeefagnddpfaaDkJ
namespace Go.Proofs.Ytjgeefagnddpfaa
open Go.RowKit

/-- An act, and where its list of numbers lies. -/
structure ActM where
  d : Int
  f : Int
  n : Int
  s : ByteArray
  keep : List Int
  kA : Option Addr
  kc : Nat
def actC (a : ActM) : List Value := [.int .i64 a.d, .int .i64 a.f, .int .i64 a.n, .string a.s, .slice a.kA a.keep.length a.kc]
def actV (a : ActM) : Value := .agg #[.int .i64 a.d, .int .i64 a.f, .int .i64 a.n, .string a.s, .slice a.kA a.keep.length a.kc]
/-- What a law's argument gives of an act. -/
structure ActOk (w : World) (a : ActM) : Prop where
  d : inI64 a.d
  f : inI64 a.f
  n : inI64 a.n
  s : a.s.size ≤ 9223372036854775807
  kl : a.keep.length ≤ 9223372036854775807
  k : ∀ x ∈ a.keep, inI64 x
  rd : RdL 1 intC w w.heap.size a.kA a.keep
/-- .. within the bounds of few. -/
structure ActFew (a : ActM) : Prop where
  s : a.s.size ≤ 300
  k : a.keep.length ≤ 60
  n : a.n ≤ 3000 ∨ 16776916 ≤ a.n
def fewB1 (a : ActM) : Bool := !(decide (300 < (a.s.size : Int)) || decide (60 < (a.keep.length : Int)) || decide (3000 < a.n) && decide (a.n < 16776916))
def fewB (l : List ActM) : Bool := l.all fewB1 && decide ((l.length : Int) ≤ 40)
theorem few_ok {l : List ActM} (h : fewB l = true) : l.length ≤ 40 ∧ ∀ a ∈ l, ActFew a := by
  unfold fewB at h
  rw [Bool.and_eq_true, List.all_eq_true] at h
  refine ⟨by have := h.2; simp at this; omega, fun a ha => ?_⟩
  have h1 := h.1 a ha
  simp [fewB1] at h1
  exact ⟨by omega, by omega, by omega⟩
def DS.doC (S : DS) (a : ActM) : Int :=
  if a.d % 8 = 2 then S.syncC a.f else if a.d % 8 = 3 then S.truncC a.f a.n else if a.d % 8 = 4 then 0 else if a.d % 8 = 5 then 0 else if a.d % 8 = 6 then 0 else if a.d % 8 = 7 then 0 else S.writeC a.f a.n a.s
def DS.doS (S : DS) (a : ActM) : DS :=
  if a.d % 8 = 2 then S.sync a.f else if a.d % 8 = 3 then S.trunc a.f a.n else if a.d % 8 = 4 then S.lose (a.n % 4) else if a.d % 8 = 5 then S.arm a.n a.keep else if a.d % 8 = 6 then S.crash a.keep else if a.d % 8 = 7 then S.start else S.write a.f a.n a.s
set_option maxHeartbeats 2000000 in
theorem lDo_any (p : Nat) (S : DS) (L : DL) (w : World) (a : ActM) (ha : ActOk w a) (hfew : ActFew a) (hk : S.keep.length ≤ 60) (hA : a.keep ≠ [] → ∀ i, slBlk a.kA = some i → ¬ L.own p i) (h : DK w p S L) :
    Calls Try.prog 12 #[.pointer (some ⟨p, 0, none⟩), .agg #[.int .i64 a.d, .int .i64 a.f, .int .i64 a.n, .string a.s, .slice a.kA a.keep.length a.kc]] w fun e w' => e = .returned (.int .i64 (S.doC a)) ∧ Upd p (S.doS a) L w w' := by
  have hb1 : Below w.heap.size w (w.alloc (.cells #[.int .i64 a.d, .int .i64 a.f, .int .i64 a.n, .string a.s, .slice a.kA a.keep.length a.kc] 33)) := (Below.refl _ _).alloc (Nat.le_refl _) _
  have D1 := Lib.hid (h.below hb1)
  have R1 := Lib.hid (ha.rd.now hb1)
  have T1 := Lib.hid (Turn.below (F := L.own p) hb1)
  have HA := Lib.hid ha
  have hM := and7 a.d
  have hfs := hfew.s
  have hfk := hfew.k
  clear hb1 h
  by_cases m2 : a.d % 8 = 2
  · skip
    have e1 : S.doC a = S.syncC a.f := by unfold DS.doC; simp [m2]
    have e2 : S.doS a = S.sync a.f := by unfold DS.doS; simp [m2]
    rw [e1, e2]
    have hM2 : bits BinOp.and IntKind.i64 a.d 7 = 2 := by rw [hM, m2]
    clear e1 e2 hM
    go_enter Try.func12, Try.ntmps12
    go_wp2_with (go_at_call 19; refine (dSync_any p S L _ a.f HA.out.f (by omega) D1.out).mono ?_; rintro e w2 ⟨rfl, hu⟩)
    go_ret
    exact ⟨rfl, Upd.trans T1.out (fun i hi => .inl hi) (fun i hi => .inl hi) hu⟩
  by_cases m3 : a.d % 8 = 3
  · skip
    have e1 : S.doC a = S.truncC a.f a.n := by unfold DS.doC; simp [m3]
    have e2 : S.doS a = S.trunc a.f a.n := by unfold DS.doS; simp [m3]
    rw [e1, e2]
    have hM2 : bits BinOp.and IntKind.i64 a.d 7 = 3 := by rw [hM, m3]
    clear e1 e2 hM
    go_enter Try.func12, Try.ntmps12
    go_wp2_with (go_at_call 30; refine (dTrunc_any p S L _ a.f a.n HA.out.f HA.out.n (by omega) D1.out).mono ?_; rintro e w2 ⟨rfl, hu⟩)
    go_ret
    exact ⟨rfl, Upd.trans T1.out (fun i hi => .inl hi) (fun i hi => .inl hi) hu⟩
  by_cases m4 : a.d % 8 = 4
  · have hN := and3 a.n
    have hN4 : inI64 (a.n % 4) := by unfold inI64; omega
    have e1 : S.doC a = 0 := by unfold DS.doC; simp [m4]
    have e2 : S.doS a = S.lose (a.n % 4) := by unfold DS.doS; simp [m4]
    rw [e1, e2]
    have hM2 : bits BinOp.and IntKind.i64 a.d 7 = 4 := by rw [hM, m4]
    clear e1 e2 hM
    go_enter Try.func12, Try.ntmps12
    go_wp2_with (go_at_call 31; refine (dLose_any p S L _ (a.n % 4) hN4 D1.out).mono ?_; rintro e w2 ⟨rfl, hu⟩)
    go_ret
    exact ⟨rfl, Upd.trans T1.out (fun i hi => .inl hi) (fun i hi => .inl hi) hu⟩
  by_cases m5 : a.d % 8 = 5
  · skip
    have e1 : S.doC a = 0 := by unfold DS.doC; simp [m5]
    have e2 : S.doS a = S.arm a.n a.keep := by unfold DS.doS; simp [m5]
    rw [e1, e2]
    have hM2 : bits BinOp.and IntKind.i64 a.d 7 = 5 := by rw [hM, m5]
    clear e1 e2 hM
    go_enter Try.func12, Try.ntmps12
    go_wp2_with (go_at_call 27; refine (dArm_any p S L _ a.n HA.out.n a.keep a.kA a.keep.length a.kc rfl R1.out (by omega) HA.out.k D1.out).mono ?_; rintro e w2 ⟨rfl, hu⟩)
    go_ret
    exact ⟨rfl, Upd.trans T1.out (fun i hi => .inl hi) (fun i hi => .inl hi) hu⟩
  by_cases m6 : a.d % 8 = 6
  · skip
    have e1 : S.doC a = 0 := by unfold DS.doC; simp [m6]
    have e2 : S.doS a = S.crash a.keep := by unfold DS.doS; simp [m6]
    rw [e1, e2]
    have hM2 : bits BinOp.and IntKind.i64 a.d 7 = 6 := by rw [hM, m6]
    clear e1 e2 hM
    go_enter Try.func12, Try.ntmps12
    go_wp2_with (go_at_call 25; refine (dCrash_any p S L _ a.keep a.kA a.kc R1.out (by omega) hA D1.out).mono ?_; rintro e w2 ⟨rfl, hu⟩)
    go_ret
    exact ⟨rfl, Upd.trans T1.out (fun i hi => .inl hi) (fun i hi => .inl hi) hu⟩
  by_cases m7 : a.d % 8 = 7
  · skip
    have e1 : S.doC a = 0 := by unfold DS.doC; simp [m7]
    have e2 : S.doS a = S.start := by unfold DS.doS; simp [m7]
    rw [e1, e2]
    have hM2 : bits BinOp.and IntKind.i64 a.d 7 = 7 := by rw [hM, m7]
    clear e1 e2 hM
    go_enter Try.func12, Try.ntmps12
    go_wp2_with (go_at_call 26; refine (dStart_any p S L _ D1.out).mono ?_; rintro e w2 ⟨rfl, hu⟩)
    go_ret
    exact ⟨rfl, Upd.trans T1.out (fun i hi => .inl hi) (fun i hi => .inl hi) hu⟩
  have e1 : S.doC a = S.writeC a.f a.n a.s := by unfold DS.doC; simp [m2, m3, m4, m5, m6, m7]
  have e2 : S.doS a = S.write a.f a.n a.s := by unfold DS.doS; simp [m2, m3, m4, m5, m6, m7]
  rw [e1, e2]
  have b2 : (a.d % 8 == 2) = false := by simpa using m2
  have b3 : (a.d % 8 == 3) = false := by simpa using m3
  have b4 : (a.d % 8 == 4) = false := by simpa using m4
  have b5 : (a.d % 8 == 5) = false := by simpa using m5
  have b6 : (a.d % 8 == 6) = false := by simpa using m6
  have b7 : (a.d % 8 == 7) = false := by simpa using m7
  clear e1 e2 m2 m3 m4 m5 m6 m7
  go_enter Try.func12, Try.ntmps12
  go_wp2_with (go_at_call 29; refine (dWrite_any p S L _ a.f a.n a.s HA.out.f HA.out.n (by omega) (by omega) D1.out).mono ?_; rintro e w2 ⟨rfl, hu⟩)
  go_ret
  exact ⟨rfl, Upd.trans T1.out (fun i hi => .inl hi) (fun i hi => .inl hi) hu⟩
theorem doS_wf {S : DS} (h : S.wf) {w : World} {a : ActM} (ha : ActOk w a) : (S.doS a).wf := by
  unfold DS.doS
  have hn := ha.n
  split
  · exact DS.sync0_wf (DS.come_wf h) _
  · split
    · exact DS.trunc0_wf (DS.come_wf h) _ _
    · split
      · exact DS.lose_wf h _ (by unfold inI64; omega)
      · split
        · exact DS.arm_wf h _ _ hn ha.k
        · split
          · exact DS.crash_wf h _
          · split
            · exact DS.start_wf h
            · exact DS.write_wf h _ _ _
theorem come_keep (S : DS) : S.come.keep = S.keep := by
  unfold DS.come DS.crash
  split
  · split <;> simp [DS.tick_keep]
  · exact DS.tick_keep S
theorem crash_keep (S : DS) (k : List Int) : (S.crash k).keep = S.keep := by
  unfold DS.crash
  split <;> rfl
theorem doS_keep {S : DS} (hk : S.keep.length ≤ 60) {a : ActM} (ha : ActFew a) : (S.doS a).keep.length ≤ 60 := by
  have h1 := come_keep S
  unfold DS.doS
  split
  · unfold DS.sync DS.sync0
    split
    · rw [h1]; exact hk
    · split
      · show S.come.keep.length ≤ 60
        rw [h1]
        exact hk
      · show S.come.keep.length ≤ 60
        rw [h1]
        exact hk
  · split
    · unfold DS.trunc DS.trunc0
      split
      · show S.come.keep.length ≤ 60
        rw [h1]
        exact hk
      · rw [h1]; exact hk
    · split
      · exact hk
      · split
        · exact ha.k
        · split
          · rw [crash_keep]; exact hk
          · split
            · exact hk
            · unfold DS.write
              split
              · rw [crash_keep, DS.wr_keep, DS.tick_keep]; exact hk
              · rw [DS.wr_keep, DS.tick_keep]; exact hk

/-! few -/
theorem RdL.act {w : World} {B : Nat} {A : Option Addr} {xs : List ActM} (h : RdL 5 actC w B A xs) {k : Nat} (hk : k < xs.length) : ∃ b off, A = some ⟨b, off, none⟩ ∧ b < B ∧ w.cell? ⟨b, off + k * 5, none⟩ = some (.int .i64 xs[k].d) ∧ w.cell? ⟨b, off + k * 5 + 1, none⟩ = some (.int .i64 xs[k].f) ∧ w.cell? ⟨b, off + k * 5 + 2, none⟩ = some (.int .i64 xs[k].n) ∧
    w.cell? ⟨b, off + k * 5 + 3, none⟩ = some (.string xs[k].s) ∧ w.cell? ⟨b, off + k * 5 + 4, none⟩ = some (.slice xs[k].kA xs[k].keep.length xs[k].kc) := by
  obtain ⟨b, off, e, hb, hc⟩ := h.at_ hk
  exact ⟨b, off, e, hb, hc 0 _ rfl, hc 1 _ rfl, hc 2 _ rfl, hc 3 _ rfl, hc 4 _ rfl⟩
set_option maxHeartbeats 1000000 in
theorem lFew_any (l : List ActM) (A : Option Addr) (c : Nat) (w : World) (hr : RdL 5 actC w w.heap.size A l) (hm : l.length ≤ 9223372036854775807) (hl : ∀ a ∈ l, ActOk w a) :
    Calls Try.prog 9 #[.slice A l.length c] w fun e w' => e = .returned (.bool (fewB l)) ∧ w = w' := by
  have HL := Lib.hid hl
  clear hl
  go_enter Try.func9, Try.ntmps9
  go_wp2
  go_loopw [3] (fun i wr => ∃ k : Nat, k ≤ l.length ∧ i = .int .i64 k ∧ (l.take k).all fewB1 = true ∧ w = wr) (fun i _ => l.length - (intOf i).toNat)
  case atStart => exact ⟨0, Nat.zero_le _, rfl, rfl, rfl⟩
  case round =>
    obtain ⟨k, hk, rfl, hf, rfl⟩ := hrel
    have HF := Lib.hid hf
    clear hf
    by_cases hlt : k < l.length
    · obtain ⟨b, off, rfl, hb, c0, c1, c2, c3, c4⟩ := hr.act hlt
      have hok := HL.out l[k] (List.getElem_mem hlt)
      have hs := hok.s
      have hkl := hok.kl
      have hall : l.all fewB1 = true → fewB1 l[k] = true := fun h => List.all_eq_true.1 h _ (List.getElem_mem hlt)
      have hst : fewB1 l[k] = true → (l.take (k + 1)).all fewB1 = true := fun h => by
        rw [List.take_succ_eq_append_getElem hlt, List.all_append, HF.out]
        simp [h]
      have HAll := Lib.hid hall
      have HSt := Lib.hid hst
      have HD : Hid (fewB1 l[k] = !(decide (300 < (l[k].s.size : Int)) || decide (60 < (l[k].keep.length : Int)) || decide (3000 < l[k].n) && decide (l[k].n < 16776916))) := Lib.hid rfl
      clear hall hst hok
      generalize l[k] = a at *
      by_cases b1 : (300 : Int) < a.s.size
      · have d1 : decide ((300 : Int) < a.s.size) = true := by simpa using b1
        have HV := Lib.hid (show fewB1 a = false by rw [HD.out]; simp [d1])
        go_wp2
        go_ret
        refine ⟨ret_bool ?_, rfl⟩
        cases hx : l.all fewB1
        · unfold fewB
          rw [hx]
          rfl
        · have := HAll.out hx
          rw [HV.out] at this
          cases this
      have d1 : decide ((300 : Int) < a.s.size) = false := by simpa using b1
      by_cases b2 : (60 : Int) < a.keep.length
      · have d2 : decide ((60 : Int) < a.keep.length) = true := by simpa using b2
        have HV := Lib.hid (show fewB1 a = false by rw [HD.out]; simp [d2])
        go_wp2
        go_ret
        refine ⟨ret_bool ?_, rfl⟩
        cases hx : l.all fewB1
        · unfold fewB
          rw [hx]
          rfl
        · have := HAll.out hx
          rw [HV.out] at this
          cases this
      have d2 : decide ((60 : Int) < a.keep.length) = false := by simpa using b2
      by_cases b3 : 3000 < a.n
      · have d3 : decide (3000 < a.n) = true := by simpa using b3
        by_cases b4 : a.n < 16776916
        · have d4 : decide (a.n < 16776916) = true := by simpa using b4
          have HV := Lib.hid (show fewB1 a = false by rw [HD.out]; simp [d3, d4])
          go_wp2
          go_ret
          refine ⟨ret_bool ?_, rfl⟩
          cases hx : l.all fewB1
          · unfold fewB
            rw [hx]
            rfl
          · have := HAll.out hx
            rw [HV.out] at this
            cases this
        · have d4 : decide (a.n < 16776916) = false := by simpa using b4
          have HV := Lib.hid (show fewB1 a = true by rw [HD.out]; simp [d1, d2, d3, d4])
          go_wp2
          go_roundw
          case rel => exact ⟨k + 1, by omega, by go_num, HSt.out HV.out, by first | rfl | trivial⟩
          case measure => simp [intOf]; omega
      · have d3 : decide (3000 < a.n) = false := by simpa using b3
        have HV := Lib.hid (show fewB1 a = true by rw [HD.out]; simp [d1, d2, d3])
        go_wp2
        go_roundw
        case rel => exact ⟨k + 1, by omega, by go_num, HSt.out HV.out, by first | rfl | trivial⟩
        case measure => simp [intOf]; omega
    · have hlen : l.take k = l := List.take_of_length_le (by omega)
      have HFew : Hid (fewB l = decide ((l.length : Int) ≤ 40)) := Lib.hid (by
        unfold fewB
        have h1 := HF.out
        rw [hlen] at h1
        rw [h1]
        rfl)
      go_wp2
      go_ret
      exact ⟨ret_bool HFew.out.symm, rfl⟩
end Go.Proofs.Ytjgeefagnddpfaa
