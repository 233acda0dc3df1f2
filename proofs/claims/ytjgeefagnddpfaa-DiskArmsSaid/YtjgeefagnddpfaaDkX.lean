/- The walk of DiskArms. -/
import Derived.Test.YtjgeefagnddpfaaDkW
namespace Go.Proofs.Ytjgeefagnddpfaa
open Go.RowKit

/-- d at p and c at q, after some acts: the crash is to come, or it has happened. -/
structure AR (B : Nat) (w : World) (p q : Nat) (n : Int) (keep : List Int) (cnt : Int) (D : DS) (L : DL) (C : DS) (M : DL) : Prop where
  two : Two B w p D L q C M
  dk : D.keep.length ≤ 60
  ck : C.keep.length ≤ 60
  c0 : 0 ≤ cnt
  st : (cnt < n ∧ Twin D C (n - cnt) keep) ∨ (n ≤ cnt ∧ Fell D C)
theorem two_new {w w1 w2 : World} {L M : DL} (hb1 : Below w.heap.size w w1) (d : DK w1 (w.heap.size + 2) DS.new L) (o : ∀ i, L.own (w.heap.size + 2) i → w.heap.size ≤ i) (lk : L.kA = none) (hb2 : Below w1.heap.size w1 w2) (m : DK w2 (w1.heap.size + 2) DS.new M) (mo : ∀ i, M.own (w1.heap.size + 2) i → w1.heap.size ≤ i) (mk : M.kA = none) :
    Two w.heap.size w2 (w.heap.size + 2) DS.new L (w1.heap.size + 2) DS.new M :=
  ⟨d.below hb2, m, ⟨o⟩, ⟨fun i hi => Nat.le_trans hb1.size (mo i hi)⟩, (fun i h1 h2 => by have := d.lt i h1; have := mo i h2; omega), (fun i h1 => by rw [lk] at h1; cases h1), (fun i h1 => by rw [mk] at h1; cases h1)⟩
set_option maxRecDepth 100000 in
set_option maxHeartbeats 4000000 in
theorem arms_any (l : List ActM) (A : Option Addr) (c : Nat) (n : Int) (keep : List Int) (kA : Option Addr) (kc : Nat) (w : World) (hr : RdL 5 actC w w.heap.size A l) (hl : ∀ a ∈ l, ActOk w a) (hm : l.length ≤ 9223372036854775807) (hn : inI64 n)
    (hk : RdL 1 intC w w.heap.size kA keep) (hki : ∀ x ∈ keep, inI64 x) (hkm : keep.length ≤ 9223372036854775807) :
    Calls Try.prog 6 #[.slice A l.length c, .int .i64 n, .slice kA keep.length kc] w fun e w' => e = .returned (.bool true) ∧ Below w.heap.size w w' := by
  have HR := Lib.hid hr
  have HL := Lib.hid hl
  have HK := Lib.hid hk
  have HKi := Lib.hid hki
  have hn' := hn
  unfold inI64 at hn'
  clear hr hl hk hki
  go_enter Try.func6, Try.ntmps6
  go_wp2_with fail
  refine (lSmall_any w).mono ?_
  rintro e w1 ⟨rfl, hb1⟩
  have HB := Lib.hid hb1
  have hz := hb1.size
  have F1 := Lib.hid (lFew_any l A c w1 (HR.out.now hb1) hm (acts_now HL.out hb1))
  clear hb1
  cases hf1 : fewB l
  · rw [hf1] at F1
    go_wp2_with fail
    refine F1.out.mono ?_
    rintro e wx ⟨rfl, hw⟩
    obtain rfl := hw
    go_wp2
    go_ret
    exact ⟨rfl, HB.out⟩
  rw [hf1] at F1
  have HF1 := Lib.hid hf1
  clear hf1
  go_wp2_with fail
  refine F1.out.mono ?_
  rintro e wx ⟨rfl, hw⟩
  obtain rfl := hw
  clear F1
  by_cases hk60 : (60 : Int) < keep.length
  · have d1 : decide ((60 : Int) < keep.length) = true := by simpa using hk60
    go_wp2
    go_ret
    exact ⟨rfl, HB.out⟩
  have d1 : decide ((60 : Int) < keep.length) = false := by simpa using hk60
  by_cases g2 : n < 1
  · have d2 : decide (n < 1) = true := by simpa using g2
    go_wp2
    go_ret
    exact ⟨rfl, HB.out⟩
  have d2 : decide (n < 1) = false := by simpa using g2
  by_cases g3 : 60 < n
  · have d3 : decide (60 < n) = true := by simpa using g3
    go_wp2
    go_ret
    exact ⟨rfl, HB.out⟩
  have d3 : decide (60 < n) = false := by simpa using g3
  go_wp2_with fail
  refine (dNew_any w1).mono ?_
  rintro e w2 ⟨rfl, hb2, L0, D0, o0, k0⟩
  go_wp2_with fail
  refine (dNew_any w2).mono ?_
  rintro e w3 ⟨rfl, hb3, M0, m0, mo0, mk0⟩
  have tw := two_new hb2 D0 o0 k0 hb3 m0 mo0 mk0
  have T0 : Hid (Two w.heap.size w3 (w1.heap.size + 2) DS.new L0 (w2.heap.size + 2) DS.new M0) := Lib.hid ⟨tw.l, tw.r, ⟨fun i hi => Nat.le_trans hz (tw.lo.own i hi)⟩, ⟨fun i hi => Nat.le_trans hz (tw.ro.own i hi)⟩, tw.ap, tw.kl, tw.kr⟩
  have HB := Lib.hid ((HB.out.trans (hb2.mono hz)).trans (hb3.mono (Nat.le_trans hz hb2.size)))
  have hz := HB.out.size
  clear hb2 D0 o0 k0 hb3 m0 mo0 mk0 tw
  obtain ⟨p, hp⟩ : ∃ p, p = w1.heap.size + 2 := ⟨_, rfl⟩
  obtain ⟨q, hq⟩ : ∃ q, q = w2.heap.size + 2 := ⟨_, rfl⟩
  rw [← hp, ← hq] at T0
  simp only [← hp, ← hq]
  clear hp hq
  go_wp2_with fail
  refine (dArm_any p DS.new L0 w3 n hn keep kA keep.length kc rfl (HK.out.now HB.out) (by omega) HKi.out T0.out.l).mono ?_
  rintro e w4 ⟨rfl, hu⟩
  obtain ⟨L1, tn, hb4⟩ := T0.out.left hz hu
  have HB := Lib.hid (HB.out.trans hb4)
  have hz := HB.out.size
  have hAR : AR w.heap.size w4 p q n keep 0 (DS.new.arm n keep) L1 DS.new M0 := ⟨tn, by show keep.length ≤ 60; omega, by simp [DS.new], by omega, .inl ⟨by omega, rfl, rfl, rfl, rfl, rfl, by show max n 0 = n - 0; omega, rfl, rfl⟩⟩
  clear hu tn hb4 T0
  go_wp2_with fail
  go_loopw [10, 11, 12, 13] (fun ct i _ _ wr => ∃ (k : Nat) (cnt : Int) (D : DS) (L : DL) (C : DS) (M : DL), k ≤ l.length ∧ i = .int .i64 k ∧ ct = .int .i64 cnt ∧ cnt ≤ k ∧ AR w.heap.size wr p q n keep cnt D L C M ∧ Below w.heap.size w wr) (fun _ i _ _ _ => l.length - (intOf i).toNat)
  case atStart => exact ⟨0, 0, _, L1, _, M0, Nat.zero_le _, rfl, rfl, by omega, hAR, HB.out⟩
  case round =>
    clear hAR HB hz
    obtain ⟨k, cnt, D, L, C, M, hk, rfl, rfl, hck, har, hb⟩ := hrel
    have AR_ := Lib.hid har
    have HB := Lib.hid hb
    have hz := hb.size
    have hc0 := har.c0
    by_cases hlt : k < l.length
    · obtain ⟨b, off, rfl, hbb, c0, c1, c2', c3, c4⟩ := (HR.out.now hb).act hlt
      have HC : Hid (∀ wx, Below w.heap.size w wx → wx.cell? ⟨b, off + k * 5, none⟩ = some (.int .i64 l[k].d) ∧ wx.cell? ⟨b, off + k * 5 + 1, none⟩ = some (.int .i64 l[k].f) ∧ wx.cell? ⟨b, off + k * 5 + 2, none⟩ = some (.int .i64 l[k].n) ∧ wx.cell? ⟨b, off + k * 5 + 3, none⟩ = some (.string l[k].s) ∧ wx.cell? ⟨b, off + k * 5 + 4, none⟩ = some (.slice l[k].kA l[k].keep.length l[k].kc)) := Lib.hid (fun wx hbx => by
        obtain ⟨b', off', e, _, x⟩ := (HR.out.now hbx).act hlt
        injection e with e
        injection e with e1 e2
        subst e1 e2
        exact x)
      have HOk := Lib.hid (HL.out l[k] (List.getElem_mem hlt))
      have HFa := Lib.hid ((few_ok HF1.out).2 l[k] (List.getElem_mem hlt))
      have HDp := Lib.hid (lDo_any p D L wr l[k] (HOk.out.now hb) HFa.out har.dk (fun hne => har.two.lo.apart HOk.out.rd hne) har.two.l)
      have HKp := Lib.hid (doS_keep har.dk HFa.out)
      have HKq := Lib.hid (doS_keep har.ck HFa.out)
      have hM := and7 l[k].d
      clear har hb
      generalize l[k] = a at *
      by_cases m5 : 4 < a.d % 8
      · have d5 : decide (4 < a.d % 8) = true := by simpa using m5
        go_wp2
        go_ret
        exact ⟨rfl, HB.out⟩
      have d5 : decide (4 < a.d % 8) = false := by simpa using m5
      by_cases m4 : a.d % 8 < 4
      · have d4 : decide (a.d % 8 < 4) = true := by simpa using m4
        have b4 : (a.d % 8 == 4) = false := by simp; omega
        rcases AR_.out.st with ⟨hcn, tw⟩ | ⟨hcn, fe⟩
        · by_cases hc1 : cnt + 1 < n
          · obtain ⟨e1, tw'⟩ := tw.act a m4 (by omega)
            have e3 : decide (cnt + 1 < n) = true := by simpa using hc1
            rw [e1] at HDp
            have HTw := Lib.hid tw'
            clear tw tw' e1
            go_wp2_with fail
            refine HDp.out.mono ?_
            rintro e w5 ⟨rfl, hu⟩
            obtain ⟨L5, t5, hb5⟩ := AR_.out.two.left hz hu
            have T5 := Lib.hid t5
            have HB5 := Lib.hid (HB.out.trans hb5)
            have hz5 := HB5.out.size
            clear hu t5 hb5
            have HDq := Lib.hid (lDo_any q C M w5 a (HOk.out.now HB5.out) HFa.out AR_.out.ck (fun hne => T5.out.ro.apart HOk.out.rd hne) T5.out.r)
            obtain ⟨y0, y1, y2, y3, y4⟩ := HC.out w5 HB5.out
            go_wp2_with fail
            refine HDq.out.mono ?_
            rintro e w6 ⟨rfl, hu⟩
            obtain ⟨M6, t6, hb6⟩ := T5.out.right hz5 hu
            have T6 := Lib.hid t6
            have HB6 := Lib.hid (HB5.out.trans hb6)
            clear hu t6 hb6
            go_wp2_with fail
            go_roundw
            case rel => exact ⟨k + 1, cnt + 1, _, L5, _, M6, by omega, by go_num, by first | rfl | go_num, by omega, ⟨T6.out, HKp.out, HKq.out, by omega, .inl ⟨hc1, by rw [show n - (cnt + 1) = n - cnt - 1 by omega]; exact HTw.out⟩⟩, HB6.out⟩
            case measure => simp [intOf]; omega
          · have hc2 : cnt + 1 = n := by omega
            have hnc : n - cnt = 1 := by omega
            rw [hnc] at tw
            obtain ⟨e1, fe⟩ := tw.falls a m4
            have e3 : decide (cnt + 1 < n) = false := by simpa using hc1
            have e4 : (cnt + 1 == n) = true := by simpa using hc2
            rw [e1] at HDp
            have HFe := Lib.hid fe
            clear tw e1 fe hnc
            by_cases m2 : a.d % 8 < 2
            · have d2' : decide (a.d % 8 < 2) = true := by simpa using m2
              rw [if_pos m2] at HFe
              go_wp2_with fail
              refine HDp.out.mono ?_
              rintro e w5 ⟨rfl, hu⟩
              obtain ⟨L5, t5, hb5⟩ := AR_.out.two.left hz hu
              have T5 := Lib.hid t5
              have HB5 := Lib.hid (HB.out.trans hb5)
              have hz5 := HB5.out.size
              clear hu t5 hb5
              have HDq := Lib.hid (lDo_any q C M w5 a (HOk.out.now HB5.out) HFa.out AR_.out.ck (fun hne => T5.out.ro.apart HOk.out.rd hne) T5.out.r)
              obtain ⟨y0, y1, y2, y3, y4⟩ := HC.out w5 HB5.out
              go_wp2_with fail
              refine HDq.out.mono ?_
              rintro e w6 ⟨rfl, hu⟩
              obtain ⟨M6, t6, hb6⟩ := T5.out.right hz5 hu
              have T6 := Lib.hid t6
              have HB6 := Lib.hid (HB5.out.trans hb6)
              clear hu t6 hb6
              have hz6 := HB6.out.size
              have HCr := Lib.hid (dCrash_any q (C.doS a) M6 w6 keep kA kc (HK.out.now HB6.out) (by omega) (fun hne => T6.out.ro.apart HK.out hne) T6.out.r)
              go_wp2_with fail
              refine HCr.out.mono ?_
              rintro e w7 ⟨rfl, hu⟩
              obtain ⟨M7, t7, hb7⟩ := T6.out.right hz6 hu
              have T7 := Lib.hid t7
              have HB7 := Lib.hid (HB6.out.trans hb7)
              clear hu t7 hb7 HCr
              go_wp2_with (go_at_call 14; refine (dDown_any p _ L5 _ (T7.out.l)).mono ?_; rintro e wx ⟨rfl, hw⟩; obtain rfl := hw.symm; rw [HFe.out.dd])
              go_roundw
              case rel => exact ⟨k + 1, cnt + 1, _, L5, _, M7, by omega, by go_num, by first | rfl | go_num, by omega, ⟨T7.out, HKp.out, by rw [crash_keep]; exact HKq.out, by omega, .inr ⟨by omega, HFe.out⟩⟩, HB7.out⟩
              case measure => simp [intOf]; omega
            · have d2' : decide (a.d % 8 < 2) = false := by simpa using m2
              rw [if_neg m2] at HFe
              go_wp2_with fail
              refine HDp.out.mono ?_
              rintro e w5 ⟨rfl, hu⟩
              obtain ⟨L5, t5, hb5⟩ := AR_.out.two.left hz hu
              have T5 := Lib.hid t5
              have HB5 := Lib.hid (HB.out.trans hb5)
              have hz5 := HB5.out.size
              clear hu t5 hb5
              have HCr := Lib.hid (dCrash_any q C M w5 keep kA kc (HK.out.now HB5.out) (by omega) (fun hne => T5.out.ro.apart HK.out hne) T5.out.r)
              go_wp2_with fail
              refine HCr.out.mono ?_
              rintro e w7 ⟨rfl, hu⟩
              obtain ⟨M7, t7, hb7⟩ := T5.out.right hz5 hu
              have T7 := Lib.hid t7
              have HB7 := Lib.hid (HB5.out.trans hb7)
              clear hu t7 hb7 HCr
              go_wp2_with (go_at_call 14; refine (dDown_any p _ L5 _ (T7.out.l)).mono ?_; rintro e wx ⟨rfl, hw⟩; obtain rfl := hw.symm; rw [HFe.out.dd])
              go_roundw
              case rel => exact ⟨k + 1, cnt + 1, _, L5, _, M7, by omega, by go_num, by first | rfl | go_num, by omega, ⟨T7.out, HKp.out, by rw [crash_keep]; exact AR_.out.ck, by omega, .inr ⟨by omega, HFe.out⟩⟩, HB7.out⟩
              case measure => simp [intOf]; omega
        · obtain ⟨e1, e2, e3⟩ := down_same fe.dd a (by omega)
          have e5 := e3 m4
          have e6 : decide (cnt + 1 < n) = false := by simp; omega
          have e7 : (cnt + 1 == n) = false := by simp; omega
          rw [e5] at HDp
          have HFe : Hid (Fell (D.doS a) C) := Lib.hid ⟨e1.trans fe.files, e2, fe.cd⟩
          clear fe e1 e2 e3 e5
          go_wp2_with fail
          refine HDp.out.mono ?_
          rintro e w5 ⟨rfl, hu⟩
          obtain ⟨L5, t5, hb5⟩ := AR_.out.two.left hz hu
          have T5 := Lib.hid t5
          have HB5 := Lib.hid (HB.out.trans hb5)
          have hz5 := HB5.out.size
          clear hu t5 hb5
          go_wp2_with (go_at_call 14; refine (dDown_any p _ L5 _ (T5.out.l)).mono ?_; rintro e wx ⟨rfl, hw⟩; obtain rfl := hw.symm; rw [HFe.out.dd])
          go_roundw
          case rel => exact ⟨k + 1, cnt + 1, _, L5, C, M, by omega, by go_num, by first | rfl | go_num, by omega, ⟨T5.out, HKp.out, AR_.out.ck, by omega, .inr ⟨by omega, HFe.out⟩⟩, HB5.out⟩
          case measure => simp [intOf]; omega
      · have d4 : decide (a.d % 8 < 4) = false := by simpa using m4
        have m44 : a.d % 8 = 4 := by omega
        have b4 : (a.d % 8 == 4) = true := by simpa using m44
        rcases AR_.out.st with ⟨hcn, tw⟩ | ⟨hcn, fe⟩
        · obtain ⟨e1, tw'⟩ := tw.lose a m44
          have e3 : decide (cnt < n) = true := by simpa using hcn
          rw [e1] at HDp
          have HTw := Lib.hid tw'
          clear tw tw' e1
          go_wp2_with fail
          refine HDp.out.mono ?_
          rintro e w5 ⟨rfl, hu⟩
          obtain ⟨L5, t5, hb5⟩ := AR_.out.two.left hz hu
          have T5 := Lib.hid t5
          have HB5 := Lib.hid (HB.out.trans hb5)
          have hz5 := HB5.out.size
          clear hu t5 hb5
          have HDq := Lib.hid (lDo_any q C M w5 a (HOk.out.now HB5.out) HFa.out AR_.out.ck (fun hne => T5.out.ro.apart HOk.out.rd hne) T5.out.r)
          obtain ⟨y0, y1, y2, y3, y4⟩ := HC.out w5 HB5.out
          go_wp2_with fail
          refine HDq.out.mono ?_
          rintro e w6 ⟨rfl, hu⟩
          obtain ⟨M6, t6, hb6⟩ := T5.out.right hz5 hu
          have T6 := Lib.hid t6
          have HB6 := Lib.hid (HB5.out.trans hb6)
          clear hu t6 hb6
          go_wp2_with fail
          go_roundw
          case rel => exact ⟨k + 1, cnt, _, L5, _, M6, by omega, by go_num, by first | rfl | go_num, by omega, ⟨T6.out, HKp.out, HKq.out, by omega, .inl ⟨hcn, HTw.out⟩⟩, HB6.out⟩
          case measure => simp [intOf]; omega
        · obtain ⟨e1, e2, _⟩ := down_same fe.dd a (by omega)
          have e6 : decide (cnt < n) = false := by simp; omega
          have HFe : Hid (Fell (D.doS a) C) := Lib.hid ⟨e1.trans fe.files, e2, fe.cd⟩
          clear fe e1 e2
          have d2' : decide (a.d % 8 < 2) = false := by simp; omega
          by_cases hcc : cnt = n
          · have e7 : (cnt == n) = true := by simpa using hcc
            go_wp2_with fail
            refine HDp.out.mono ?_
            rintro e w5 ⟨rfl, hu⟩
            obtain ⟨L5, t5, hb5⟩ := AR_.out.two.left hz hu
            have T5 := Lib.hid t5
            have HB5 := Lib.hid (HB.out.trans hb5)
            have hz5 := HB5.out.size
            clear hu t5 hb5
            go_wp2_with (go_at_call 14; refine (dDown_any p _ L5 _ (T5.out.l)).mono ?_; rintro e wx ⟨rfl, hw⟩; obtain rfl := hw.symm; rw [HFe.out.dd])
            go_roundw
            case rel => exact ⟨k + 1, cnt, _, L5, C, M, by omega, by go_num, by first | rfl | go_num, by omega, ⟨T5.out, HKp.out, AR_.out.ck, by omega, .inr ⟨by omega, HFe.out⟩⟩, HB5.out⟩
            case measure => simp [intOf]; omega
          · have e7 : (cnt == n) = false := by simpa using hcc
            go_wp2_with fail
            refine HDp.out.mono ?_
            rintro e w5 ⟨rfl, hu⟩
            obtain ⟨L5, t5, hb5⟩ := AR_.out.two.left hz hu
            have T5 := Lib.hid t5
            have HB5 := Lib.hid (HB.out.trans hb5)
            have hz5 := HB5.out.size
            clear hu t5 hb5
            go_wp2_with (go_at_call 14; refine (dDown_any p _ L5 _ (T5.out.l)).mono ?_; rintro e wx ⟨rfl, hw⟩; obtain rfl := hw.symm; rw [HFe.out.dd])
            go_roundw
            case rel => exact ⟨k + 1, cnt, _, L5, C, M, by omega, by go_num, by first | rfl | go_num, by omega, ⟨T5.out, HKp.out, AR_.out.ck, by omega, .inr ⟨by omega, HFe.out⟩⟩, HB5.out⟩
            case measure => simp [intOf]; omega
    · have hdn : D.down = C.down := by
        rcases har.st with ⟨_, tw⟩ | ⟨_, fe⟩
        · rw [tw.dd, tw.cd]
        · rw [fe.dd, fe.cd]
      have hfl : ∀ f, (D.files f).1 = (C.files f).1 := by
        rcases har.st with ⟨_, tw⟩ | ⟨_, fe⟩
        · intro f; rw [tw.files]
        · intro f; rw [fe.files]
      have HFl := Lib.hid hfl
      have HSa := Lib.hid (lSame_any p q D C L M l A c wr har.two.l har.two.r (HR.out.now hb) (acts_now HL.out hb) hm hdn hfl)
      clear har hb hdn hfl
      go_wp2_with fail
      refine HSa.out.mono ?_
      rintro e w5 ⟨rfl, hb5⟩
      have T5 := Lib.hid (AR_.out.two.below hb5)
      have HB5 := Lib.hid (HB.out.trans (hb5.mono hz))
      have hz5 := HB5.out.size
      clear hb5 HSa
      go_wp2_with fail
      refine (dStart_any p D L w5 T5.out.l).mono ?_
      rintro e w6 ⟨rfl, hu⟩
      obtain ⟨L6, t6, hb6⟩ := T5.out.left hz5 hu
      have HB6 := Lib.hid (HB5.out.trans hb6)
      have hz6 := HB6.out.size
      clear hu hb6
      go_wp2_with fail
      refine (dStart_any q C M w6 t6.r).mono ?_
      rintro e w7 ⟨rfl, hu⟩
      obtain ⟨M7, t7, hb7⟩ := t6.right hz6 hu
      have HB7 := Lib.hid (HB6.out.trans hb7)
      have hz7 := HB7.out.size
      have HSb := Lib.hid (lSame_any p q D.start C.start L6 M7 l A c w7 t7.l t7.r (HR.out.now HB7.out) (acts_now HL.out HB7.out) hm rfl HFl.out)
      clear hu hb7 t6 t7
      go_wp2_with fail
      refine HSb.out.mono ?_
      rintro e w8 ⟨rfl, hb8⟩
      have HB8 := Lib.hid (HB7.out.trans (hb8.mono hz7))
      clear hb8
      go_wp2
      go_ret
      exact ⟨rfl, HB8.out⟩
end Go.Proofs.Ytjgeefagnddpfaa
