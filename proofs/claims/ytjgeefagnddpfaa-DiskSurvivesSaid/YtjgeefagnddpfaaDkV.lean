/- The walk of DiskSurvives. -/
import Derived.Test.YtjgeefagnddpfaaDkQ
import Derived.Test.YtjgeefagnddpfaaDkS
namespace Go.Proofs.Ytjgeefagnddpfaa
open Go.RowKit

theorem gb_get (x : ByteArray) (n : Nat) (h : n < x.size) : gb x n = x[n] := by
  rw [← byte_get x n h, List.getD_eq_getElem?_getD]
  rfl
theorem byteB_gb (x : ByteArray) (n : Nat) : byteB x n = ((gb x n).toNat : Int) := by
  unfold byteB gb
  have h1 := dlen x
  split
  · rw [List.getElem?_eq_none (by omega)]
    rfl
  · rw [List.getD_eq_getElem?_getD]
    rfl
set_option maxRecDepth 100000 in
set_option maxHeartbeats 4000000 in
theorem survives_any (l : List ActM) (A : Option Addr) (c : Nat) (f : Int) (keep : List Int) (kA : Option Addr) (kc : Nat) (w : World) (hr : RdL 5 actC w w.heap.size A l) (hl : ∀ a ∈ l, ActOk w a) (hm : l.length ≤ 9223372036854775807) (hf : inI64 f)
    (hk : RdL 1 intC w w.heap.size kA keep) (hkm : keep.length ≤ 9223372036854775807) :
    Calls Try.prog 4 #[.slice A l.length c, .int .i64 f, .slice kA keep.length kc] w fun e w' => e = .returned (.bool true) ∧ Below w.heap.size w w' := by
  have HR := Lib.hid hr
  have HL := Lib.hid hl
  have HK := Lib.hid hk
  clear hr hl hk
  go_enter Try.func4, Try.ntmps4
  go_wp2_with fail
  refine (lSmall_any w).mono ?_
  rintro e w1 ⟨rfl, hb1⟩
  have HB := Lib.hid hb1
  have hz := hb1.size
  have F1 := Lib.hid (lFew_any l A c w1 (HR.out.now hb1) hm (acts_now HL.out hb1))
  clear hb1
  cases hf1 : fewB l
  · rw [hf1] at F1
    go_wp2_with fail
    refine F1.out.mono ?_
    rintro e wx ⟨rfl, hw⟩
    obtain rfl := hw
    go_wp2
    go_ret
    exact ⟨rfl, HB.out⟩
  rw [hf1] at F1
  have HF1 := Lib.hid hf1
  clear hf1
  go_wp2_with fail
  refine F1.out.mono ?_
  rintro e wx ⟨rfl, hw⟩
  obtain rfl := hw
  clear F1
  by_cases hk60 : (60 : Int) < keep.length
  · have d1 : decide ((60 : Int) < keep.length) = true := by simpa using hk60
    go_wp2
    go_ret
    exact ⟨rfl, HB.out⟩
  have d1 : decide ((60 : Int) < keep.length) = false := by simpa using hk60
  go_wp2_with fail
  refine (lPlayed_any l A c w1 (HR.out.now HB.out) (acts_now HL.out HB.out) HF1.out).mono ?_
  rintro e w2 ⟨p, L, rfl, D, O, hb2⟩
  have HB := Lib.hid (HB.out.trans (hb2.mono hz))
  have hz := HB.out.size
  have hinv := play_inv l DS.new Inv.new
  generalize playS DS.new l = S at *
  have HD := Lib.hid D
  clear hb2 D O
  have hnow := HD.out.wf.now f
  have RZ := Lib.hid (dSize_any p S L w2 f hf HD.out)
  go_wp2_with fail
  refine (dDown_any p S L w2 HD.out).mono ?_
  rintro e wx ⟨rfl, hw⟩
  obtain rfl := hw.symm
  by_cases hdn1 : S.down = true
  · rw [hdn1]
    go_wp2
    go_ret
    exact ⟨rfl, HB.out⟩
  have hdn : S.down = false := by simpa using hdn1
  clear hdn1
  by_cases g5 : f < 0
  · have d5 : decide (f < 0) = true := by simpa using g5
    go_wp2
    go_ret
    exact ⟨rfl, HB.out⟩
  have d5 : decide (f < 0) = false := by simpa using g5
  by_cases g6 : 15 < f
  · have d6 : decide (15 < f) = true := by simpa using g6
    go_wp2
    go_ret
    exact ⟨rfl, HB.out⟩
  have d6 : decide (15 < f) = false := by simpa using g6
  have f0 : 0 ≤ f := by omega
  have f1 : f < 16 := by omega
  obtain ⟨a1, a2⟩ := after_plain HD.out.wf hdn f0 f1 []
  obtain ⟨b1, b2⟩ := after_plain HD.out.wf hdn f0 f1 [1]
  obtain ⟨c1, c2⟩ := after_plain HD.out.wf hdn f0 f1 keep
  have b3 := (survives_plain HD.out.wf hinv f [1]).2.2.2 keep_all
  obtain ⟨s1, s2, s3, _⟩ := survives_plain HD.out.wf hinv f keep
  rw [survQ_nil] at a2
  rw [b3] at b2
  have hrc : S.readC f 0 16777216 = 0 := by unfold DS.readC; rw [may_zero hdn f0 f1, if_neg (by omega), if_neg (by omega)]
  have hrs : S.readS f 0 16777216 = (S.files f).1 := by rw [readS_eq hrc, readX_all _ _ (by omega)]
  clear b3 hinv
  rw [← c2] at s1 s2 s3
  generalize hx : (S.files f).1 = now at *
  generalize hy : (S.files f).2 = last at *
  generalize hR : afterS S f keep = R at *
  by_cases g7 : (100000 : Int) < now.size
  · have d7 : decide ((100000 : Int) < now.size) = true := by simpa using g7
    go_wp2_with (go_at_call 16; refine RZ.out.mono ?_; rintro e wx ⟨rfl, hw⟩; obtain rfl := hw.symm)
    go_ret
    exact ⟨rfl, HB.out⟩
  have d7 : decide ((100000 : Int) < now.size) = false := by simpa using g7
  go_wp2_with (go_at_call 16; refine RZ.out.mono ?_; rintro e wx ⟨rfl, hw⟩; obtain rfl := hw.symm)
  clear RZ
  have R1 := Lib.hid (dRead_any p S L w2 f 0 16777216 hf HD.out)
  rw [hrc, hrs] at R1
  refine R1.out.mono ?_
  rintro e wx ⟨rfl, hw⟩
  obtain rfl := hw.symm
  clear R1 hrc hrs
  go_wp2_with fail
  have R2 := Lib.hid (lAfter_any p S L w2 f hf [] none 0 0 rfl RdL.nil_ (by simp) HD.out)
  rw [a1, a2] at R2
  refine R2.out.mono ?_
  rintro e w3 ⟨rfl, hb3⟩
  have HD3 := Lib.hid (HD.out.below hb3)
  have HB := Lib.hid (HB.out.trans (hb3.mono hz))
  have hz := HB.out.size
  clear R2 hb3 HD a1 a2
  go_wp2_with fail
  have hb4 : Below w3.heap.size w3 (w3.alloc (.cells #[.int .i64 1] 3)) := (Below.refl _ _).alloc (Nat.le_refl _) _
  have HD4 := Lib.hid (HD3.out.below hb4)
  have HB := Lib.hid (HB.out.trans (hb4.mono hz))
  have hz := HB.out.size
  have K1 := Lib.hid (keep_one (w := w3) [1] #[.int .i64 1] 3 rfl)
  have R3 := Lib.hid (lAfter_any p S L _ f hf [1] _ 1 1 rfl K1.out (by simp) HD4.out)
  rw [b1, b2] at R3
  refine R3.out.mono ?_
  rintro e w4 ⟨rfl, hb5⟩
  have HD5 := Lib.hid (HD4.out.below hb5)
  have HB := Lib.hid (HB.out.trans (hb5.mono hz))
  have hz := HB.out.size
  clear R3 hb4 hb5 HD3 HD4 K1 b1 b2
  go_wp2_with fail
  have R4 := Lib.hid (lAfter_any p S L w4 f hf keep kA keep.length kc rfl (HK.out.now HB.out) (by omega) HD5.out)
  rw [c1, hR] at R4
  refine R4.out.mono ?_
  rintro e w5 ⟨rfl, hb6⟩
  have HB := Lib.hid (HB.out.trans (hb6.mono hz))
  have hz := HB.out.size
  have HE := Lib.hid s3
  have e1 : decide (R.size < last.size) = false := by simp; omega
  have e2 : decide (now.size < R.size) = false := by simp; omega
  clear R4 hb6 HD5 c1 c2 hR s3 hx hy
  go_wp2_with fail
  go_loopw [17, 18, 19, 20] (fun i _ _ _ wr => ∃ k : Nat, i = .int .i64 k ∧ 64 * k ≤ R.size + 64 ∧ Below w.heap.size w wr) (fun i _ _ _ _ => R.size + 64 - (64 * (intOf i).toNat))
  case atStart => exact ⟨0, rfl, by omega, HB.out⟩
  case round =>
    clear HB hz
    obtain ⟨k, rfl, hk, hb⟩ := hrel
    have HB := Lib.hid hb
    clear hb
    obtain ⟨wo, rfl⟩ : ∃ x, x = wr := ⟨_, rfl⟩
    by_cases hlt : 64 * k < R.size
    · have hei := HE.out k
      obtain ⟨PN, hPN⟩ : ∃ P : Prop, P = (∀ i, i / 64 = k → i < now.size → gb R i = gb now i) := ⟨_, rfl⟩
      obtain ⟨PO, hPO⟩ : ∃ P : Prop, P = (∀ i, i / 64 = k → gb R i = gb last i) := ⟨_, rfl⟩
      rw [← hPN, ← hPO] at hei
      have HEi := Lib.hid hei
      have HPN := Lib.hid hPN
      have HPO := Lib.hid hPO
      clear hei hPN hPO
      have e3 : decide (64 * (k : Int) < (R.size : Int)) = true := by simp; omega
      go_wp2_with fail
      go_loopw [18, 19, 20] (fun nw ol i wr => ∃ (n1 o1 : Bool) (j : Nat), nw = .bool n1 ∧ ol = .bool o1 ∧ i = .int .i64 j ∧ 64 * k ≤ j ∧ j ≤ 64 * k + 64 ∧ (PN → n1 = true) ∧ (PO → o1 = true) ∧ Below w.heap.size w wr) (fun _ _ i _ => 64 * k + 64 - (intOf i).toNat)
      case atStart => exact ⟨true, true, 64 * k, rfl, rfl, by go_num, by omega, by omega, fun _ => rfl, fun _ => rfl, HB.out⟩
      case round =>
        clear HB
        obtain ⟨n1, o1, j, rfl, rfl, rfl, hj1, hj2, hn1, ho1, hb⟩ := hrel
        have HB := Lib.hid hb
        have HN := Lib.hid hn1
        have HO := Lib.hid ho1
        clear hb hn1 ho1
        by_cases hin : j < 64 * k + 64 ∧ j < R.size
        · obtain ⟨i1, i2⟩ := hin
          have i3 : j < now.size := by omega
          have hjk : j / 64 = k := by omega
          have PNj := Lib.hid (show PN → (((R[j]'i2).toNat : Int) == ((now[j]'i3).toNat : Int)) = true from fun h => by
            rw [HPN.out] at h
            have h1 := h j hjk i3
            rw [gb_get R j i2, gb_get now j i3] at h1
            rw [h1]
            simp)
          have POj := Lib.hid (show PO → (((R[j]'i2).toNat : Int) == byteB last j) = true from fun h => by
            rw [HPO.out] at h
            have h1 := h j hjk
            rw [gb_get R j i2] at h1
            rw [h1, byteB_gb]
            simp)
          clear hjk
          cases n1
          · cases o1
            · skip
              go_wp2_with fail
              go_quiet (fail)
              have HBq := Lib.hid (below_drewN HB.out nq)
              generalize wr.drewN nq = wq at *
              go_wp2_with fail
              go_quiet (fail)
              have HBr := Lib.hid (below_drewN HBq.out nq)
              generalize wq.drewN nq = wz at *
              go_wp2_with fail
              go_roundw
              case rel => exact ⟨_, _, j + 1, rfl, rfl, by go_num, by omega, by omega, HN.out, HO.out, HBr.out⟩
              case measure => simp [intOf]; omega
            · skip
              go_wp2_with fail
              go_quiet (fail)
              have HBq := Lib.hid (below_drewN HB.out nq)
              generalize wr.drewN nq = wq at *
              go_wp2_with fail
              go_quiet (exact Calls.quiet_of_same (lByteAt_any last j _))
              have HBr := Lib.hid (below_drewN HBq.out nq)
              generalize wq.drewN nq = wz at *
              go_wp2_with fail
              go_roundw
              case rel => exact ⟨_, _, j + 1, rfl, rfl, by go_num, by omega, by omega, HN.out, POj.out, HBr.out⟩
              case measure => simp [intOf]; omega
          · cases o1
            · skip
              go_wp2_with fail
              go_quiet (fail)
              have HBq := Lib.hid (below_drewN HB.out nq)
              generalize wr.drewN nq = wq at *
              go_wp2_with fail
              go_quiet (fail)
              have HBr := Lib.hid (below_drewN HBq.out nq)
              generalize wq.drewN nq = wz at *
              go_wp2_with fail
              go_roundw
              case rel => exact ⟨_, _, j + 1, rfl, rfl, by go_num, by omega, by omega, PNj.out, HO.out, HBr.out⟩
              case measure => simp [intOf]; omega
            · skip
              go_wp2_with fail
              go_quiet (fail)
              have HBq := Lib.hid (below_drewN HB.out nq)
              generalize wr.drewN nq = wq at *
              go_wp2_with fail
              go_quiet (exact Calls.quiet_of_same (lByteAt_any last j _))
              have HBr := Lib.hid (below_drewN HBq.out nq)
              generalize wq.drewN nq = wz at *
              go_wp2_with fail
              go_roundw
              case rel => exact ⟨_, _, j + 1, rfl, rfl, by go_num, by omega, by omega, PNj.out, POj.out, HBr.out⟩
              case measure => simp [intOf]; omega
        · have hor : n1 = true ∨ o1 = true := by
            rcases HEi.out with h | h
            · exact .inl (HN.out h)
            · exact .inr (HO.out h)
          have HOr := Lib.hid hor
          clear hor
          by_cases i1 : j < 64 * k + 64
          · have i2 : ¬ j < R.size := fun h => hin ⟨i1, h⟩
            clear hin
            rcases HOr.out with h | h
            · subst h
              go_wp2_with fail
              go_roundw
              case rel => exact ⟨k + 1, by go_num, by omega, HB.out⟩
              case measure => simp [intOf]; omega
            · subst h
              cases n1
              · go_wp2_with fail
                go_roundw
                case rel => exact ⟨k + 1, by go_num, by omega, HB.out⟩
                case measure => simp [intOf]; omega
              · go_wp2_with fail
                go_roundw
                case rel => exact ⟨k + 1, by go_num, by omega, HB.out⟩
                case measure => simp [intOf]; omega
          · clear hin
            rcases HOr.out with h | h
            · subst h
              go_wp2_with fail
              go_roundw
              case rel => exact ⟨k + 1, by go_num, by omega, HB.out⟩
              case measure => simp [intOf]; omega
            · subst h
              cases n1
              · go_wp2_with fail
                go_roundw
                case rel => exact ⟨k + 1, by go_num, by omega, HB.out⟩
                case measure => simp [intOf]; omega
              · go_wp2_with fail
                go_roundw
                case rel => exact ⟨k + 1, by go_num, by omega, HB.out⟩
                case measure => simp [intOf]; omega
    · go_wp2_with fail
      go_ret
      exact ⟨rfl, HB.out⟩
end Go.Proofs.Ytjgeefagnddpfaa
