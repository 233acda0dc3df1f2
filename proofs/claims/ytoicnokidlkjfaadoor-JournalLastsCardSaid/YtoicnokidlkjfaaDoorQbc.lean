/- Contracts and plain laws, joined: JnV. -/
import Derived.Test.YtoicnokidlkjfaaDoorQbb
import Derived.Test.YtoicnokidlkjfaaDoorQao
import Derived.Deep.CutBlock
/- The walk of JournalLasts. -/
namespace Go.Proofs.YtoicnokidlkjfaaDoor
open Go.RowKit
set_option maxRecDepth 100000

-- sameAfter A | LIST | C : the test behind an Append that failed (HL9, at w9; HRr: the records are as before)
-- lastOpen S: behind the crash (HL4: S, D4, w4; HB4; HIc; HLs)
set_option maxHeartbeats 8000000 in
theorem lasts_any (l : List OpM) (A : Option Addr) (c : Nat) (keep : List Int) (kA : Option Addr) (kc : Nat) (w : World) (hV : Vs w.heap.size w)
    (hr : RdL 4 opC w w.heap.size A l) (hl : ∀ a ∈ l, OpOk w a) (hm : l.length ≤ 9223372036854775807)
    (hk : RdL 1 intC w w.heap.size kA keep) (hkm : keep.length ≤ 9223372036854775807) (hki : ∀ x ∈ keep, inI64 x) :
    Calls Tryd.prog 6 #[.slice A l.length c, .slice kA keep.length kc] w fun e w' => e = .returned (.bool true) ∧ Below w.heap.size w w' := by
  have HV := Lib.hid hV
  have HR := Lib.hid hr
  have HL := Lib.hid hl
  have HKp := Lib.hid hk
  have HKi := Lib.hid hki
  clear hV hr hl hk hki
  go_enter Tryd.func6, Tryd.ntmps6
  go_wp2_with fail
  refine (small_any w HV.out).mono ?_
  rintro e w1 ⟨rfl, hb1⟩
  have HB1 := Lib.hid hb1
  have HF1 := Lib.hid (lFewO_any l A c w1 (HR.out.now hb1) hm (fun a ha => (HL.out a ha).now hb1))
  clear hb1
  cases hf1 : fewO l with
  | false =>
    rw [hf1] at HF1
    go_wp2_with fail
    refine HF1.out.mono ?_
    rintro e wx ⟨rfl, hw⟩
    obtain rfl := hw
    go_wp2_with fail
    go_ret
    exact ⟨rfl, HB1.out⟩
  | true =>
  rw [hf1] at HF1
  have HFew := Lib.hid (fewO_ok hf1)
  have h25 := HFew.out.1
  clear hf1
  go_wp2_with fail
  refine HF1.out.mono ?_
  rintro e wx ⟨rfl, hw⟩
  obtain rfl := hw
  clear HF1
  by_cases h1 : (50 : Int) < keep.length
  · have d1 : decide ((50 : Int) < keep.length) = true := by simpa using h1
    clear h1
    go_wp2_with fail
    go_ret
    exact ⟨rfl, HB1.out⟩
  have d1 : decide ((50 : Int) < keep.length) = false := by simpa using h1
  go_wp2_with fail
  refine (dNew_any w1).mono ?_
  rintro e w2 ⟨rfl, hb2, D0, hd0, ho0, -⟩
  have hz1 := HB1.out.size
  have H0 : Hid (St w ((dOb (w1.heap.size + 2) DS.new D0).sep Ob.nil) w2) := Lib.hid (St.nil ⟨hd0, HB1.out.trans (hb2.mono hz1), fun i hi => Nat.le_trans hz1 (ho0 i hi)⟩)
  generalize w1.heap.size + 2 = p at *
  clear hb2 hd0 ho0 HB1 hz1
  have hk1 : (openS DS.new 3).keep.length = 0 := by rw [openS_keep]; rfl
  obtain ⟨hc1, hj1, -⟩ := up_open Up.new (f := 3) ⟨by decide, by decide⟩
  rw [now_new, recs_none nextJ_nil] at hj1
  have HI1 : Hid (LInv (openS DS.new 3) (some ⟨3, [], false⟩) [] [] 0) := Lib.hid (by
    rcases lasts_open lasts_new with ⟨_, ⟨m, _, hm⟩, _, hi⟩ | ⟨hc, _⟩
    · rw [hj1] at hi
      exact linv_at hi (Nat.le_refl _)
    · rw [hc1] at hc
      exfalso
      rcases hc with h | h <;> simp at h)
  have HO := open_some hc1
  go_wp2_with fail
  refine (open_any2 HV.out H0.out (f := 3) (by unfold inI64; omega) (by decide)).mono ?_
  rintro e w3 ⟨D1, X, v, rfl, hst, hj⟩
  rw [HO, hj1] at hj
  rw [hc1]
  obtain ⟨q, M, rfl, rfl⟩ := hj
  have HR1 : Hid (LastR w p (.pointer (some ⟨q, 0, none⟩)) 0 (openS DS.new 3) D1 (some ⟨3, [], false⟩) (jOb q p ⟨3, [], false⟩ M) ⟨none, [], 0⟩ ⟨none, [], 0⟩ w3) :=
    Lib.hid ⟨⟨q, M, rfl, rfl⟩, hst.forget, HI1.out, by omega, ⟨RdK.nil_, by simp, by simp⟩, ⟨RdK.nil_, by simp, by simp⟩⟩
  clear hst HI1 hk1 H0 HO hj1 hc1
  generalize openS DS.new 3 = S1 at *
  go_wp2_with fail
  go_loopw [7, 9, 10, 11] (fun v al su i wr => ∃ (k : Nat) (S : DS) (D : DL) (J : Option JS) (X : Ob) (alM suM : SlM), k ≤ l.length + 1 ∧ i = .int .i64 k ∧ al = alM.v ∧ su = suM.v ∧ LastR w p v k S D J X alM suM wr) (fun _ _ _ i _ => l.length + 1 - (intOf i).toNat)
  case atStart => exact ⟨0, S1, D1, _, _, ⟨none, [], 0⟩, ⟨none, [], 0⟩, Nat.zero_le _, rfl, rfl, rfl, HR1.out⟩
  case round =>
    clear HR1
    obtain ⟨k, S, D, J, X, alM, suM, hk, rfl, rfl, rfl, hst⟩ := hrel
    have HSt := Lib.hid hst
    clear hst
    by_cases hlt : k ≤ l.length
    rotate_left
    · have d2 : decide (k ≤ l.length) = false := by simpa using hlt
      have d3 : decide ((k : Int) ≤ (l.length : Int)) = false := decide_eq_false (by omega)
      go_wp2_with fail
      go_ret
      exact ⟨rfl, HSt.out.st.bl⟩
    have d2 : decide (k ≤ l.length) = true := by simpa using hlt
    have d3 : decide ((k : Int) ≤ (l.length : Int)) = true := decide_eq_true (by omega)
    go_upto_if 49 with fail
    have hbA := (Below.refl wr.heap.size wr).alloc (Nat.le_refl _) (.cells #[.int .i64 4, .string ⟨#[]⟩, .int .i64 0, .slice kA keep.length kc] 52)
    have HBx : Hid ((wr.alloc (.cells #[.int .i64 4, .string ⟨#[]⟩, .int .i64 0, .slice kA keep.length kc] 52)).heap[wr.heap.size]? = some (.cells #[.int .i64 4, .string ⟨#[]⟩, .int .i64 0, .slice kA keep.length kc] 52 (0, 0))) := Lib.hid (heap_alloc_new _ _)
    have HLr := Lib.hid (HSt.out.on hbA)
    have HAp : Hid (¬ ((dOb p S D).sep X).own wr.heap.size) := Lib.hid (fun h => by have := ((dOb p S D).sep X).lt wr HSt.out.st.ok _ (.inl h); omega)
    obtain ⟨b, hb⟩ : ∃ b, b = wr.heap.size := ⟨_, rfl⟩
    have HLt : Hid (b < (wr.alloc (.cells #[.int .i64 4, .string ⟨#[]⟩, .int .i64 0, .slice kA keep.length kc] 52)).heap.size) := Lib.hid (by rw [hb]; simp)
    rw [← hb] at HBx HAp ⊢
    have HBlt : Hid (w.heap.size ≤ b) := Lib.hid (by rw [hb]; exact HSt.out.st.bl.size)
    have HBe := Lib.hid hb
    have HBw := Lib.hid hbA
    clear hb hbA
    generalize wr.alloc (.cells #[.int .i64 4, .string ⟨#[]⟩, .int .i64 0, .slice kA keep.length kc] 52) = wa at *
    go_cut [57] from 46 to 57 (fun _ wx => ∃ (a : OpM) (S' : DS) (D' : DL), RoundR w p b a (k = l.length) u7 k S' D' J X alM suM wx)
    case first =>
      by_cases hkl : k < l.length
      · have d4 : decide (k < l.length) = true := decide_eq_true hkl
        obtain ⟨b0, off, hA, hb0, c0, c1, c2, c3⟩ := (HR.out.now HLr.out.st.bl).op hkl
        have hok := HL.out l[k] (List.getElem_mem hkl)
        have hfew := HFew.out.2 l[k] (List.getElem_mem hkl)
        subst hA
        have HOk := Lib.hid hok
        have HKl : Hid (l[k].keep ≠ [] → ∀ i, slBlk l[k].kA = some i → i < w.heap.size) := Lib.hid (fun hne i hi => rd_low2 hok.rd hne hi)
        have hi0 : (0 : Int) ≤ (k : Int) := by omega
        have hi1 : (k : Int) < (l.length : Int) := by omega
        have e0 := box_cell HBx.out 0 _ rfl
        have e1 := box_cell HBx.out 1 _ rfl
        have e2 := box_cell HBx.out 2 _ rfl
        have e3 := box_cell HBx.out 3 _ rfl
        have ez := fun j => box_free HBx.out j
        have HFw := Lib.hid hfew
        clear hok hfew
        generalize l[k] = a at *
        go_wp2_with fail
        go_meet
        case rel =>
          have hB4 : Below wr.heap.size wr ((((wa.setCell ⟨b, 0, none⟩ (.int .i64 a.kind)).setCell ⟨b, 1, none⟩ (.string (bs a.s))).setCell ⟨b, 2, none⟩ (.int .i64 a.n)).setCell ⟨b, 3, none⟩ (.slice a.kA a.keep.length a.kc)) :=
            (((HBw.out.setCell (p := ⟨b, 0, none⟩) (by rw [HBe.out]; exact Nat.le_refl _) _).setCell (p := ⟨b, 1, none⟩) (by rw [HBe.out]; exact Nat.le_refl _) _).setCell (p := ⟨b, 2, none⟩) (by rw [HBe.out]; exact Nat.le_refl _) _).setCell (p := ⟨b, 3, none⟩) (by rw [HBe.out]; exact Nat.le_refl _) _
          have hbox := heap_setCell_same _ b 3 _ _ (.slice a.kA a.keep.length a.kc) (heap_setCell_same _ b 2 _ _ (.int .i64 a.n) (heap_setCell_same _ b 1 _ _ (.string (bs a.s)) (heap_setCell_same wa b 0 _ _ (.int .i64 a.kind) HBx.out)))
          refine ⟨a, S, D, HSt.out.on hB4, ⟨fun j v hj => box_cell hbox j v (by simpa [opC] using hj), box_lt hbox, HAp.out⟩, HFw.out, HOk.out.now (HSt.out.st.bl.trans (hB4.mono HSt.out.st.bl.size)), HKl.out, fun h => by omega⟩
      · have d4 : decide (k < l.length) = false := decide_eq_false hkl
        have HBk : Hid (BoxK ((dOb p S D).sep X) wa b ⟨4, [], 0, keep, kA, kc⟩) := Lib.hid ⟨fun j v hj => box_cell HBx.out j v (by simpa [opC, bs] using hj), HLt.out, HAp.out⟩
        have HI2 : Hid (LInv (S.lose 0) J alM.xs suM.xs k) := Lib.hid (linv_at (lasts_lose HLr.out.inv 0 (by unfold inI64; omega)) HLr.out.inv.cnt)
        have HI3 : Hid (LInv ((S.lose 0).arm 0 []) J alM.xs suM.xs k) := Lib.hid (linv_at (lasts_arm HI2.out 0 [] (by unfold inI64; omega) (by simp)) HLr.out.inv.cnt)
        go_wp2_with fail
        refine (dLose_any p S D wa 0 (by unfold inI64; omega) HLr.out.st.disk).mono ?_
        rintro e w5 ⟨rfl, hu⟩
        obtain ⟨D5, hl5, hb5⟩ := HLr.out.disk hu HI2.out HLr.out.keep HBk.out
        have HL5 := Lib.hid hl5
        have HB5 := Lib.hid hb5
        clear hu hl5 hb5
        go_wp2_with fail
        refine (dArm_any p (S.lose 0) D5 w5 0 (by unfold inI64; omega) [] none 0 0 rfl (fun k x hx => by simp at hx) (by decide) (by simp) HL5.out.st.disk).mono ?_
        rintro e w6 ⟨rfl, hu⟩
        obtain ⟨D6, hl6, hb6⟩ := HL5.out.disk hu HI3.out (by show ([] : List Int).length ≤ 50; decide) HB5.out
        have HL6 := Lib.hid hl6
        have HB6 := Lib.hid hb6
        clear hu hl6 hb6
        go_wp2_with fail
        go_meet
        case rel =>
          exact ⟨⟨4, [], 0, keep, kA, kc⟩, _, D6, HL6.out, HB6.out, ⟨Nat.zero_le _, by simp only; omega⟩, ⟨by show inI64 4; unfold inI64; omega, by show inI64 0; unfold inI64; omega, Nat.zero_le _, hkm, HKi.out, HKp.out.now HL6.out.st.bl⟩, fun hne i hi => rd_low2 HKp.out hne hi, fun _ => ⟨rfl, rfl, rfl⟩⟩
    case rest =>
      obtain ⟨a, S2, D2, hrr⟩ := hcut
      have HR := Lib.hid hrr
      have c0 := hrr.box.c0
      clear hrr HSt HLr HAp HLt HBx HBe HBw
      have hkk := HR.out.ok.kind
      by_cases k0 : a.kind = 0
      · have e0 : (a.kind == 0) = true := by simpa using k0
        have HNl : Hid (¬ k = l.length) := Lib.hid (fun h => by have := (HR.out.last h).1; omega)
        cases J with
        | none =>
          have hv := HR.out.st.isj.1
          subst hv
          go_wp2_with fail
          go_roundw
          case rel => exact ⟨k + 1, S2, D2, none, X, alM, suM, by omega, by go_num, rfl, rfl, HR.out.st.more⟩
          case measure => simp [intOf]; omega
        | some j =>
          obtain ⟨q, M, hv, hX⟩ := HR.out.st.isj
          subst hv hX
          obtain ⟨hfile, ⟨m, hm, hrm⟩, _⟩ := HR.out.st.inv.jr j rfl
          have hcnt := HR.out.st.inv.cnt
          have hk25 : k ≤ 25 := by have := HNl.out; omega
          have hfs := HR.out.few.s
          have HA := Lib.hid (lasts_append HR.out.st.inv hk25 a.s hfs)
          have HKe : Hid ((appS S2 j a.s).keep.length ≤ 50) := Lib.hid (by rw [appS_keep]; exact HR.out.st.keep)
          have hjl : j.recs.length ≤ 30 := by rw [hrm, List.length_take]; omega
          have hat : j.at_ ≤ 100000 := by
            show (formsF j.recs).length ≤ _
            have := forms_bound j.recs (fun t ht => HR.out.st.inv.sm t (by rw [hrm] at ht; exact List.mem_of_mem_take ht))
            omega
          have HJl := Lib.hid hjl
          have HAt := Lib.hid hat
          have HFl := Lib.hid hfile
          have HAc := Lib.hid hcnt
          have c1 := HR.out.box.c1
          clear hjl hat hfile hrm hm hcnt
          go_wp2_with fail
          refine (all_as (show JK wc q p j M from HR.out.st.st.ok.1.2) rfl (by have := HJl.out; omega)).mono ?_
          rintro e w4 ⟨A4, rfl, hr4, ho4, hb4⟩
          have HL4 : Hid (LSt w ((jBoth p q S2 D2 j M).sep (lsOb 9 1 strE A4 j.recs.length j.recs)) alM suM b a w4) := Lib.hid (LSt.list (O := jBoth p q S2 D2 j M) ⟨HR.out.st.st, HR.out.st.all, HR.out.st.sure, HR.out.box⟩ hb4 ho4)
          have hkS : S2.keep.length ≤ 4194320 := by have := HR.out.st.keep; omega
          have d1 := HL4.out.box.c1
          clear hr4 ho4 hb4 HR c0 c1
          go_wp2_with fail
          refine (jAppend_any p q S2 D2 j M a.s w4 (HL4.out.st.vs HV.out) (by omega) (by have := HAt.out; omega) (by rw [HFl.out]; unfold inI64; omega) hkS HL4.out.st.ok.1.1).mono ?_
          rintro e w5 ⟨rfl, D5, M5, hu⟩
          have HL5 := Lib.hid (HL4.out.upd (OUpd.left HL4.out.st.ok hu))
          clear hu HL4 hkS d1
          generalize hj2 : appJ S2 j a.s = j2 at *
          generalize hS5 : appS S2 j a.s = S5 at *
          generalize hc5 : appC S2 j a.s = cc at *
          clear hj2 hS5 hc5
          have HJ2l : Hid (j2.recs.length ≤ 31) := Lib.hid (by
            rcases HA.out with ⟨_, h, _⟩ | ⟨_, h, _⟩ | ⟨_, h, _⟩
            · rw [h]; have := HJl.out; simp; omega
            · rw [h]; have := HJl.out; omega
            · rw [h]; have := HJl.out; omega)
          go_wp2_with fail
          refine (all_as (show JK w5 q p j2 M5 from HL5.out.st.ok.1.1.1.2) rfl (by have := HJ2l.out; omega)).mono ?_
          rintro e w6 ⟨A6, rfl, -, ho6, hb6⟩
          have HL6 := Lib.hid (HL5.out.list hb6 ho6)
          have HBx6 := Lib.hid HL6.out.box
          have HAl6 := Lib.hid HL6.out.all.rd.rd
          clear ho6 hb6 HL5
          have hxl : alM.xs.length ≤ 30 := by have := HAc.out; omega
          have e1' := HBx6.out.c1
          rcases HA.out with ⟨hc, hrr, hi⟩ | ⟨hc, hrr, hi⟩ | ⟨hc, hrr, hi⟩
          · rw [hc]
            have HRr := Lib.hid hrr
            have HI := Lib.hid hi
            clear hc hrr hi HA
            go_upto_region 27 with fail
            go_cut [9] (fun v wx => ∃ (A9 : Option Addr) (c9 : Nat), v = .slice A9 (alM.xs ++ [a.s]).length c9 ∧ OwnL wx w6.heap.size 9 1 strE A9 c9 (alM.xs ++ [a.s]) ∧ Below w6.heap.size w6 wx)
            case first =>
              have hblt := HBx6.out.lt
              have hbc1 := HBx6.out.c1
              refine wp_region_J (S := fun w' => Below w6.heap.size w6 w') (fun _ => false) (by kernel_rfl) ((Below.refl _ _).drew) (fun hHeld => ?_)
              refine wpAnyJ_pure (i := 1) (v := ?_) rfl (by kernel_rfl) (by kernel_rfl) (by kernel_rfl) (fun _ _ _ h => h) (Or.inl ⟨by rfl, ?_⟩) ?_
              rotate_left
              · intro wq _
                go_simp
                try with_reducible rfl
              simp only [Act.put, List.setIfInBounds_toArray, List.set_cons_zero, List.set_cons_succ, List.getElem_toArray, List.getElem_cons_zero, List.getElem_cons_succ]
              refine wpAnyJ_pure (i := 3) (v := ?_) rfl (by kernel_rfl) (by kernel_rfl) (by kernel_rfl) (fun _ _ _ h => h) (Or.inl ⟨by rfl, ?_⟩) ?_
              rotate_left
              · intro wq _
                go_simp
                try with_reducible rfl
              simp only [Act.put, List.setIfInBounds_toArray, List.set_cons_zero, List.set_cons_succ, List.getElem_toArray, List.getElem_cons_zero, List.getElem_cons_succ]
              refine wpAnyJ_take (i := 4) (v := ?_) rfl (by kernel_rfl) (by kernel_rfl) (by kernel_rfl) (by kernel_rfl) (fun _ _ _ h => h) (Or.inl ⟨by rfl, ?_⟩) hHeld ?_
              rotate_left
              · intro wq hSq
                have hq1 := (hSq.cell (p := ⟨b, 1, none⟩) hblt).trans hbc1
                go_simp
                try with_reducible rfl
              simp only [Act.put, List.setIfInBounds_toArray, List.set_cons_zero, List.set_cons_succ, List.getElem_toArray, List.getElem_cons_zero, List.getElem_cons_succ]
              refine wpAnyJ_two (i := 0) (j := 5) rfl rfl (by kernel_rfl) (fun K hK => ?_) (fun K hK => ?_)
              · go_simp
                refine hK.out _ _ (fun _ h => h.alloc (Nat.le_refl _) _) ?_
                clear hK K
                refine wpAnyJ_two (i := 2) (j := 5) rfl rfl (by kernel_rfl) (fun K hK => ?_) (fun K hK => ?_)
                · refine step_append_l rfl (.tmp 78) (.tmp 79) rfl slStrJ strLayJ w6.heap.size [] alM.xs rfl rfl (OwnL.empty w6 9 w6.heap.size (Nat.le_refl _) _ rfl).drew rfl rfl ⟨_, HAl6.out.now ((Below.refl _ _).alloc (Nat.le_refl _) _).drew⟩ (by simp; omega) (by simp) ?_
                  intro A2 c2 W2 hO2 _ hb2 _
                  rw [List.nil_append] at hO2 ⊢
                  have hH2 : Below w6.heap.size w6 W2 := Below.trans ((Below.refl _ _).alloc (Nat.le_refl _) _).drew hb2
                  have hz2 := hH2.size
                  refine hK.out _ _ (fun _ h => hH2) ?_
                  clear hK K
                  refine wpAnyJ_one (i := 5) rfl (by kernel_rfl) (fun K hK => ?_)
                  go_simp
                  refine hK.out _ _ (fun _ h => h.alloc hz2 _) ?_
                  clear hK K
                  refine wpAnyJ_one (i := 6) rfl (by kernel_rfl) (fun K hK => ?_)
                  refine step_append_l rfl (.tmp 80) (.tmp 83) rfl slStrJ strLayJ w6.heap.size alM.xs [a.s] rfl rfl (hO2.alloc _) rfl rfl ⟨_, RdL.one W2 a.s _ _ rfl _ rfl⟩ (by simp; omega) (by simp; omega) ?_
                  intro A3 c3 W4 hO3 _ hb3 _
                  have hH4 : Below w6.heap.size w6 W4 := (hH2.alloc hz2 _).trans hb3
                  refine hK.out _ _ (fun _ h => hH4) ?_
                  clear hK K
                  refine wpAnyJ_pure (i := 7) (v := ?_) rfl (by kernel_rfl) (by kernel_rfl) (by kernel_rfl) (fun _ _ _ h => h) (Or.inl ⟨by rfl, ?_⟩) ?_
                  rotate_left
                  · intro wq _
                    go_simp
                    try with_reducible rfl
                  simp only [Act.put, List.setIfInBounds_toArray, List.set_cons_zero, List.set_cons_succ, List.getElem_toArray, List.getElem_cons_zero, List.getElem_cons_succ]
                  refine wpAnyJ_done (by kernel_rfl) ?_ _
                  go_wp2_with fail
                  go_meet
                  case rel => exact ⟨A3, c3, by simp, hO3, hH4⟩
                · go_simp
                  refine hK.out _ _ (fun _ h => h.alloc (by simp) _) ?_
                  clear hK K
                  refine wpAnyJ_one (i := 2) rfl (by kernel_rfl) (fun K hK => ?_)
                  refine step_append_l rfl (.tmp 78) (.tmp 79) rfl slStrJ strLayJ w6.heap.size [] alM.xs rfl rfl ((OwnL.empty w6 9 w6.heap.size (Nat.le_refl _) _ rfl).alloc _).drew rfl rfl ⟨_, HAl6.out.now (((Below.refl _ _).alloc (Nat.le_refl _) _).alloc (by simp) _).drew⟩ (by simp; omega) (by simp; omega) ?_
                  intro A2 c2 W2 hO2 hg2 hb2 _
                  simp only [own_blk, slBlk, Option.map_some] at hg2
                  rw [List.nil_append] at hO2 ⊢
                  have hH1 : Below w6.heap.size w6 ((w6.alloc (.cells #[] 9)).alloc (.cells #[.string (bs a.s)] 9)).drew := (((Below.refl _ _).alloc (Nat.le_refl _) _).alloc (by simp) _).drew
                  have hH2 : Below w6.heap.size w6 W2 := Below.trans hH1 hb2
                  have hz2 := hg2.size
                  have hcl : W2.cell? ⟨w6.heap.size + 1, 0, none⟩ = some (.string (bs a.s)) := (grown_cell hg2 (by simp) (by omega) 0).trans (cell_new1 (w6.alloc (.cells #[] 9)) _ _ _ (by simp))
                  refine hK.out _ _ (fun _ h => hH2) ?_
                  clear hK K
                  refine wpAnyJ_one (i := 6) rfl (by kernel_rfl) (fun K hK => ?_)
                  refine step_append_l rfl (.tmp 80) (.tmp 83) rfl slStrJ strLayJ w6.heap.size alM.xs [a.s] rfl rfl hO2 rfl rfl ⟨W2.heap.size, rd_cell1 (b := w6.heap.size + 1) (by simpa using hcl) (by simp at hz2; omega)⟩ (by simp; omega) hH2.size ?_
                  intro A3 c3 W4 hO3 _ hb3 _
                  have hH4 : Below w6.heap.size w6 W4 := hH2.trans hb3
                  refine hK.out _ _ (fun _ h => hH4) ?_
                  clear hK K
                  refine wpAnyJ_pure (i := 7) (v := ?_) rfl (by kernel_rfl) (by kernel_rfl) (by kernel_rfl) (fun _ _ _ h => h) (Or.inl ⟨by rfl, ?_⟩) ?_
                  rotate_left
                  · intro wq _
                    go_simp
                    try with_reducible rfl
                  simp only [Act.put, List.setIfInBounds_toArray, List.set_cons_zero, List.set_cons_succ, List.getElem_toArray, List.getElem_cons_zero, List.getElem_cons_succ]
                  refine wpAnyJ_done (by kernel_rfl) ?_ _
                  go_wp2_with fail
                  go_meet
                  case rel => exact ⟨A3, c3, by simp, hO3, hH4⟩
              · go_simp
                refine hK.out _ _ (fun _ h => h.alloc (Nat.le_refl _) _) ?_
                clear hK K
                refine wpAnyJ_one (i := 0) rfl (by kernel_rfl) (fun K hK => ?_)
                go_simp
                refine hK.out _ _ (fun _ h => h.alloc (by simp) _) ?_
                clear hK K
                refine wpAnyJ_one (i := 2) rfl (by kernel_rfl) (fun K hK => ?_)
                have hE5 : OwnL (((w6.alloc (.cells #[.string (bs a.s)] 9)).alloc (.cells #[] 9)).drew) w6.heap.size 9 1 strE (some ⟨w6.heap.size + 1, 0, none⟩) 0 [] := (OwnL.empty (w6.alloc (.cells #[.string (bs a.s)] 9)) 9 w6.heap.size (by simp) _ (by simp)).drew
                refine step_append_l rfl (.tmp 78) (.tmp 79) rfl slStrJ strLayJ w6.heap.size [] alM.xs rfl rfl hE5 rfl rfl ⟨_, HAl6.out.now (((Below.refl _ _).alloc (Nat.le_refl _) _).alloc (by simp) _).drew⟩ (by simp; omega) (by simp; omega) ?_
                intro A2 c2 W2 hO2 hg2 hb2 _
                simp only [own_blk, slBlk, Option.map_some] at hg2
                rw [List.nil_append] at hO2 ⊢
                have hH1 : Below w6.heap.size w6 ((w6.alloc (.cells #[.string (bs a.s)] 9)).alloc (.cells #[] 9)).drew := (((Below.refl _ _).alloc (Nat.le_refl _) _).alloc (by simp) _).drew
                have hH2 : Below w6.heap.size w6 W2 := Below.trans hH1 hb2
                have hz2 := hg2.size
                have hcl : W2.cell? ⟨w6.heap.size, 0, none⟩ = some (.string (bs a.s)) := (grown_cell hg2 (by simp; omega) (by omega) 0).trans ((cell_old (w6.alloc (.cells #[.string (bs a.s)] 9)) _ _ _ (by simp)).trans (cell_new1 w6 _ _ _ rfl))
                refine hK.out _ _ (fun _ h => hH2) ?_
                clear hK K
                refine wpAnyJ_one (i := 6) rfl (by kernel_rfl) (fun K hK => ?_)
                refine step_append_l rfl (.tmp 80) (.tmp 83) rfl slStrJ strLayJ w6.heap.size alM.xs [a.s] rfl rfl hO2 rfl rfl ⟨W2.heap.size, rd_cell1 (b := w6.heap.size) hcl (by simp at hz2; omega)⟩ (by simp; omega) hH2.size ?_
                intro A3 c3 W4 hO3 _ hb3 _
                have hH4 : Below w6.heap.size w6 W4 := hH2.trans hb3
                refine hK.out _ _ (fun _ h => hH4) ?_
                clear hK K
                refine wpAnyJ_pure (i := 7) (v := ?_) rfl (by kernel_rfl) (by kernel_rfl) (by kernel_rfl) (fun _ _ _ h => h) (Or.inl ⟨by rfl, ?_⟩) ?_
                rotate_left
                · intro wq _
                  go_simp
                  try with_reducible rfl
                simp only [Act.put, List.setIfInBounds_toArray, List.set_cons_zero, List.set_cons_succ, List.getElem_toArray, List.getElem_cons_zero, List.getElem_cons_succ]
                refine wpAnyJ_done (by kernel_rfl) ?_ _
                go_wp2_with fail
                go_meet
                case rel => exact ⟨A3, c3, by simp, hO3, hH4⟩
            case rest =>
              obtain ⟨A9, c9, rfl, ho9, hb9⟩ := hcut
              have HL9 := Lib.hid (HL6.out.all2 hb9 ho9 ho9.caps.1 ho9.caps.2)
              have f1 := HL9.out.box.c1
              have HOb := Lib.hid (show OwnL _ 0 9 1 strE A4 j.recs.length j.recs from HL9.out.st.ok.1.1.1.2)
              have HLn2 : Hid ((j.recs ++ [a.s]).length = j.recs.length + 1) := Lib.hid (by simp)
              have HJl2 := HJl.out
              clear ho9 hb9 HL6 HBx6 HAl6 e1'
              generalize hW9 : wc = w9 at *
              clear hW9
              go_wp2_with (first
                | ((with_reducible show wpList _ _ _ (Oper.mk (some 93) _ _ _ _ _ :: _) _ _); refine wpList_unguard (by rfl) ?_; refine wp_append_l rfl (.tmp 89) (.tmp 92) rfl slStrJ strLayJ 0 (xs := j.recs) (ys := [a.s]) rfl rfl (HOb.out.alloc _) rfl rfl (RdL.one w9 a.s _ _ rfl _ rfl) (by simp; omega) (Nat.zero_le _) ?_; intro A7 c7 w7 hown7 hg7 hb7 hat7; have HO7 := Lib.hid hown7; have HG7 := Lib.hid hg7; have HA7 := Lib.hid hat7; clear hown7 hg7 hb7 hat7)
                | fail)
              have HL7 : Hid (LSt w (((jBoth p q S5 D5 j2 M5).sep (lsOb 9 1 strE A7 c7 (j.recs ++ [a.s]))).sep (lsOb 9 1 strE A6 j2.recs.length j2.recs)) ⟨A9, alM.xs ++ [a.s], c9⟩ suM b a w7) := Lib.hid (by
                refine HL9.out.upd (OUpd.left HL9.out.st.ok (OUpd.right HL9.out.st.ok.1.1 (OUpd.append (.cells #[.string (bs a.s)] 9) HO7.out ?_ ?_)))
                · have h := HG7.out
                  rw [own_blk] at h
                  exact h
                · have h := HA7.out
                  rw [own_blk, own_blk] at h
                  exact h)
              have hj2l : j2.recs.length = j.recs.length + 1 := by rw [HRr.out]; exact HLn2.out
              have HJ2q := Lib.hid hj2l
              have HSm : Hid (Calls Tryd.prog 15 #[.slice A6 j2.recs.length j2.recs.length, .slice A7 (j.recs.length + 1) c7] w7 fun e w' => e = .returned (.bool true) ∧ Below w7.heap.size w7 w') := Lib.hid (by
                have h := same_refl j2.recs A6 A7 j2.recs.length c7 w7 ((show OwnL w7 0 9 1 strE A6 j2.recs.length j2.recs from HL7.out.st.ok.1.2).rd strLayJ) (by rw [HRr.out]; exact (show OwnL w7 0 9 1 strE A7 c7 (j.recs ++ [a.s]) from HL7.out.st.ok.1.1.1.2).rd strLayJ) (by omega)
                rw [← hj2l]
                exact h)
              clear hj2l HL9 HOb HO7 HG7 HA7 f1
              refine HSm.out.mono ?_
              rintro e w8 ⟨rfl, hb8⟩
              have HL8 := Lib.hid (HL7.out.on hb8)
              clear hb8 HL7 HSm
              go_wp2_with fail
              go_roundw
              case rel => exact ⟨k + 1, S5, D5, some j2, jOb q p j2 M5, ⟨A9, alM.xs ++ [a.s], c9⟩, suM, by omega, by go_num, by simp [SlM.v], rfl, HL8.out.toLast HI.out HKe.out⟩
              case measure => simp [intOf]; omega
          · rw [hc]
            have HRr := Lib.hid hrr
            have HI := Lib.hid hi
            clear hc hrr hi HA
            go_wp2_with fail
            refine (disky_any 8 w6).mono ?_
            rintro e wx ⟨rfl, hw⟩
            obtain rfl := hw
            have hdk : (decide ((8 : Int) = 8) || decide ((8 : Int) = 9)) = true := by decide
            rw [hdk]
            go_upto_region 27 with fail
            go_cut [9] (fun v wx => ∃ (A9 : Option Addr) (c9 : Nat), v = .slice A9 (alM.xs ++ [a.s]).length c9 ∧ OwnL wx w6.heap.size 9 1 strE A9 c9 (alM.xs ++ [a.s]) ∧ Below w6.heap.size w6 wx)
            case first =>
              have hblt := HBx6.out.lt
              have hbc1 := HBx6.out.c1
              refine wp_region_J (S := fun w' => Below w6.heap.size w6 w') (fun _ => false) (by kernel_rfl) ((Below.refl _ _).drew) (fun hHeld => ?_)
              refine wpAnyJ_pure (i := 1) (v := ?_) rfl (by kernel_rfl) (by kernel_rfl) (by kernel_rfl) (fun _ _ _ h => h) (Or.inl ⟨by rfl, ?_⟩) ?_
              rotate_left
              · intro wq _
                go_simp
                try with_reducible rfl
              simp only [Act.put, List.setIfInBounds_toArray, List.set_cons_zero, List.set_cons_succ, List.getElem_toArray, List.getElem_cons_zero, List.getElem_cons_succ]
              refine wpAnyJ_pure (i := 3) (v := ?_) rfl (by kernel_rfl) (by kernel_rfl) (by kernel_rfl) (fun _ _ _ h => h) (Or.inl ⟨by rfl, ?_⟩) ?_
              rotate_left
              · intro wq _
                go_simp
                try with_reducible rfl
              simp only [Act.put, List.setIfInBounds_toArray, List.set_cons_zero, List.set_cons_succ, List.getElem_toArray, List.getElem_cons_zero, List.getElem_cons_succ]
              refine wpAnyJ_take (i := 4) (v := ?_) rfl (by kernel_rfl) (by kernel_rfl) (by kernel_rfl) (by kernel_rfl) (fun _ _ _ h => h) (Or.inl ⟨by rfl, ?_⟩) hHeld ?_
              rotate_left
              · intro wq hSq
                have hq1 := (hSq.cell (p := ⟨b, 1, none⟩) hblt).trans hbc1
                go_simp
                try with_reducible rfl
              simp only [Act.put, List.setIfInBounds_toArray, List.set_cons_zero, List.set_cons_succ, List.getElem_toArray, List.getElem_cons_zero, List.getElem_cons_succ]
              refine wpAnyJ_two (i := 0) (j := 5) rfl rfl (by kernel_rfl) (fun K hK => ?_) (fun K hK => ?_)
              · go_simp
                refine hK.out _ _ (fun _ h => h.alloc (Nat.le_refl _) _) ?_
                clear hK K
                refine wpAnyJ_two (i := 2) (j := 5) rfl rfl (by kernel_rfl) (fun K hK => ?_) (fun K hK => ?_)
                · refine step_append_l rfl (.tmp 78) (.tmp 79) rfl slStrJ strLayJ w6.heap.size [] alM.xs rfl rfl (OwnL.empty w6 9 w6.heap.size (Nat.le_refl _) _ rfl).drew rfl rfl ⟨_, HAl6.out.now ((Below.refl _ _).alloc (Nat.le_refl _) _).drew⟩ (by simp; omega) (by simp) ?_
                  intro A2 c2 W2 hO2 _ hb2 _
                  rw [List.nil_append] at hO2 ⊢
                  have hH2 : Below w6.heap.size w6 W2 := Below.trans ((Below.refl _ _).alloc (Nat.le_refl _) _).drew hb2
                  have hz2 := hH2.size
                  refine hK.out _ _ (fun _ h => hH2) ?_
                  clear hK K
                  refine wpAnyJ_one (i := 5) rfl (by kernel_rfl) (fun K hK => ?_)
                  go_simp
                  refine hK.out _ _ (fun _ h => h.alloc hz2 _) ?_
                  clear hK K
                  refine wpAnyJ_one (i := 6) rfl (by kernel_rfl) (fun K hK => ?_)
                  refine step_append_l rfl (.tmp 80) (.tmp 83) rfl slStrJ strLayJ w6.heap.size alM.xs [a.s] rfl rfl (hO2.alloc _) rfl rfl ⟨_, RdL.one W2 a.s _ _ rfl _ rfl⟩ (by simp; omega) (by simp; omega) ?_
                  intro A3 c3 W4 hO3 _ hb3 _
                  have hH4 : Below w6.heap.size w6 W4 := (hH2.alloc hz2 _).trans hb3
                  refine hK.out _ _ (fun _ h => hH4) ?_
                  clear hK K
                  refine wpAnyJ_pure (i := 7) (v := ?_) rfl (by kernel_rfl) (by kernel_rfl) (by kernel_rfl) (fun _ _ _ h => h) (Or.inl ⟨by rfl, ?_⟩) ?_
                  rotate_left
                  · intro wq _
                    go_simp
                    try with_reducible rfl
                  simp only [Act.put, List.setIfInBounds_toArray, List.set_cons_zero, List.set_cons_succ, List.getElem_toArray, List.getElem_cons_zero, List.getElem_cons_succ]
                  refine wpAnyJ_done (by kernel_rfl) ?_ _
                  go_wp2_with fail
                  go_meet
                  case rel => exact ⟨A3, c3, by simp, hO3, hH4⟩
                · go_simp
                  refine hK.out _ _ (fun _ h => h.alloc (by simp) _) ?_
                  clear hK K
                  refine wpAnyJ_one (i := 2) rfl (by kernel_rfl) (fun K hK => ?_)
                  refine step_append_l rfl (.tmp 78) (.tmp 79) rfl slStrJ strLayJ w6.heap.size [] alM.xs rfl rfl ((OwnL.empty w6 9 w6.heap.size (Nat.le_refl _) _ rfl).alloc _).drew rfl rfl ⟨_, HAl6.out.now (((Below.refl _ _).alloc (Nat.le_refl _) _).alloc (by simp) _).drew⟩ (by simp; omega) (by simp; omega) ?_
                  intro A2 c2 W2 hO2 hg2 hb2 _
                  simp only [own_blk, slBlk, Option.map_some] at hg2
                  rw [List.nil_append] at hO2 ⊢
                  have hH1 : Below w6.heap.size w6 ((w6.alloc (.cells #[] 9)).alloc (.cells #[.string (bs a.s)] 9)).drew := (((Below.refl _ _).alloc (Nat.le_refl _) _).alloc (by simp) _).drew
                  have hH2 : Below w6.heap.size w6 W2 := Below.trans hH1 hb2
                  have hz2 := hg2.size
                  have hcl : W2.cell? ⟨w6.heap.size + 1, 0, none⟩ = some (.string (bs a.s)) := (grown_cell hg2 (by simp) (by omega) 0).trans (cell_new1 (w6.alloc (.cells #[] 9)) _ _ _ (by simp))
                  refine hK.out _ _ (fun _ h => hH2) ?_
                  clear hK K
                  refine wpAnyJ_one (i := 6) rfl (by kernel_rfl) (fun K hK => ?_)
                  refine step_append_l rfl (.tmp 80) (.tmp 83) rfl slStrJ strLayJ w6.heap.size alM.xs [a.s] rfl rfl hO2 rfl rfl ⟨W2.heap.size, rd_cell1 (b := w6.heap.size + 1) (by simpa using hcl) (by simp at hz2; omega)⟩ (by simp; omega) hH2.size ?_
                  intro A3 c3 W4 hO3 _ hb3 _
                  have hH4 : Below w6.heap.size w6 W4 := hH2.trans hb3
                  refine hK.out _ _ (fun _ h => hH4) ?_
                  clear hK K
                  refine wpAnyJ_pure (i := 7) (v := ?_) rfl (by kernel_rfl) (by kernel_rfl) (by kernel_rfl) (fun _ _ _ h => h) (Or.inl ⟨by rfl, ?_⟩) ?_
                  rotate_left
                  · intro wq _
                    go_simp
                    try with_reducible rfl
                  simp only [Act.put, List.setIfInBounds_toArray, List.set_cons_zero, List.set_cons_succ, List.getElem_toArray, List.getElem_cons_zero, List.getElem_cons_succ]
                  refine wpAnyJ_done (by kernel_rfl) ?_ _
                  go_wp2_with fail
                  go_meet
                  case rel => exact ⟨A3, c3, by simp, hO3, hH4⟩
              · go_simp
                refine hK.out _ _ (fun _ h => h.alloc (Nat.le_refl _) _) ?_
                clear hK K
                refine wpAnyJ_one (i := 0) rfl (by kernel_rfl) (fun K hK => ?_)
                go_simp
                refine hK.out _ _ (fun _ h => h.alloc (by simp) _) ?_
                clear hK K
                refine wpAnyJ_one (i := 2) rfl (by kernel_rfl) (fun K hK => ?_)
                have hE5 : OwnL (((w6.alloc (.cells #[.string (bs a.s)] 9)).alloc (.cells #[] 9)).drew) w6.heap.size 9 1 strE (some ⟨w6.heap.size + 1, 0, none⟩) 0 [] := (OwnL.empty (w6.alloc (.cells #[.string (bs a.s)] 9)) 9 w6.heap.size (by simp) _ (by simp)).drew
                refine step_append_l rfl (.tmp 78) (.tmp 79) rfl slStrJ strLayJ w6.heap.size [] alM.xs rfl rfl hE5 rfl rfl ⟨_, HAl6.out.now (((Below.refl _ _).alloc (Nat.le_refl _) _).alloc (by simp) _).drew⟩ (by simp; omega) (by simp; omega) ?_
                intro A2 c2 W2 hO2 hg2 hb2 _
                simp only [own_blk, slBlk, Option.map_some] at hg2
                rw [List.nil_append] at hO2 ⊢
                have hH1 : Below w6.heap.size w6 ((w6.alloc (.cells #[.string (bs a.s)] 9)).alloc (.cells #[] 9)).drew := (((Below.refl _ _).alloc (Nat.le_refl _) _).alloc (by simp) _).drew
                have hH2 : Below w6.heap.size w6 W2 := Below.trans hH1 hb2
                have hz2 := hg2.size
                have hcl : W2.cell? ⟨w6.heap.size, 0, none⟩ = some (.string (bs a.s)) := (grown_cell hg2 (by simp; omega) (by omega) 0).trans ((cell_old (w6.alloc (.cells #[.string (bs a.s)] 9)) _ _ _ (by simp)).trans (cell_new1 w6 _ _ _ rfl))
                refine hK.out _ _ (fun _ h => hH2) ?_
                clear hK K
                refine wpAnyJ_one (i := 6) rfl (by kernel_rfl) (fun K hK => ?_)
                refine step_append_l rfl (.tmp 80) (.tmp 83) rfl slStrJ strLayJ w6.heap.size alM.xs [a.s] rfl rfl hO2 rfl rfl ⟨W2.heap.size, rd_cell1 (b := w6.heap.size) hcl (by simp at hz2; omega)⟩ (by simp; omega) hH2.size ?_
                intro A3 c3 W4 hO3 _ hb3 _
                have hH4 : Below w6.heap.size w6 W4 := hH2.trans hb3
                refine hK.out _ _ (fun _ h => hH4) ?_
                clear hK K
                refine wpAnyJ_pure (i := 7) (v := ?_) rfl (by kernel_rfl) (by kernel_rfl) (by kernel_rfl) (fun _ _ _ h => h) (Or.inl ⟨by rfl, ?_⟩) ?_
                rotate_left
                · intro wq _
                  go_simp
                  try with_reducible rfl
                simp only [Act.put, List.setIfInBounds_toArray, List.set_cons_zero, List.set_cons_succ, List.getElem_toArray, List.getElem_cons_zero, List.getElem_cons_succ]
                refine wpAnyJ_done (by kernel_rfl) ?_ _
                go_wp2_with fail
                go_meet
                case rel => exact ⟨A3, c3, by simp, hO3, hH4⟩
            case rest =>
              obtain ⟨A9, c9, rfl, ho9, hb9⟩ := hcut
              have HL9 := Lib.hid (HL6.out.all2 hb9 ho9 ho9.caps.1 ho9.caps.2)
              clear ho9 hb9 HL6 HBx6 HAl6 e1'
              generalize hW9 : wc = w9 at *
              clear hW9
              have HSm : Hid (Calls Tryd.prog 15 #[.slice A6 j2.recs.length j2.recs.length, .slice A4 j.recs.length j.recs.length] w9 fun e w' => e = .returned (.bool true) ∧ Below w9.heap.size w9 w') := Lib.hid (by
                have h := same_refl j.recs A6 A4 j.recs.length j.recs.length w9 (by have h6 := (show OwnL w9 0 9 1 strE A6 j2.recs.length j2.recs from HL9.out.st.ok.1.2).rd strLayJ; rw [HRr.out] at h6; exact h6) ((show OwnL w9 0 9 1 strE A4 j.recs.length j.recs from HL9.out.st.ok.1.1.1.2).rd strLayJ) (by have := HJl.out; omega)
                rw [HRr.out]
                exact h)
              go_wp2_with fail
              refine HSm.out.mono ?_
              rintro e w8 ⟨rfl, hb8⟩
              have HL8 := Lib.hid (HL9.out.on hb8)
              clear hb8 HL9 HSm
              go_wp2_with fail
              go_roundw
              case rel => exact ⟨k + 1, S5, D5, some j2, jOb q p j2 M5, ⟨A9, (alM.xs ++ [a.s]), c9⟩, suM, by omega, by go_num, by simp [SlM.v], rfl, HL8.out.toLast HI.out HKe.out⟩
              case measure => simp [intOf]; omega
          · rw [hc]
            have HRr : Hid (j2.recs = j.recs) := Lib.hid (by rw [hrr])
            have HI := Lib.hid hi
            clear hc hrr hi HA
            go_wp2_with fail
            refine (disky_any 7 w6).mono ?_
            rintro e wx ⟨rfl, hw⟩
            obtain rfl := hw
            have hdk : (decide ((7 : Int) = 8) || decide ((7 : Int) = 9)) = false := by decide
            rw [hdk]
            have HL9 : Hid (LSt w _ ⟨alM.A, alM.xs, alM.c⟩ suM b a w6) := HL6
            clear HL6 HBx6 HAl6 e1'
            obtain ⟨w9, hw9⟩ : ∃ x, x = w6 := ⟨_, rfl⟩
            rw [← hw9] at HL9 ⊢
            clear hw9
            have HSm : Hid (Calls Tryd.prog 15 #[.slice A6 j2.recs.length j2.recs.length, .slice A4 j.recs.length j.recs.length] w9 fun e w' => e = .returned (.bool true) ∧ Below w9.heap.size w9 w') := Lib.hid (by
              have h := same_refl j.recs A6 A4 j.recs.length j.recs.length w9 (by have h6 := (show OwnL w9 0 9 1 strE A6 j2.recs.length j2.recs from HL9.out.st.ok.1.2).rd strLayJ; rw [HRr.out] at h6; exact h6) ((show OwnL w9 0 9 1 strE A4 j.recs.length j.recs from HL9.out.st.ok.1.1.1.2).rd strLayJ) (by have := HJl.out; omega)
              rw [HRr.out]
              exact h)
            go_wp2_with fail
            refine HSm.out.mono ?_
            rintro e w8 ⟨rfl, hb8⟩
            have HL8 := Lib.hid (HL9.out.on hb8)
            clear hb8 HL9 HSm
            go_wp2_with fail
            go_roundw
            case rel => exact ⟨k + 1, S5, D5, some j2, jOb q p j2 M5, ⟨alM.A, alM.xs, alM.c⟩, suM, by omega, by go_num, by simp [SlM.v], rfl, HL8.out.toLast HI.out HKe.out⟩
            case measure => simp [intOf]; omega
      have e0 : (a.kind == 0) = false := by simpa using k0
      by_cases k1 : a.kind = 1
      · have e1 : (a.kind == 1) = true := by simpa using k1
        cases J with
        | none =>
          have hv := HR.out.st.isj.1
          subst hv
          go_wp2_with fail
          go_roundw
          case rel => exact ⟨k + 1, S2, D2, none, X, alM, suM, by omega, by go_num, rfl, rfl, HR.out.st.more⟩
          case measure => simp [intOf]; omega
        | some j =>
          obtain ⟨q, M, hv, hX⟩ := HR.out.st.isj
          subst hv hX
          obtain ⟨hfile, _, _⟩ := HR.out.st.inv.jr j rfl
          have HA := Lib.hid (lasts_sync HR.out.st.inv)
          have HSy := Lib.hid (jSync_any p q S2 D2 j M wc (by rw [hfile]; unfold inI64; omega) (by have := HR.out.st.keep; omega) (show (jBoth p q S2 D2 j M).ok wc from HR.out.st.st.ok))
          have HKe : Hid ((synS S2 j).keep.length ≤ 50) := Lib.hid (by rw [synS_keep]; exact HR.out.st.keep)
          have HLn : Hid (j.recs.length ≤ 30) := Lib.hid (by
            obtain ⟨_, ⟨m, hm, hr⟩, _⟩ := HR.out.st.inv.jr j rfl
            have h1 := HR.out.st.inv.cnt
            rw [hr, List.length_take]
            omega)
          clear hfile
          go_wp2_with fail
          refine HSy.out.mono ?_
          rintro e w4 ⟨rfl, D4, M4, hu⟩
          have HU := Lib.hid hu
          clear hu HSy
          by_cases hc : synC S2 j = 0
          · have HI : Hid (LInv (synS S2 j) (some (synJ S2 j)) alM.xs j.recs (k + 1)) := Lib.hid (by
              rcases HA.out.2 with ⟨_, h⟩ | ⟨h, _⟩
              · exact h
              · exact absurd hc h)
            have HRc := Lib.hid HA.out.1
            have HL4 : Hid (St w (jBoth p q (synS S2 j) D4 (synJ S2 j) M4) w4 ∧ alM.Ok (jBoth p q (synS S2 j) D4 (synJ S2 j) M4) w4) := Lib.hid ⟨HR.out.st.st.upd HU.out, HR.out.st.all.upd HU.out⟩
            rw [hc]
            clear hc HA HU HR
            generalize synS S2 j = S4 at *
            generalize synJ S2 j = j4 at *
            go_wp2_with fail
            refine (all_as (show JK w4 q p j4 M4 from HL4.out.1.ok.1.2) HRc.out (by have := HLn.out; omega)).mono ?_
            rintro e w5 ⟨A5, rfl, hr5, ho5, hb5⟩
            have HS5 := Lib.hid (HL4.out.1.on hb5)
            have HA5 := Lib.hid (HL4.out.2.on hb5)
            have HF5 : Hid ((SlM.mk A5 j.recs j.recs.length).Ok (jBoth p q S4 D4 j4 M4) w5) := Lib.hid (SlM.fresh HL4.out.1.ok hr5 ho5 (Nat.le_refl _) (by have := HLn.out; omega))
            clear hr5 ho5 hb5
            go_wp2_with fail
            go_roundw
            case rel => exact ⟨k + 1, S4, D4, some j4, jOb q p j4 M4, alM, ⟨A5, j.recs, j.recs.length⟩, by omega, by go_num, rfl, rfl, ⟨⟨q, M4, rfl, rfl⟩, HS5.out, HI.out, HKe.out, HA5.out, HF5.out⟩⟩
            case measure => simp [intOf]; omega
          · have d5 : (synC S2 j == 0) = false := by simpa using hc
            have HI : Hid (LInv (synS S2 j) (some (synJ S2 j)) alM.xs suM.xs (k + 1)) := Lib.hid (by
              rcases HA.out.2 with ⟨h, _⟩ | ⟨_, h⟩
              · exact absurd h hc
              · exact h)
            have HL4 := Lib.hid (HR.out.st.jour HU.out HI.out HKe.out)
            clear hc HA HU HR
            go_wp2_with fail
            go_roundw
            case rel => exact ⟨k + 1, _, D4, _, _, alM, suM, by omega, by go_num, rfl, rfl, HL4.out⟩
            case measure => simp [intOf]; omega
      have e1 : (a.kind == 1) = false := by simpa using k1
      by_cases k2 : a.kind = 2
      · have e2 : (a.kind == 2) = true := by simpa using k2
        have c2 := HR.out.box.c2
        go_wp2_with fail
        refine (dLose_any p S2 D2 wc a.n HR.out.ok.n HR.out.st.st.disk).mono ?_
        rintro e w4 ⟨rfl, hu⟩
        obtain ⟨D4, hl4, -⟩ := HR.out.st.disk hu (lasts_lose HR.out.st.inv a.n HR.out.ok.n) HR.out.st.keep HR.out.box
        have HL4 := Lib.hid hl4
        clear hu hl4
        go_wp2_with fail
        go_roundw
        case rel => exact ⟨k + 1, _, D4, J, X, alM, suM, by omega, by go_num, rfl, rfl, HL4.out⟩
        case measure => simp [intOf]; omega
      have e2 : (a.kind == 2) = false := by simpa using k2
      by_cases k3 : a.kind = 3
      · have e3 : (a.kind == 3) = true := by simpa using k3
        have c2 := HR.out.box.c2
        have c3 := HR.out.box.c3
        have hkf := HR.out.few.k
        go_wp2_with fail
        refine (dArm_any p S2 D2 wc a.n HR.out.ok.n a.keep a.kA a.keep.length a.kc rfl HR.out.ok.rd (by omega) HR.out.ok.k HR.out.st.st.disk).mono ?_
        rintro e w4 ⟨rfl, hu⟩
        obtain ⟨D4, hl4, -⟩ := HR.out.st.disk hu (lasts_arm HR.out.st.inv a.n a.keep HR.out.ok.n HR.out.ok.k) hkf HR.out.box
        have HL4 := Lib.hid hl4
        clear hu hl4
        go_wp2_with fail
        go_roundw
        case rel => exact ⟨k + 1, _, D4, J, X, alM, suM, by omega, by go_num, rfl, rfl, HL4.out⟩
        case measure => simp [intOf]; omega
      have e3 : (a.kind == 3) = false := by simpa using k3
      by_cases k45 : a.kind = 4 ∨ a.kind = 5
      · have HG : Hid (LastR w p (.pointer none) k S2 D2 none Ob.nil alM suM wc) := Lib.hid (HR.out.st.gone HR.out.st.inv.none)
        have HGb : Hid (BoxK ((dOb p S2 D2).sep Ob.nil) wc b a) := Lib.hid (HR.out.box.less (fun i hi => hi.elim .inl (fun h => h.elim)))
        have HOk := Lib.hid HR.out.ok
        have HLow := Lib.hid HR.out.low
        have HLast : Hid (k = l.length → a.kind = 4 ∧ S2.lost = 0 ∧ S2.armed = 0) := Lib.hid HR.out.last
        have hkf := HR.out.few.k
        have c3 := HR.out.box.c3
        clear HR
        rcases k45 with k4 | k4
        · have e4 : (a.kind == 4) = true := by simpa using k4
          have HIc : Hid (LInv (S2.crash a.keep) none alM.xs suM.xs k) := Lib.hid (lasts_crash HG.out.inv a.keep)
          have HLs : Hid (k = l.length → (S2.crash a.keep).start.lost = 0 ∧ (S2.crash a.keep).start.armed = 0) := Lib.hid (fun h => by
            obtain ⟨_, h1, h2⟩ := HLast.out h
            show (S2.crash a.keep).lost = 0 ∧ (S2.crash a.keep).armed = 0
            unfold DS.crash
            split
            · exact ⟨h1, h2⟩
            · exact ⟨h1, rfl⟩)
          have HKc : Hid ((S2.crash a.keep).keep.length ≤ 50) := Lib.hid (by rw [crash_keep]; exact HG.out.keep)
          go_wp2_with fail
          refine (dCrash_any p S2 D2 wc a.keep a.kA a.kc HOk.out.rd (by omega) (fun hne i hi ho => by have := HLow.out hne i hi; have := HG.out.st.disk_own i ho; omega) HG.out.st.disk).mono ?_
          rintro e w4 ⟨rfl, hu⟩
          obtain ⟨D4, hl4, hb4⟩ := HG.out.disk hu HIc.out HKc.out HGb.out
          have HL4 := Lib.hid hl4
          have HB4 := Lib.hid hb4
          clear hu hl4 hb4 HG HGb
          go_wp2_with fail
          refine (dStart_any p (S2.crash a.keep) D4 w4 HL4.out.st.disk).mono ?_
          rintro e w5 ⟨rfl, hu⟩
          obtain ⟨D5, hl5, -⟩ := HL4.out.disk hu (lasts_start HIc.out) HL4.out.keep HB4.out
          have HL5 := Lib.hid hl5
          have HUp : Hid (((S2.crash a.keep)).start.down = false) := Lib.hid rfl
          clear hu hl5 HL4 HB4 HIc
          generalize ((S2.crash a.keep)).start = S5 at *
          have HNl : Hid (openC S5 3 ≠ 0 → ¬ k = l.length) := Lib.hid (fun hc h => hc (open_up ⟨by decide, by decide⟩ HUp.out (HLs.out h).1 (HLs.out h).2))
          have HOpn := Lib.hid (lasts_open HL5.out.inv)
          have HKe : Hid ((openS S5 3).keep.length ≤ 50) := Lib.hid (by rw [openS_keep]; exact HL5.out.keep)
          go_wp2_with fail
          refine (jOpen_any p S5 D5 3 w5 (HL5.out.st.vs HV.out) HL5.out.st.disk_own (by unfold inI64; omega) (by have := HL5.out.keep; omega) HL5.out.st.disk).mono ?_
          rintro e w6 ⟨D6, X6, v6, rfl, hu, hj⟩
          have HU := Lib.hid hu
          clear hu
          rcases HOpn.out with ⟨hc, ⟨m, hm, hr⟩, ⟨m2, hm2, hr2⟩, hi⟩ | ⟨hc, hi⟩
          · rw [open_some hc] at hj
            rw [hc]
            obtain ⟨q6, M6, rfl, rfl⟩ := hj
            have HS6 := Lib.hid (HL5.out.st.forget.upd HU.out)
            have HA6 := Lib.hid ((HL5.out.all.less (O2 := dOb p S5 D5) (fun _ hi => .inl hi)).upd HU.out)
            have HT6 := Lib.hid ((HL5.out.sure.less (O2 := dOb p S5 D5) (fun _ hi => .inl hi)).upd HU.out)
            have HI := Lib.hid hi
            have HBa : Hid (beginsB alM.xs (openJ S5 3).recs = true) := Lib.hid ((begins_iff _ _).2 ⟨m, hm, hr⟩)
            have HBs : Hid (beginsB (openJ S5 3).recs suM.xs = true) := Lib.hid ((begins_iff _ _).2 ⟨m2, hm2, hr2⟩)
            have HLn : Hid ((openJ S5 3).recs.length ≤ 30) := Lib.hid (by have h1 := HL5.out.inv.cnt; rw [hr, List.length_take]; omega)
            clear hm hr hm2 hr2 hi hc HOpn HU HL5
            generalize openJ S5 3 = j6 at *
            generalize openS S5 3 = S6 at *
            go_wp2_with fail
            refine (all_as (show JK w6 q6 p j6 M6 from HS6.out.ok.1.2) rfl (by have := HLn.out; omega)).mono ?_
            rintro e w7 ⟨A7, rfl, hr7, ho7, hb7⟩
            have HS7 := Lib.hid (HS6.out.on hb7)
            have HA7 := Lib.hid (HA6.out.on hb7)
            have HT7 := Lib.hid (HT6.out.on hb7)
            have HF7 : Hid ((SlM.mk A7 j6.recs j6.recs.length).Ok ((dOb p S6 D6).sep (jOb q6 p j6 M6)) w7) := Lib.hid (SlM.fresh HS6.out.ok hr7 ho7 (Nat.le_refl _) (by have := HLn.out; omega))
            clear hr7 ho7 hb7 HS6 HA6 HT6
            have HC7 := Lib.hid (begins_any alM.xs j6.recs alM.A A7 alM.c j6.recs.length w7 HA7.out.rd.rd HF7.out.rd.rd (by have := HA7.out.le; have := HA7.out.max; omega) HA7.out.le (by have := HA7.out.max; omega) (by have := HLn.out; omega))
            rw [HBa.out] at HC7
            go_wp2_with fail
            refine HC7.out.mono ?_
            rintro e w8 ⟨rfl, hb8⟩
            have HS8 := Lib.hid (HS7.out.on hb8)
            have HT8 := Lib.hid (HT7.out.on hb8)
            have HF8 := Lib.hid (HF7.out.on hb8)
            clear hb8 HS7 HA7 HT7 HF7 HC7
            have HC8 := Lib.hid (begins_any j6.recs suM.xs A7 suM.A j6.recs.length suM.c w8 HF8.out.rd.rd HT8.out.rd.rd (by have := HLn.out; omega) (Nat.le_refl _) (by have := HLn.out; omega) (by have := HT8.out.le; have := HT8.out.max; omega))
            rw [HBs.out] at HC8
            go_wp2_with fail
            refine HC8.out.mono ?_
            rintro e w9 ⟨rfl, hb9⟩
            have HS9 := Lib.hid (HS8.out.on hb9)
            have HF9 := Lib.hid (HF8.out.on hb9)
            clear hb9 HS8 HT8 HF8 HC8
            go_wp2_with fail
            go_roundw
            case rel => exact ⟨k + 1, S6, D6, some j6, jOb q6 p j6 M6, ⟨A7, j6.recs, j6.recs.length⟩, ⟨A7, j6.recs, j6.recs.length⟩, by omega, by go_num, rfl, rfl, ⟨⟨q6, M6, rfl, rfl⟩, HS9.out, HI.out, HKe.out, HF9.out, HF9.out⟩⟩
            case measure => simp [intOf]; omega
          · have hne : openC S5 3 ≠ 0 := by rcases hc with h | h <;> rw [h] <;> decide
            rw [open_none hne] at hj
            obtain ⟨rfl, rfl⟩ := hj
            have hkn : ¬ k = l.length := HNl.out hne
            have g1 : (k == l.length) = false := by simpa using hkn
            have g2 : ((k : Int) == (l.length : Int)) = false := by simp; omega
            have HL6 := Lib.hid (HL5.out.opened HU.out (v2 := .pointer none) (X2 := Ob.nil) (J2 := none) ⟨rfl, rfl⟩ hi HKe.out)
            have HDk : Hid ((decide (openC S5 3 = 8) || decide (openC S5 3 = 9)) = true) := Lib.hid (by simpa using hc)
            clear hc hi hne HU HL5 HOpn
            generalize openC S5 3 = c6 at *
            go_wp2_with fail
            refine (disky_any c6 w6).mono ?_
            rintro e wx ⟨rfl, hw⟩
            obtain rfl := hw
            rw [HDk.out]
            go_wp2_with fail
            go_roundw
            case rel => exact ⟨k + 1, _, D6, none, Ob.nil, alM, suM, by omega, by go_num, rfl, rfl, HL6.out⟩
            case measure => simp [intOf]; omega
        · have e4 : (a.kind == 4) = false := by simp; omega
          have e5 : (a.kind == 5) = true := by simpa using k4
          have HIc : Hid (LInv S2 none alM.xs suM.xs k) := Lib.hid HG.out.inv
          have HLs : Hid (k = l.length → S2.start.lost = 0 ∧ S2.start.armed = 0) := Lib.hid (fun h => (HLast.out h).2)
          have HL4 := HG
          have HB4 := HGb
          clear HG HGb
          obtain ⟨D4, hD4⟩ : ∃ D, D = D2 := ⟨_, rfl⟩
          obtain ⟨w4, hw4⟩ : ∃ x, x = wc := ⟨_, rfl⟩
          rw [← hD4, ← hw4] at HL4 HB4
          rw [← hw4] at c0 c3 ⊢
          clear hD4 hw4
          go_wp2_with fail
          refine (dStart_any p S2 D4 w4 HL4.out.st.disk).mono ?_
          rintro e w5 ⟨rfl, hu⟩
          obtain ⟨D5, hl5, -⟩ := HL4.out.disk hu (lasts_start HIc.out) HL4.out.keep HB4.out
          have HL5 := Lib.hid hl5
          have HUp : Hid ((S2).start.down = false) := Lib.hid rfl
          clear hu hl5 HL4 HB4 HIc
          generalize (S2).start = S5 at *
          have HNl : Hid (openC S5 3 ≠ 0 → ¬ k = l.length) := Lib.hid (fun hc h => hc (open_up ⟨by decide, by decide⟩ HUp.out (HLs.out h).1 (HLs.out h).2))
          have HOpn := Lib.hid (lasts_open HL5.out.inv)
          have HKe : Hid ((openS S5 3).keep.length ≤ 50) := Lib.hid (by rw [openS_keep]; exact HL5.out.keep)
          go_wp2_with fail
          refine (jOpen_any p S5 D5 3 w5 (HL5.out.st.vs HV.out) HL5.out.st.disk_own (by unfold inI64; omega) (by have := HL5.out.keep; omega) HL5.out.st.disk).mono ?_
          rintro e w6 ⟨D6, X6, v6, rfl, hu, hj⟩
          have HU := Lib.hid hu
          clear hu
          rcases HOpn.out with ⟨hc, ⟨m, hm, hr⟩, ⟨m2, hm2, hr2⟩, hi⟩ | ⟨hc, hi⟩
          · rw [open_some hc] at hj
            rw [hc]
            obtain ⟨q6, M6, rfl, rfl⟩ := hj
            have HS6 := Lib.hid (HL5.out.st.forget.upd HU.out)
            have HA6 := Lib.hid ((HL5.out.all.less (O2 := dOb p S5 D5) (fun _ hi => .inl hi)).upd HU.out)
            have HT6 := Lib.hid ((HL5.out.sure.less (O2 := dOb p S5 D5) (fun _ hi => .inl hi)).upd HU.out)
            have HI := Lib.hid hi
            have HBa : Hid (beginsB alM.xs (openJ S5 3).recs = true) := Lib.hid ((begins_iff _ _).2 ⟨m, hm, hr⟩)
            have HBs : Hid (beginsB (openJ S5 3).recs suM.xs = true) := Lib.hid ((begins_iff _ _).2 ⟨m2, hm2, hr2⟩)
            have HLn : Hid ((openJ S5 3).recs.length ≤ 30) := Lib.hid (by have h1 := HL5.out.inv.cnt; rw [hr, List.length_take]; omega)
            clear hm hr hm2 hr2 hi hc HOpn HU HL5
            generalize openJ S5 3 = j6 at *
            generalize openS S5 3 = S6 at *
            go_wp2_with fail
            refine (all_as (show JK w6 q6 p j6 M6 from HS6.out.ok.1.2) rfl (by have := HLn.out; omega)).mono ?_
            rintro e w7 ⟨A7, rfl, hr7, ho7, hb7⟩
            have HS7 := Lib.hid (HS6.out.on hb7)
            have HA7 := Lib.hid (HA6.out.on hb7)
            have HT7 := Lib.hid (HT6.out.on hb7)
            have HF7 : Hid ((SlM.mk A7 j6.recs j6.recs.length).Ok ((dOb p S6 D6).sep (jOb q6 p j6 M6)) w7) := Lib.hid (SlM.fresh HS6.out.ok hr7 ho7 (Nat.le_refl _) (by have := HLn.out; omega))
            clear hr7 ho7 hb7 HS6 HA6 HT6
            have HC7 := Lib.hid (begins_any alM.xs j6.recs alM.A A7 alM.c j6.recs.length w7 HA7.out.rd.rd HF7.out.rd.rd (by have := HA7.out.le; have := HA7.out.max; omega) HA7.out.le (by have := HA7.out.max; omega) (by have := HLn.out; omega))
            rw [HBa.out] at HC7
            go_wp2_with fail
            refine HC7.out.mono ?_
            rintro e w8 ⟨rfl, hb8⟩
            have HS8 := Lib.hid (HS7.out.on hb8)
            have HT8 := Lib.hid (HT7.out.on hb8)
            have HF8 := Lib.hid (HF7.out.on hb8)
            clear hb8 HS7 HA7 HT7 HF7 HC7
            have HC8 := Lib.hid (begins_any j6.recs suM.xs A7 suM.A j6.recs.length suM.c w8 HF8.out.rd.rd HT8.out.rd.rd (by have := HLn.out; omega) (Nat.le_refl _) (by have := HLn.out; omega) (by have := HT8.out.le; have := HT8.out.max; omega))
            rw [HBs.out] at HC8
            go_wp2_with fail
            refine HC8.out.mono ?_
            rintro e w9 ⟨rfl, hb9⟩
            have HS9 := Lib.hid (HS8.out.on hb9)
            have HF9 := Lib.hid (HF8.out.on hb9)
            clear hb9 HS8 HT8 HF8 HC8
            go_wp2_with fail
            go_roundw
            case rel => exact ⟨k + 1, S6, D6, some j6, jOb q6 p j6 M6, ⟨A7, j6.recs, j6.recs.length⟩, ⟨A7, j6.recs, j6.recs.length⟩, by omega, by go_num, rfl, rfl, ⟨⟨q6, M6, rfl, rfl⟩, HS9.out, HI.out, HKe.out, HF9.out, HF9.out⟩⟩
            case measure => simp [intOf]; omega
          · have hne : openC S5 3 ≠ 0 := by rcases hc with h | h <;> rw [h] <;> decide
            rw [open_none hne] at hj
            obtain ⟨rfl, rfl⟩ := hj
            have hkn : ¬ k = l.length := HNl.out hne
            have g1 : (k == l.length) = false := by simpa using hkn
            have g2 : ((k : Int) == (l.length : Int)) = false := by simp; omega
            have HL6 := Lib.hid (HL5.out.opened HU.out (v2 := .pointer none) (X2 := Ob.nil) (J2 := none) ⟨rfl, rfl⟩ hi HKe.out)
            have HDk : Hid ((decide (openC S5 3 = 8) || decide (openC S5 3 = 9)) = true) := Lib.hid (by simpa using hc)
            clear hc hi hne HU HL5 HOpn
            generalize openC S5 3 = c6 at *
            go_wp2_with fail
            refine (disky_any c6 w6).mono ?_
            rintro e wx ⟨rfl, hw⟩
            obtain rfl := hw
            rw [HDk.out]
            go_wp2_with fail
            go_roundw
            case rel => exact ⟨k + 1, _, D6, none, Ob.nil, alM, suM, by omega, by go_num, rfl, rfl, HL6.out⟩
            case measure => simp [intOf]; omega
      have e4 : (a.kind == 4) = false := by simp; omega
      have e5 : (a.kind == 5) = false := by simp; omega
      go_wp2_with fail
      go_roundw
      case rel => exact ⟨k + 1, S2, D2, J, X, alM, suM, by omega, by go_num, rfl, rfl, HR.out.st.more⟩
      case measure => simp [intOf]; omega
end Go.Proofs.YtoicnokidlkjfaaDoor
