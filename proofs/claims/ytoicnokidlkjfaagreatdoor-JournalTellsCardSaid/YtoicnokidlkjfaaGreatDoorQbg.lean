/- Contracts and plain laws, joined: JrF. -/
import Derived.Test.YtoicnokidlkjfaaGreatDoorQbf
import Derived.Test.YtoicnokidlkjfaaGreatDoorQad
import Derived.Deep.CutBlock
/- The walk of JournalTells. -/
namespace Go.Proofs.YtoicnokidlkjfaaGreatDoor
open Go.RowKit
set_option maxRecDepth 100000

theorem JFit.bound {j : JS} (h : JFit (some j)) : j.recs.length ≤ 16777216 := by
  obtain ⟨_, h2⟩ := h j rfl
  have h1 := enc_len formF formF_pos j.recs
  have e : j.at_ = (j.recs.flatMap formF).length := rfl
  omega
-- tellBoth CC : .. with journals or without (HT5, HKe5 at w5; J, X, Y; HIj, HIr, HFt)
-- tellNone CC : the end of a round without journals (HT, HKe)
-- tellSome CC | j | $3 | M | $5 | N | w : .. with journals (HT at w; HKe, HFt)
-- tellOpen S | D | E | w : start, and open again (HG5, HKe5)
set_option maxHeartbeats 8000000 in
theorem tells_any (l : List OpM) (A : Option Addr) (c : Nat) (w : World) (hV : Vs w.heap.size w)
    (hr : RdL 4 opC w w.heap.size A l) (hl : ∀ a ∈ l, OpOk w a) (hm : l.length ≤ 9223372036854775807) :
    Calls Tryz.prog 3 #[.slice A l.length c] w fun e w' => e = .returned (.bool true) ∧ Below w.heap.size w w' := by
  have HV := Lib.hid hV
  have HR := Lib.hid hr
  have HL := Lib.hid hl
  clear hV hr hl
  go_enter Tryz.func3, Tryz.ntmps3
  go_wp2_with fail
  refine (small_any w HV.out).mono ?_
  rintro e w1 ⟨rfl, hb1⟩
  have HB1 := Lib.hid hb1
  have HF1 := Lib.hid (lFewO_any l A c w1 (HR.out.now hb1) hm (fun a ha => (HL.out a ha).now hb1))
  clear hb1
  cases hf1 : fewO l with
  | false =>
    rw [hf1] at HF1
    go_wp2_with fail
    refine HF1.out.mono ?_
    rintro e wx ⟨rfl, hw⟩
    obtain rfl := hw
    go_wp2_with fail
    go_ret
    exact ⟨rfl, HB1.out⟩
  | true =>
  rw [hf1] at HF1
  have HFew := Lib.hid (fewO_ok hf1)
  have h25 := HFew.out.1
  clear hf1
  go_wp2_with fail
  refine HF1.out.mono ?_
  rintro e wx ⟨rfl, hw⟩
  obtain rfl := hw
  clear HF1
  go_wp2_with fail
  refine (dNew_any w1).mono ?_
  rintro e w2 ⟨rfl, hb2, D0, hd0, ho0, -⟩
  have hz1 := HB1.out.size
  have H0 : Hid (St w (dOb (w1.heap.size + 2) DS.new D0) w2) := Lib.hid ⟨hd0, HB1.out.trans (hb2.mono hz1), fun i hi => Nat.le_trans hz1 (ho0 i hi)⟩
  generalize w1.heap.size + 2 = p at *
  clear hb2 hd0 ho0 HB1 hz1
  go_wp2_with fail
  refine (rNew_any w2).mono ?_
  rintro e w3 ⟨rfl, hb3, E0, he0, hoe0, hke0⟩
  have H1 : Hid (St w ((dOb p DS.new D0).sep (rOb w2.heap.size DS.new E0)) w3) := Lib.hid (H0.out.more hb3 he0 (fun i hi => hoe0 i hi) (fun i hi => by have h : slBlk E0.kA = some i := hi; rw [hke0] at h; cases h))
  generalize w2.heap.size = q at *
  clear hb3 he0 hoe0 hke0 H0
  have hk0 : (openS DS.new 3).keep.length = 0 := by rw [openS_keep]; rfl
  go_wp2_with fail
  refine (jOpen_any p DS.new D0 3 w3 (H1.out.vs HV.out) (fun i hi => H1.out.own i (.inl hi)) (by unfold inI64; omega) (by decide) H1.out.ok.1.1).mono ?_
  rintro e w4 ⟨D1, X1, v1, rfl, hu, hj⟩
  have H2 := Lib.hid (H1.out.upd (OUpd.left H1.out.ok hu))
  have HJ := Lib.hid hj
  clear hu hj H1
  go_wp2_with fail
  refine (sOpen_any q DS.new E0 3 w4 (by unfold inI64; omega) (by decide) H2.out.ok.1.2).mono ?_
  rintro e w5 ⟨E1, Y1, u1, rfl, hu, hj⟩
  have HR1 : Hid (TellR w p q v1 u1 (openS DS.new 3) D1 E1 (openO DS.new 3) X1 Y1 w5) := Lib.hid ⟨HJ.out, hj, H2.out.upd (OUpd.right H2.out.ok hu), by omega, JFit.open DS.new_wf⟩
  clear hu hj H2 HJ hk0
  generalize openS DS.new 3 = S1 at *
  generalize openO DS.new 3 = J1 at *
  generalize openC DS.new 3 = C1 at *
  go_wp2_with fail
  go_loopw [6, 7, 8, 9, 10] (fun v e u f i wr => ∃ (k : Nat) (cc : Int) (S : DS) (D : DL) (E : RL) (J : Option JS) (X Y : Ob), k ≤ l.length ∧ i = .int .i64 k ∧ e = .int .i64 cc ∧ f = .int .i64 cc ∧ TellR w p q v u S D E J X Y wr) (fun _ _ _ _ i _ => l.length - (intOf i).toNat)
  case atStart => exact ⟨0, C1, S1, D1, E1, J1, X1, Y1, Nat.zero_le _, rfl, rfl, rfl, HR1.out⟩
  case round =>
    clear HR1
    obtain ⟨k, cc, S, D, E, J, X, Y, hk, rfl, rfl, rfl, hst⟩ := hrel
    have HSt := Lib.hid hst
    clear hst
    by_cases hlt : k < l.length
    rotate_left
    · have HD := Lib.hid (show St w (((dOb p S D).sep X).sep ((rOb q S E).sep Y)) wr from HSt.out.st)
      go_wp2_with fail
      refine (dStart_any p S D wr HD.out.ok.1.1.1.1).mono ?_
      rintro e w4 ⟨rfl, hu⟩
      obtain ⟨D4, u4⟩ := hu.ob (S := S)
      have H4 := Lib.hid (HD.out.upd (OUpd.left HD.out.ok (OUpd.left HD.out.ok.1.1 u4)))
      clear hu u4 HD HSt
      go_wp2_with fail
      refine (rStart_any q S E w4 H4.out.ok.1.2.1.1).mono ?_
      rintro e w5 ⟨rfl, hu⟩
      obtain ⟨E5, u5⟩ := hu.ob (S := S)
      have H5 := Lib.hid (H4.out.upd (OUpd.right H4.out.ok (OUpd.left H4.out.ok.1.2 u5)))
      clear hu u5 H4
      generalize S.start = S5 at *
      have HW := Lib.hid ((show DK w5 p S5 D4 from H5.out.ok.1.1.1.1).wf.now 3)
      go_wp2_with fail
      refine (dSize_any p S5 D4 w5 3 (by unfold inI64; omega) H5.out.ok.1.1.1.1).mono ?_
      rintro e wx ⟨rfl, hw⟩
      obtain rfl := hw
      go_wp2_with fail
      refine (dRead_any p S5 D4 _ 3 0 _ (by unfold inI64; omega) H5.out.ok.1.1.1.1).mono ?_
      rintro e wx2 ⟨rfl, hw⟩
      obtain rfl := hw
      go_wp2_with fail
      refine (rSize_any q S5 E5 _ 3 H5.out.ok.1.2.1.1).mono ?_
      rintro e w6 ⟨rfl, hb6⟩
      have H6 := Lib.hid (H5.out.on hb6)
      clear hb6 H5
      go_wp2_with fail
      refine (rRead_any q S5 E5 w6 3 0 _ H6.out.ok.1.2.1.1 (by unfold inI64; omega) (by have := HW.out; unfold inI64; omega)).mono ?_
      rintro e w7 ⟨rfl, hb7⟩
      have H7 := Lib.hid (H6.out.on hb7)
      clear hb7 H6
      generalize S5.readS 3 0 _ = x at *
      generalize S5.readC 3 0 _ = y at *
      have hxx : (x.toList == x.toList) = true := by simp
      go_wp2_with fail
      go_ret
      exact ⟨rfl, H7.out.bl⟩
    obtain ⟨b0, off, hA, hb0, c0, c1, c2, c3⟩ := (HR.out.now HSt.out.st.bl).op hlt
    have hok := HL.out l[k] (List.getElem_mem hlt)
    have hfew := HFew.out.2 l[k] (List.getElem_mem hlt)
    subst hA
    have HOk := Lib.hid hok
    have HKl : Hid (l[k].keep ≠ [] → ∀ i, slBlk l[k].kA = some i → i < w.heap.size) := Lib.hid (fun hne i hi => rd_low2 hok.rd hne hi)
    have hi0 : (0 : Int) ≤ (k : Int) := by omega
    have hi1 : (k : Int) < (l.length : Int) := by omega
    have HFw := Lib.hid hfew
    have hfs := hfew.s
    have hfk := hfew.k
    clear hok hfew
    generalize l[k] = a at *
    go_wp2_with fail
    have hbA := (Below.refl wr.heap.size wr).alloc (Nat.le_refl _) (.cells #[.int .i64 a.kind, .string (bs a.s), .int .i64 a.n, .slice a.kA a.keep.length a.kc] 38)
    have HTa : Hid (TSt w (tOb p q S D S E X Y) wr.heap.size a (wr.alloc (.cells #[.int .i64 a.kind, .string (bs a.s), .int .i64 a.n, .slice a.kA a.keep.length a.kc] 38))) := Lib.hid ⟨HSt.out.st.on hbA, fun j v hj => box_cell (heap_alloc_new wr _) j v (by simpa [opC] using hj), by simp, fun h => by have := (tOb p q S D S E X Y).lt wr HSt.out.st.ok _ (.inl h); omega⟩
    have HKe := Lib.hid HSt.out.keep
    have HFt := Lib.hid HSt.out.fit
    have HIj := Lib.hid HSt.out.isj
    have HIr := Lib.hid HSt.out.isr
    clear hbA HSt c0 c1 c2 c3
    generalize wr.heap.size = b at *
    generalize wr.alloc (.cells #[.int .i64 a.kind, .string (bs a.s), .int .i64 a.n, .slice a.kA a.keep.length a.kc] 38) = wa at *
    have hblt := HTa.out.box.lt
    have hbc := HTa.out.box.c1
    have hxx : (sumF a.s != sumF a.s) = false := by simp
    refine wp_region_below [(2, fun _ => .int .i64 (sumF a.s), fun (_ : Option Addr × Nat) _ => True), (5, fun _ => .int .i64 (sumF a.s), fun _ _ => True)] (by kernel_rfl) (by kernel_rfl) (by repeat (first | exact trivial | refine ⟨fun g wa wb hs hs' ht h => by first | exact trivial | exact h.now ht | exact h.below ht | exact ht.cell h | exact h, ?_⟩)) ?_
    rw [List.toList_toArray]
    repeat (first
      | (refine DetE.skip (by rfl) ?_; simp only [Act.put, List.setIfInBounds_toArray, List.set_cons_zero, List.set_cons_succ, List.getElem_toArray, List.getElem_cons_zero, List.getElem_cons_succ])
      | (refine DetE.read (v := ?_) (by rfl) (by rfl) ?_ ?_; rotate_left; (· (intro wq hSq hkq; have hcq := (hSq.cell (p := ⟨b, 1, none⟩) hblt).trans hbc; go_simp; try with_reducible rfl)); simp only [Act.put, List.setIfInBounds_toArray, List.set_cons_zero, List.set_cons_succ, List.getElem_toArray, List.getElem_cons_zero, List.getElem_cons_succ])
      | fail)
    refine DetE.eff _ _ (by rfl) (by rfl) (fun wq hSq hkq K hK => ?_) (fun g2 => ?_)
    · go_simp
      refine ((jSum_any a.s wq (by omega))).mono ?_
      rintro e4 w4 ⟨rfl, rfl⟩
      go_wp2_with fail
      exact hK.out ((none, 0)) _ hSq (Below.refl _ _) (trivial) _ rfl
    simp only [Act.put, List.setIfInBounds_toArray, List.set_cons_zero, List.set_cons_succ, List.getElem_toArray, List.getElem_cons_zero, List.getElem_cons_succ]
    repeat (first
      | (refine DetE.skip (by rfl) ?_; simp only [Act.put, List.setIfInBounds_toArray, List.set_cons_zero, List.set_cons_succ, List.getElem_toArray, List.getElem_cons_zero, List.getElem_cons_succ])
      | (refine DetE.read (v := ?_) (by rfl) (by rfl) ?_ ?_; rotate_left; (· (intro wq hSq hkq; have hcq := (hSq.cell (p := ⟨b, 1, none⟩) hblt).trans hbc; go_simp; try with_reducible rfl)); simp only [Act.put, List.setIfInBounds_toArray, List.set_cons_zero, List.set_cons_succ, List.getElem_toArray, List.getElem_cons_zero, List.getElem_cons_succ])
      | fail)
    refine DetE.eff _ _ (by rfl) (by rfl) (fun wq hSq hkq K hK => ?_) (fun g2 => ?_)
    · go_simp
      refine ((sSum_any a.s wq (by omega))).mono ?_
      rintro e4 w4 ⟨rfl, rfl⟩
      go_wp2_with fail
      exact hK.out ((none, 0)) _ hSq (Below.refl _ _) (trivial) _ rfl
    simp only [Act.put, List.setIfInBounds_toArray, List.set_cons_zero, List.set_cons_succ, List.getElem_toArray, List.getElem_cons_zero, List.getElem_cons_succ]
    repeat (first
      | (refine DetE.skip (by rfl) ?_; simp only [Act.put, List.setIfInBounds_toArray, List.set_cons_zero, List.set_cons_succ, List.getElem_toArray, List.getElem_cons_zero, List.getElem_cons_succ])
      | (refine DetE.read (v := ?_) (by rfl) (by rfl) ?_ ?_; rotate_left; (· (intro wq hSq hkq; skip; go_simp; try with_reducible rfl)); simp only [Act.put, List.setIfInBounds_toArray, List.set_cons_zero, List.set_cons_succ, List.getElem_toArray, List.getElem_cons_zero, List.getElem_cons_succ])
      | fail)
    refine DetE.done fun wz hz hkz => ?_
    have HT := Lib.hid (HTa.out.on hz)
    clear hkz hz hblt hbc HTa
    have c0 := HT.out.box.c0
    have hkk := HOk.out.kind
    by_cases k0 : a.kind = 0
    · have e0 : (a.kind == 0) = true := by simpa using k0
      cases J with
      | none =>
        obtain ⟨rfl, rfl⟩ := HIj.out
        obtain ⟨rfl, rfl⟩ := HIr.out
        go_wp2_with fail
        go_roundw
        case rel => exact ⟨k + 1, cc, _, _, _, none, Ob.nil, Ob.nil, by omega, by go_num, rfl, rfl, ⟨⟨rfl, rfl⟩, ⟨rfl, rfl⟩, HT.out.st, HKe.out, fun _ e => nomatch e⟩⟩
        case measure => simp [intOf]; omega
      | some j =>
        obtain ⟨q1, M, rfl, rfl⟩ := HIj.out
        obtain ⟨q2, N, rfl, rfl⟩ := HIr.out
        have c1 := HT.out.box.c1
        have HApp := Lib.hid (jAppend_any p q1 S D j M a.s wz (HT.out.st.vs HV.out) (by omega) (by have := (HFt.out j rfl).2; omega) (by rw [(HFt.out j rfl).1]; unfold inI64; omega) (by have := HKe.out; omega) HT.out.st.ok.1.1)
        go_wp2_with fail
        refine HApp.out.mono ?_
        rintro e w4 ⟨rfl, D4, M4, hu⟩
        have HT4 := Lib.hid (show TSt w (((dOb p (appS S j a.s) D4).sep (jOb q1 p (appJ S j a.s) M4)).sep ((rOb q S E).sep (rjOb q2 q j N))) b a w4 from HT.out.upd (OUpd.left HT.out.st.ok hu))
        clear hu HT HApp c0 c1
        have c1 := HT4.out.box.c1
        have HApp := Lib.hid (sAppend_any q q2 S E j N a.s w4 (by omega) (by have := (HFt.out j rfl).2; omega) (by rw [(HFt.out j rfl).1]; unfold inI64; omega) (by have := HKe.out; omega) HT4.out.st.ok.1.2)
        go_wp2_with fail
        refine HApp.out.mono ?_
        rintro e w5 ⟨rfl, E5, N5, hu⟩
        have HT5 := Lib.hid (show TSt w (tOb p q (appS S j a.s) D4 (appS S j a.s) E5 (jOb q1 p (appJ S j a.s) M4) (rjOb q2 q (appJ S j a.s) N5)) b a w5 from HT4.out.upd (OUpd.right HT4.out.st.ok hu))
        have HKe5 : Hid ((appS S j a.s).keep.length ≤ 50) := Lib.hid (by rw [appS_keep]; exact HKe.out)
        have HFt5 := Lib.hid (HFt.out.append (S := S) a.s)
        clear hu HT4 HApp c1 HKe HFt
        generalize appS S j a.s = S5 at *
        generalize appJ S j a.s = j5 at *
        generalize appC S j a.s = c5 at *
        have HT := HT5
        have HKe := HKe5
        have HFt := HFt5
        clear HT5 HKe5 HFt5
        go_wp2_with fail
        have HJq := Lib.hid (show JK w5 q1 p j5 M4 from HT.out.st.ok.1.1.1.2)
        have HRq := Lib.hid (show RJK w5 q2 q j5 N5 from HT.out.st.ok.1.2.1.2)
        have hqq := box_lt HRq.out.box
        have hc2 := HRq.out.c2
        have HAllq : Hid (∀ wq : World, Below w5.heap.size w5 wq → Calls Tryz.prog 25 #[.pointer (some ⟨q1, 0, none⟩)] wq fun e w' => ∃ A, e = .returned (.slice A j5.recs.length j5.recs.length) ∧ RdL 1 strE w' w'.heap.size A j5.recs ∧ OwnL w' wq.heap.size 9 1 strE A j5.recs.length j5.recs ∧ Below wq.heap.size wq w') := Lib.hid (fun wq hq => all_as ((jOb q1 p j5 M4).below HJq.out hq) rfl (by have := HFt.out.bound; omega))
        have HSmq : Hid (∀ (wq : World) (A4 : Option Addr), Below w5.heap.size w5 wq → RdL 1 strE wq wq.heap.size A4 j5.recs → Calls Tryz.prog 24 #[.slice A4 j5.recs.length j5.recs.length, .slice N5.A j5.recs.length N5.c] wq fun e w' => e = .returned (.bool true) ∧ Below wq.heap.size wq w') := Lib.hid (fun wq A4 hq h4 => same_refl j5.recs A4 N5.A j5.recs.length N5.c wq h4 ((HRq.out.recs.rd strLayJ).now hq) (by have := HFt.out.bound; omega))
        refine wp_region_below [(8, fun g => .slice g.1 j5.recs.length j5.recs.length, fun g w' => RdL 1 strE w' w'.heap.size g.1 j5.recs), (13, fun _ => .bool true, fun (_ : Option Addr × Nat) _ => True)] (by kernel_rfl) (by kernel_rfl) (by repeat (first | exact trivial | refine ⟨fun g wa wb hs hs' ht h => by first | exact trivial | exact h.now ht | exact h.below ht | exact ht.cell h | exact h, ?_⟩)) ?_
        rw [List.toList_toArray]
        repeat (first
          | (refine DetE.skip (by rfl) ?_; simp only [Act.put, List.setIfInBounds_toArray, List.set_cons_zero, List.set_cons_succ, List.getElem_toArray, List.getElem_cons_zero, List.getElem_cons_succ])
          | (refine DetE.read (v := ?_) (by rfl) (by rfl) ?_ ?_; rotate_left; (· (intro wq hSq hkq; skip; go_simp; try with_reducible rfl)); simp only [Act.put, List.setIfInBounds_toArray, List.set_cons_zero, List.set_cons_succ, List.getElem_toArray, List.getElem_cons_zero, List.getElem_cons_succ])
          | fail)
        refine DetE.eff _ _ (by rfl) (by rfl) (fun wq hSq hkq K hK => ?_) (fun g1 => ?_)
        · go_simp
          refine (HAllq.out wq hSq).mono ?_
          rintro e4 w4 ⟨A4, rfl, ho4, -, hb4⟩
          go_wp2_with fail
          exact hK.out ((A4, 0)) _ (hSq.trans (hb4.mono hSq.size)) hb4 (ho4) _ rfl
        simp only [Act.put, List.setIfInBounds_toArray, List.set_cons_zero, List.set_cons_succ, List.getElem_toArray, List.getElem_cons_zero, List.getElem_cons_succ]
        repeat (first
          | (refine DetE.skip (by rfl) ?_; simp only [Act.put, List.setIfInBounds_toArray, List.set_cons_zero, List.set_cons_succ, List.getElem_toArray, List.getElem_cons_zero, List.getElem_cons_succ])
          | (refine DetE.read (v := ?_) (by rfl) (by rfl) ?_ ?_; rotate_left; (· (intro wq hSq hkq; have hcq := (hSq.cell (p := ⟨q2, 2, none⟩) hqq).trans hc2; go_simp; try with_reducible rfl)); simp only [Act.put, List.setIfInBounds_toArray, List.set_cons_zero, List.set_cons_succ, List.getElem_toArray, List.getElem_cons_zero, List.getElem_cons_succ])
          | fail)
        refine DetE.eff _ _ (by rfl) (by rfl) (fun wq hSq hkq K hK => ?_) (fun g2 => ?_)
        · go_simp
          refine (HSmq.out wq g1.1 hSq (hkq 8 _ rfl (by kernel_rfl))).mono ?_
          rintro e4 w4 ⟨rfl, hb4⟩
          go_wp2_with fail
          exact hK.out ((none, 0)) _ (hSq.trans (hb4.mono hSq.size)) hb4 (trivial) _ rfl
        simp only [Act.put, List.setIfInBounds_toArray, List.set_cons_zero, List.set_cons_succ, List.getElem_toArray, List.getElem_cons_zero, List.getElem_cons_succ]
        repeat (first
          | (refine DetE.skip (by rfl) ?_; simp only [Act.put, List.setIfInBounds_toArray, List.set_cons_zero, List.set_cons_succ, List.getElem_toArray, List.getElem_cons_zero, List.getElem_cons_succ])
          | (refine DetE.read (v := ?_) (by rfl) (by rfl) ?_ ?_; rotate_left; (· (intro wq hSq hkq; skip; go_simp; try with_reducible rfl)); simp only [Act.put, List.setIfInBounds_toArray, List.set_cons_zero, List.set_cons_succ, List.getElem_toArray, List.getElem_cons_zero, List.getElem_cons_succ])
          | fail)
        refine DetE.done fun wz hz hkz => ?_
        have HT2 := Lib.hid (HT.out.on hz)
        clear hkz hz HAllq HSmq HJq HRq hc2 HT
        go_wp2_with fail
        go_roundw
        case rel => exact ⟨k + 1, c5, _, _, _, some j5, jOb q1 p j5 M4, rjOb q2 q j5 N5, by omega, by go_num, rfl, rfl, ⟨⟨q1, M4, rfl, rfl⟩, ⟨q2, N5, rfl, rfl⟩, HT2.out.st, HKe.out, HFt.out⟩⟩
        case measure => simp [intOf]; omega
    have e0 : (a.kind == 0) = false := by simpa using k0
    by_cases k1 : a.kind = 1
    · have e1 : (a.kind == 1) = true := by simpa using k1
      cases J with
      | none =>
        obtain ⟨rfl, rfl⟩ := HIj.out
        obtain ⟨rfl, rfl⟩ := HIr.out
        go_wp2_with fail
        go_roundw
        case rel => exact ⟨k + 1, cc, _, _, _, none, Ob.nil, Ob.nil, by omega, by go_num, rfl, rfl, ⟨⟨rfl, rfl⟩, ⟨rfl, rfl⟩, HT.out.st, HKe.out, fun _ e => nomatch e⟩⟩
        case measure => simp [intOf]; omega
      | some j =>
        obtain ⟨q1, M, rfl, rfl⟩ := HIj.out
        obtain ⟨q2, N, rfl, rfl⟩ := HIr.out
        have HApp := Lib.hid (jSync_any p q1 S D j M wz (by rw [(HFt.out j rfl).1]; unfold inI64; omega) (by have := HKe.out; omega) HT.out.st.ok.1.1)
        go_wp2_with fail
        refine HApp.out.mono ?_
        rintro e w4 ⟨rfl, D4, M4, hu⟩
        have HT4 := Lib.hid (show TSt w (((dOb p (synS S j) D4).sep (jOb q1 p (synJ S j) M4)).sep ((rOb q S E).sep (rjOb q2 q j N))) b a w4 from HT.out.upd (OUpd.left HT.out.st.ok hu))
        clear hu HT HApp c0
        have HApp := Lib.hid (sSync_any q q2 S E j N w4 (by have := HKe.out; omega) HT4.out.st.ok.1.2)
        go_wp2_with fail
        refine HApp.out.mono ?_
        rintro e w5 ⟨rfl, E5, N5, hu⟩
        have HT5 := Lib.hid (show TSt w (tOb p q (synS S j) D4 (synS S j) E5 (jOb q1 p (synJ S j) M4) (rjOb q2 q (synJ S j) N5)) b a w5 from HT4.out.upd (OUpd.right HT4.out.st.ok hu))
        have HKe5 : Hid ((synS S j).keep.length ≤ 50) := Lib.hid (by rw [synS_keep]; exact HKe.out)
        have HFt5 := Lib.hid (HFt.out.sync (S := S))
        clear hu HT4 HApp HKe HFt
        generalize synS S j = S5 at *
        generalize synJ S j = j5 at *
        generalize synC S j = c5 at *
        have HT := HT5
        have HKe := HKe5
        have HFt := HFt5
        clear HT5 HKe5 HFt5
        go_wp2_with fail
        have HJq := Lib.hid (show JK w5 q1 p j5 M4 from HT.out.st.ok.1.1.1.2)
        have HRq := Lib.hid (show RJK w5 q2 q j5 N5 from HT.out.st.ok.1.2.1.2)
        have hqq := box_lt HRq.out.box
        have hc2 := HRq.out.c2
        have HAllq : Hid (∀ wq : World, Below w5.heap.size w5 wq → Calls Tryz.prog 25 #[.pointer (some ⟨q1, 0, none⟩)] wq fun e w' => ∃ A, e = .returned (.slice A j5.recs.length j5.recs.length) ∧ RdL 1 strE w' w'.heap.size A j5.recs ∧ OwnL w' wq.heap.size 9 1 strE A j5.recs.length j5.recs ∧ Below wq.heap.size wq w') := Lib.hid (fun wq hq => all_as ((jOb q1 p j5 M4).below HJq.out hq) rfl (by have := HFt.out.bound; omega))
        have HSmq : Hid (∀ (wq : World) (A4 : Option Addr), Below w5.heap.size w5 wq → RdL 1 strE wq wq.heap.size A4 j5.recs → Calls Tryz.prog 24 #[.slice A4 j5.recs.length j5.recs.length, .slice N5.A j5.recs.length N5.c] wq fun e w' => e = .returned (.bool true) ∧ Below wq.heap.size wq w') := Lib.hid (fun wq A4 hq h4 => same_refl j5.recs A4 N5.A j5.recs.length N5.c wq h4 ((HRq.out.recs.rd strLayJ).now hq) (by have := HFt.out.bound; omega))
        refine wp_region_below [(8, fun g => .slice g.1 j5.recs.length j5.recs.length, fun g w' => RdL 1 strE w' w'.heap.size g.1 j5.recs), (13, fun _ => .bool true, fun (_ : Option Addr × Nat) _ => True)] (by kernel_rfl) (by kernel_rfl) (by repeat (first | exact trivial | refine ⟨fun g wa wb hs hs' ht h => by first | exact trivial | exact h.now ht | exact h.below ht | exact ht.cell h | exact h, ?_⟩)) ?_
        rw [List.toList_toArray]
        repeat (first
          | (refine DetE.skip (by rfl) ?_; simp only [Act.put, List.setIfInBounds_toArray, List.set_cons_zero, List.set_cons_succ, List.getElem_toArray, List.getElem_cons_zero, List.getElem_cons_succ])
          | (refine DetE.read (v := ?_) (by rfl) (by rfl) ?_ ?_; rotate_left; (· (intro wq hSq hkq; skip; go_simp; try with_reducible rfl)); simp only [Act.put, List.setIfInBounds_toArray, List.set_cons_zero, List.set_cons_succ, List.getElem_toArray, List.getElem_cons_zero, List.getElem_cons_succ])
          | fail)
        refine DetE.eff _ _ (by rfl) (by rfl) (fun wq hSq hkq K hK => ?_) (fun g1 => ?_)
        · go_simp
          refine (HAllq.out wq hSq).mono ?_
          rintro e4 w4 ⟨A4, rfl, ho4, -, hb4⟩
          go_wp2_with fail
          exact hK.out ((A4, 0)) _ (hSq.trans (hb4.mono hSq.size)) hb4 (ho4) _ rfl
        simp only [Act.put, List.setIfInBounds_toArray, List.set_cons_zero, List.set_cons_succ, List.getElem_toArray, List.getElem_cons_zero, List.getElem_cons_succ]
        repeat (first
          | (refine DetE.skip (by rfl) ?_; simp only [Act.put, List.setIfInBounds_toArray, List.set_cons_zero, List.set_cons_succ, List.getElem_toArray, List.getElem_cons_zero, List.getElem_cons_succ])
          | (refine DetE.read (v := ?_) (by rfl) (by rfl) ?_ ?_; rotate_left; (· (intro wq hSq hkq; have hcq := (hSq.cell (p := ⟨q2, 2, none⟩) hqq).trans hc2; go_simp; try with_reducible rfl)); simp only [Act.put, List.setIfInBounds_toArray, List.set_cons_zero, List.set_cons_succ, List.getElem_toArray, List.getElem_cons_zero, List.getElem_cons_succ])
          | fail)
        refine DetE.eff _ _ (by rfl) (by rfl) (fun wq hSq hkq K hK => ?_) (fun g2 => ?_)
        · go_simp
          refine (HSmq.out wq g1.1 hSq (hkq 8 _ rfl (by kernel_rfl))).mono ?_
          rintro e4 w4 ⟨rfl, hb4⟩
          go_wp2_with fail
          exact hK.out ((none, 0)) _ (hSq.trans (hb4.mono hSq.size)) hb4 (trivial) _ rfl
        simp only [Act.put, List.setIfInBounds_toArray, List.set_cons_zero, List.set_cons_succ, List.getElem_toArray, List.getElem_cons_zero, List.getElem_cons_succ]
        repeat (first
          | (refine DetE.skip (by rfl) ?_; simp only [Act.put, List.setIfInBounds_toArray, List.set_cons_zero, List.set_cons_succ, List.getElem_toArray, List.getElem_cons_zero, List.getElem_cons_succ])
          | (refine DetE.read (v := ?_) (by rfl) (by rfl) ?_ ?_; rotate_left; (· (intro wq hSq hkq; skip; go_simp; try with_reducible rfl)); simp only [Act.put, List.setIfInBounds_toArray, List.set_cons_zero, List.set_cons_succ, List.getElem_toArray, List.getElem_cons_zero, List.getElem_cons_succ])
          | fail)
        refine DetE.done fun wz hz hkz => ?_
        have HT2 := Lib.hid (HT.out.on hz)
        clear hkz hz HAllq HSmq HJq HRq hc2 HT
        go_wp2_with fail
        go_roundw
        case rel => exact ⟨k + 1, c5, _, _, _, some j5, jOb q1 p j5 M4, rjOb q2 q j5 N5, by omega, by go_num, rfl, rfl, ⟨⟨q1, M4, rfl, rfl⟩, ⟨q2, N5, rfl, rfl⟩, HT2.out.st, HKe.out, HFt.out⟩⟩
        case measure => simp [intOf]; omega
    have e1 : (a.kind == 1) = false := by simpa using k1
    by_cases k2 : a.kind = 2
    · have e2 : (a.kind == 2) = true := by simpa using k2
      have c2 := HT.out.box.c2
      go_wp2_with fail
      refine (dLose_any p S D wz a.n HOk.out.n HT.out.dk).mono ?_
      rintro e w4 ⟨rfl, hu⟩
      obtain ⟨D4, ht4⟩ := HT.out.left hu
      have HT4 := Lib.hid ht4
      clear hu ht4 HT c0 c2
      have c2 := HT4.out.box.c2
      go_wp2_with fail
      refine (rLose_any q S E w4 a.n HOk.out.n HT4.out.rk).mono ?_
      rintro e w5 ⟨rfl, hu⟩
      obtain ⟨E5, ht5⟩ := HT4.out.right hu
      have HT5 := Lib.hid ht5
      have HKe5 : Hid ((S.lose a.n).keep.length ≤ 50) := Lib.hid HKe.out
      clear hu ht5 HT4 c2 HKe
      generalize S.lose a.n = S5 at *
      cases J with
      | none =>
        obtain ⟨rfl, rfl⟩ := HIj.out
        obtain ⟨rfl, rfl⟩ := HIr.out
        have HT := HT5
        have HKe := HKe5
        clear HT5 HKe5
        go_wp2_with fail
        go_quiet (fail)
        go_wp2_with fail
        go_roundw
        case rel => exact ⟨k + 1, cc, _, _, _, none, Ob.nil, Ob.nil, by omega, by go_num, rfl, rfl, ⟨⟨rfl, rfl⟩, ⟨rfl, rfl⟩, (HT.out.on (below_drewN (Below.refl _ _) _)).st, HKe.out, fun _ e => nomatch e⟩⟩
        case measure => simp [intOf]; omega
      | some j5 =>
        obtain ⟨q1, M4, rfl, rfl⟩ := HIj.out
        obtain ⟨q2, N5, rfl, rfl⟩ := HIr.out
        have HT := HT5
        have HKe := HKe5
        clear HT5 HKe5
        go_wp2_with fail
        have HJq := Lib.hid (show JK w5 q1 p j5 M4 from HT.out.st.ok.1.1.1.2)
        have HRq := Lib.hid (show RJK w5 q2 q j5 N5 from HT.out.st.ok.1.2.1.2)
        have hqq := box_lt HRq.out.box
        have hc2 := HRq.out.c2
        have HAllq : Hid (∀ wq : World, Below w5.heap.size w5 wq → Calls Tryz.prog 25 #[.pointer (some ⟨q1, 0, none⟩)] wq fun e w' => ∃ A, e = .returned (.slice A j5.recs.length j5.recs.length) ∧ RdL 1 strE w' w'.heap.size A j5.recs ∧ OwnL w' wq.heap.size 9 1 strE A j5.recs.length j5.recs ∧ Below wq.heap.size wq w') := Lib.hid (fun wq hq => all_as ((jOb q1 p j5 M4).below HJq.out hq) rfl (by have := HFt.out.bound; omega))
        have HSmq : Hid (∀ (wq : World) (A4 : Option Addr), Below w5.heap.size w5 wq → RdL 1 strE wq wq.heap.size A4 j5.recs → Calls Tryz.prog 24 #[.slice A4 j5.recs.length j5.recs.length, .slice N5.A j5.recs.length N5.c] wq fun e w' => e = .returned (.bool true) ∧ Below wq.heap.size wq w') := Lib.hid (fun wq A4 hq h4 => same_refl j5.recs A4 N5.A j5.recs.length N5.c wq h4 ((HRq.out.recs.rd strLayJ).now hq) (by have := HFt.out.bound; omega))
        refine wp_region_below [(8, fun g => .slice g.1 j5.recs.length j5.recs.length, fun g w' => RdL 1 strE w' w'.heap.size g.1 j5.recs), (13, fun _ => .bool true, fun (_ : Option Addr × Nat) _ => True)] (by kernel_rfl) (by kernel_rfl) (by repeat (first | exact trivial | refine ⟨fun g wa wb hs hs' ht h => by first | exact trivial | exact h.now ht | exact h.below ht | exact ht.cell h | exact h, ?_⟩)) ?_
        rw [List.toList_toArray]
        repeat (first
          | (refine DetE.skip (by rfl) ?_; simp only [Act.put, List.setIfInBounds_toArray, List.set_cons_zero, List.set_cons_succ, List.getElem_toArray, List.getElem_cons_zero, List.getElem_cons_succ])
          | (refine DetE.read (v := ?_) (by rfl) (by rfl) ?_ ?_; rotate_left; (· (intro wq hSq hkq; skip; go_simp; try with_reducible rfl)); simp only [Act.put, List.setIfInBounds_toArray, List.set_cons_zero, List.set_cons_succ, List.getElem_toArray, List.getElem_cons_zero, List.getElem_cons_succ])
          | fail)
        refine DetE.eff _ _ (by rfl) (by rfl) (fun wq hSq hkq K hK => ?_) (fun g1 => ?_)
        · go_simp
          refine (HAllq.out wq hSq).mono ?_
          rintro e4 w4 ⟨A4, rfl, ho4, -, hb4⟩
          go_wp2_with fail
          exact hK.out ((A4, 0)) _ (hSq.trans (hb4.mono hSq.size)) hb4 (ho4) _ rfl
        simp only [Act.put, List.setIfInBounds_toArray, List.set_cons_zero, List.set_cons_succ, List.getElem_toArray, List.getElem_cons_zero, List.getElem_cons_succ]
        repeat (first
          | (refine DetE.skip (by rfl) ?_; simp only [Act.put, List.setIfInBounds_toArray, List.set_cons_zero, List.set_cons_succ, List.getElem_toArray, List.getElem_cons_zero, List.getElem_cons_succ])
          | (refine DetE.read (v := ?_) (by rfl) (by rfl) ?_ ?_; rotate_left; (· (intro wq hSq hkq; have hcq := (hSq.cell (p := ⟨q2, 2, none⟩) hqq).trans hc2; go_simp; try with_reducible rfl)); simp only [Act.put, List.setIfInBounds_toArray, List.set_cons_zero, List.set_cons_succ, List.getElem_toArray, List.getElem_cons_zero, List.getElem_cons_succ])
          | fail)
        refine DetE.eff _ _ (by rfl) (by rfl) (fun wq hSq hkq K hK => ?_) (fun g2 => ?_)
        · go_simp
          refine (HSmq.out wq g1.1 hSq (hkq 8 _ rfl (by kernel_rfl))).mono ?_
          rintro e4 w4 ⟨rfl, hb4⟩
          go_wp2_with fail
          exact hK.out ((none, 0)) _ (hSq.trans (hb4.mono hSq.size)) hb4 (trivial) _ rfl
        simp only [Act.put, List.setIfInBounds_toArray, List.set_cons_zero, List.set_cons_succ, List.getElem_toArray, List.getElem_cons_zero, List.getElem_cons_succ]
        repeat (first
          | (refine DetE.skip (by rfl) ?_; simp only [Act.put, List.setIfInBounds_toArray, List.set_cons_zero, List.set_cons_succ, List.getElem_toArray, List.getElem_cons_zero, List.getElem_cons_succ])
          | (refine DetE.read (v := ?_) (by rfl) (by rfl) ?_ ?_; rotate_left; (· (intro wq hSq hkq; skip; go_simp; try with_reducible rfl)); simp only [Act.put, List.setIfInBounds_toArray, List.set_cons_zero, List.set_cons_succ, List.getElem_toArray, List.getElem_cons_zero, List.getElem_cons_succ])
          | fail)
        refine DetE.done fun wz hz hkz => ?_
        have HT2 := Lib.hid (HT.out.on hz)
        clear hkz hz HAllq HSmq HJq HRq hc2 HT
        go_wp2_with fail
        go_roundw
        case rel => exact ⟨k + 1, cc, _, _, _, some j5, jOb q1 p j5 M4, rjOb q2 q j5 N5, by omega, by go_num, rfl, rfl, ⟨⟨q1, M4, rfl, rfl⟩, ⟨q2, N5, rfl, rfl⟩, HT2.out.st, HKe.out, HFt.out⟩⟩
        case measure => simp [intOf]; omega
    have e2 : (a.kind == 2) = false := by simpa using k2
    by_cases k3 : a.kind = 3
    · have e3 : (a.kind == 3) = true := by simpa using k3
      have c2 := HT.out.box.c2
      have c3 := HT.out.box.c3
      go_wp2_with fail
      refine (dArm_any p S D wz a.n HOk.out.n a.keep a.kA a.keep.length a.kc rfl (HOk.out.rd.now HT.out.st.bl) (by omega) HOk.out.k HT.out.dk).mono ?_
      rintro e w4 ⟨rfl, hu⟩
      obtain ⟨D4, ht4⟩ := HT.out.left hu
      have HT4 := Lib.hid ht4
      clear hu ht4 HT c0 c2 c3
      have c2 := HT4.out.box.c2
      have c3 := HT4.out.box.c3
      go_wp2_with fail
      refine (rArm_any q S E w4 a.n HOk.out.n a.keep a.kA a.keep.length a.kc rfl (HOk.out.rd.now HT4.out.st.bl) (by omega) HOk.out.k HT4.out.rk (fun i hne hi e => by have := HKl.out hne i hi; have := HT4.out.own.2 q (.inl rfl); omega)).mono ?_
      rintro e w5 ⟨rfl, hu⟩
      obtain ⟨E5, ht5⟩ := HT4.out.right hu
      have HT5 := Lib.hid ht5
      have HKe5 : Hid ((S.arm a.n a.keep).keep.length ≤ 50) := Lib.hid hfk
      clear hu ht5 HT4 c2 c3 HKe
      generalize S.arm a.n a.keep = S5 at *
      cases J with
      | none =>
        obtain ⟨rfl, rfl⟩ := HIj.out
        obtain ⟨rfl, rfl⟩ := HIr.out
        have HT := HT5
        have HKe := HKe5
        clear HT5 HKe5
        go_wp2_with fail
        go_quiet (fail)
        go_wp2_with fail
        go_roundw
        case rel => exact ⟨k + 1, cc, _, _, _, none, Ob.nil, Ob.nil, by omega, by go_num, rfl, rfl, ⟨⟨rfl, rfl⟩, ⟨rfl, rfl⟩, (HT.out.on (below_drewN (Below.refl _ _) _)).st, HKe.out, fun _ e => nomatch e⟩⟩
        case measure => simp [intOf]; omega
      | some j5 =>
        obtain ⟨q1, M4, rfl, rfl⟩ := HIj.out
        obtain ⟨q2, N5, rfl, rfl⟩ := HIr.out
        have HT := HT5
        have HKe := HKe5
        clear HT5 HKe5
        go_wp2_with fail
        have HJq := Lib.hid (show JK w5 q1 p j5 M4 from HT.out.st.ok.1.1.1.2)
        have HRq := Lib.hid (show RJK w5 q2 q j5 N5 from HT.out.st.ok.1.2.1.2)
        have hqq := box_lt HRq.out.box
        have hc2 := HRq.out.c2
        have HAllq : Hid (∀ wq : World, Below w5.heap.size w5 wq → Calls Tryz.prog 25 #[.pointer (some ⟨q1, 0, none⟩)] wq fun e w' => ∃ A, e = .returned (.slice A j5.recs.length j5.recs.length) ∧ RdL 1 strE w' w'.heap.size A j5.recs ∧ OwnL w' wq.heap.size 9 1 strE A j5.recs.length j5.recs ∧ Below wq.heap.size wq w') := Lib.hid (fun wq hq => all_as ((jOb q1 p j5 M4).below HJq.out hq) rfl (by have := HFt.out.bound; omega))
        have HSmq : Hid (∀ (wq : World) (A4 : Option Addr), Below w5.heap.size w5 wq → RdL 1 strE wq wq.heap.size A4 j5.recs → Calls Tryz.prog 24 #[.slice A4 j5.recs.length j5.recs.length, .slice N5.A j5.recs.length N5.c] wq fun e w' => e = .returned (.bool true) ∧ Below wq.heap.size wq w') := Lib.hid (fun wq A4 hq h4 => same_refl j5.recs A4 N5.A j5.recs.length N5.c wq h4 ((HRq.out.recs.rd strLayJ).now hq) (by have := HFt.out.bound; omega))
        refine wp_region_below [(8, fun g => .slice g.1 j5.recs.length j5.recs.length, fun g w' => RdL 1 strE w' w'.heap.size g.1 j5.recs), (13, fun _ => .bool true, fun (_ : Option Addr × Nat) _ => True)] (by kernel_rfl) (by kernel_rfl) (by repeat (first | exact trivial | refine ⟨fun g wa wb hs hs' ht h => by first | exact trivial | exact h.now ht | exact h.below ht | exact ht.cell h | exact h, ?_⟩)) ?_
        rw [List.toList_toArray]
        repeat (first
          | (refine DetE.skip (by rfl) ?_; simp only [Act.put, List.setIfInBounds_toArray, List.set_cons_zero, List.set_cons_succ, List.getElem_toArray, List.getElem_cons_zero, List.getElem_cons_succ])
          | (refine DetE.read (v := ?_) (by rfl) (by rfl) ?_ ?_; rotate_left; (· (intro wq hSq hkq; skip; go_simp; try with_reducible rfl)); simp only [Act.put, List.setIfInBounds_toArray, List.set_cons_zero, List.set_cons_succ, List.getElem_toArray, List.getElem_cons_zero, List.getElem_cons_succ])
          | fail)
        refine DetE.eff _ _ (by rfl) (by rfl) (fun wq hSq hkq K hK => ?_) (fun g1 => ?_)
        · go_simp
          refine (HAllq.out wq hSq).mono ?_
          rintro e4 w4 ⟨A4, rfl, ho4, -, hb4⟩
          go_wp2_with fail
          exact hK.out ((A4, 0)) _ (hSq.trans (hb4.mono hSq.size)) hb4 (ho4) _ rfl
        simp only [Act.put, List.setIfInBounds_toArray, List.set_cons_zero, List.set_cons_succ, List.getElem_toArray, List.getElem_cons_zero, List.getElem_cons_succ]
        repeat (first
          | (refine DetE.skip (by rfl) ?_; simp only [Act.put, List.setIfInBounds_toArray, List.set_cons_zero, List.set_cons_succ, List.getElem_toArray, List.getElem_cons_zero, List.getElem_cons_succ])
          | (refine DetE.read (v := ?_) (by rfl) (by rfl) ?_ ?_; rotate_left; (· (intro wq hSq hkq; have hcq := (hSq.cell (p := ⟨q2, 2, none⟩) hqq).trans hc2; go_simp; try with_reducible rfl)); simp only [Act.put, List.setIfInBounds_toArray, List.set_cons_zero, List.set_cons_succ, List.getElem_toArray, List.getElem_cons_zero, List.getElem_cons_succ])
          | fail)
        refine DetE.eff _ _ (by rfl) (by rfl) (fun wq hSq hkq K hK => ?_) (fun g2 => ?_)
        · go_simp
          refine (HSmq.out wq g1.1 hSq (hkq 8 _ rfl (by kernel_rfl))).mono ?_
          rintro e4 w4 ⟨rfl, hb4⟩
          go_wp2_with fail
          exact hK.out ((none, 0)) _ (hSq.trans (hb4.mono hSq.size)) hb4 (trivial) _ rfl
        simp only [Act.put, List.setIfInBounds_toArray, List.set_cons_zero, List.set_cons_succ, List.getElem_toArray, List.getElem_cons_zero, List.getElem_cons_succ]
        repeat (first
          | (refine DetE.skip (by rfl) ?_; simp only [Act.put, List.setIfInBounds_toArray, List.set_cons_zero, List.set_cons_succ, List.getElem_toArray, List.getElem_cons_zero, List.getElem_cons_succ])
          | (refine DetE.read (v := ?_) (by rfl) (by rfl) ?_ ?_; rotate_left; (· (intro wq hSq hkq; skip; go_simp; try with_reducible rfl)); simp only [Act.put, List.setIfInBounds_toArray, List.set_cons_zero, List.set_cons_succ, List.getElem_toArray, List.getElem_cons_zero, List.getElem_cons_succ])
          | fail)
        refine DetE.done fun wz hz hkz => ?_
        have HT2 := Lib.hid (HT.out.on hz)
        clear hkz hz HAllq HSmq HJq HRq hc2 HT
        go_wp2_with fail
        go_roundw
        case rel => exact ⟨k + 1, cc, _, _, _, some j5, jOb q1 p j5 M4, rjOb q2 q j5 N5, by omega, by go_num, rfl, rfl, ⟨⟨q1, M4, rfl, rfl⟩, ⟨q2, N5, rfl, rfl⟩, HT2.out.st, HKe.out, HFt.out⟩⟩
        case measure => simp [intOf]; omega
    have e3 : (a.kind == 3) = false := by simpa using k3
    by_cases k45 : a.kind = 4 ∨ a.kind = 5
    · have HG := Lib.hid HT.out.bare
      have c3 := HT.out.box.c3
      clear HT HIj HIr HFt
      rcases k45 with k4 | k4
      · have e4 : (a.kind == 4) = true := by simpa using k4
        go_wp2_with fail
        refine (dCrash_any p S D wz a.keep a.kA a.kc (HOk.out.rd.now HG.out.st.bl) (by omega) (fun hne i hi ho => by have := HKl.out hne i hi; have := HG.out.st.own i (.inl ho); omega) HG.out.st.ok.1.1).mono ?_
        rintro e w4 ⟨rfl, hu⟩
        obtain ⟨D4, hg4⟩ := HG.out.bl hu
        have HG4 := Lib.hid hg4
        clear hu hg4 HG c0 c3
        have c3 := HG4.out.box.c3
        go_wp2_with fail
        refine (rCrash_any q S E w4 a.keep a.kA a.kc (HOk.out.rd.now HG4.out.st.bl) (by omega) (fun hne i hi ho => by have := HKl.out hne i hi; have := HG4.out.st.own i (.inr ho); omega) HG4.out.st.ok.1.2).mono ?_
        rintro e w5 ⟨rfl, hu⟩
        obtain ⟨E4, hg5⟩ := HG4.out.br hu
        have HG5 := Lib.hid hg5
        have HKe5 : Hid ((S.crash a.keep).keep.length ≤ 50) := Lib.hid (by rw [crash_keep]; exact HKe.out)
        clear hu hg5 HG4 c3 HKe
        generalize S.crash a.keep = S4 at *
        go_wp2_with fail
        refine (dStart_any p S4 D4 w5 HG5.out.st.ok.1.1).mono ?_
        rintro e w6 ⟨rfl, hu⟩
        obtain ⟨D6, hg6⟩ := HG5.out.bl hu
        have HG6 := Lib.hid hg6
        clear hu hg6 HG5
        go_wp2_with fail
        refine (rStart_any q S4 E4 w6 HG6.out.st.ok.1.2).mono ?_
        rintro e w7 ⟨rfl, hu⟩
        obtain ⟨E7, hg7⟩ := HG6.out.br hu
        have HG7 := Lib.hid hg7
        have HKe7 : Hid ((S4).start.keep.length ≤ 50) := Lib.hid HKe5.out
        clear hu hg7 HG6 HKe5
        generalize (S4).start = S7 at *
        have HWf := Lib.hid ((show DK w7 p S7 D6 from HG7.out.st.ok.1.1).wf)
        go_wp2_with fail
        refine (jOpen_any p S7 D6 3 w7 (HG7.out.st.vs HV.out) (fun i hi => HG7.out.st.own i (.inl hi)) (by unfold inI64; omega) (by have := HKe7.out; omega) HG7.out.st.ok.1.1).mono ?_
        rintro e w8 ⟨D8, X8, v8, rfl, hu, hj⟩
        have HG8 := Lib.hid (HG7.out.upd (OUpd.left HG7.out.st.ok hu))
        have HIj := Lib.hid hj
        clear hu hj HG7
        go_wp2_with fail
        refine (sOpen_any q S7 E7 3 w8 (by unfold inI64; omega) (by have := HKe7.out; omega) HG8.out.st.ok.1.2).mono ?_
        rintro e w5 ⟨E9, Y8, u8, rfl, hu, hj⟩
        have HT5 := Lib.hid (show TSt w (tOb p q (openS S7 3) D8 (openS S7 3) E9 X8 Y8) b a w5 from HG8.out.upd (OUpd.right HG8.out.st.ok hu))
        have HIr := Lib.hid hj
        have HKe5 : Hid ((openS S7 3).keep.length ≤ 50) := Lib.hid (by rw [openS_keep]; exact HKe7.out)
        have HFt := Lib.hid (JFit.open HWf.out)
        clear hu hj HG8 HKe7 HWf
        generalize openS S7 3 = S9 at *
        generalize openO S7 3 = J at *
        generalize openC S7 3 = c9 at *
        cases J with
        | none =>
          obtain ⟨rfl, rfl⟩ := HIj.out
          obtain ⟨rfl, rfl⟩ := HIr.out
          have HT := HT5
          have HKe := HKe5
          clear HT5 HKe5
          go_wp2_with fail
          go_quiet (fail)
          go_wp2_with fail
          go_roundw
          case rel => exact ⟨k + 1, c9, _, _, _, none, Ob.nil, Ob.nil, by omega, by go_num, rfl, rfl, ⟨⟨rfl, rfl⟩, ⟨rfl, rfl⟩, (HT.out.on (below_drewN (Below.refl _ _) _)).st, HKe.out, fun _ e => nomatch e⟩⟩
          case measure => simp [intOf]; omega
        | some j5 =>
          obtain ⟨q1, M4, rfl, rfl⟩ := HIj.out
          obtain ⟨q2, N5, rfl, rfl⟩ := HIr.out
          have HT := HT5
          have HKe := HKe5
          clear HT5 HKe5
          go_wp2_with fail
          have HJq := Lib.hid (show JK w5 q1 p j5 M4 from HT.out.st.ok.1.1.1.2)
          have HRq := Lib.hid (show RJK w5 q2 q j5 N5 from HT.out.st.ok.1.2.1.2)
          have hqq := box_lt HRq.out.box
          have hc2 := HRq.out.c2
          have HAllq : Hid (∀ wq : World, Below w5.heap.size w5 wq → Calls Tryz.prog 25 #[.pointer (some ⟨q1, 0, none⟩)] wq fun e w' => ∃ A, e = .returned (.slice A j5.recs.length j5.recs.length) ∧ RdL 1 strE w' w'.heap.size A j5.recs ∧ OwnL w' wq.heap.size 9 1 strE A j5.recs.length j5.recs ∧ Below wq.heap.size wq w') := Lib.hid (fun wq hq => all_as ((jOb q1 p j5 M4).below HJq.out hq) rfl (by have := HFt.out.bound; omega))
          have HSmq : Hid (∀ (wq : World) (A4 : Option Addr), Below w5.heap.size w5 wq → RdL 1 strE wq wq.heap.size A4 j5.recs → Calls Tryz.prog 24 #[.slice A4 j5.recs.length j5.recs.length, .slice N5.A j5.recs.length N5.c] wq fun e w' => e = .returned (.bool true) ∧ Below wq.heap.size wq w') := Lib.hid (fun wq A4 hq h4 => same_refl j5.recs A4 N5.A j5.recs.length N5.c wq h4 ((HRq.out.recs.rd strLayJ).now hq) (by have := HFt.out.bound; omega))
          refine wp_region_below [(8, fun g => .slice g.1 j5.recs.length j5.recs.length, fun g w' => RdL 1 strE w' w'.heap.size g.1 j5.recs), (13, fun _ => .bool true, fun (_ : Option Addr × Nat) _ => True)] (by kernel_rfl) (by kernel_rfl) (by repeat (first | exact trivial | refine ⟨fun g wa wb hs hs' ht h => by first | exact trivial | exact h.now ht | exact h.below ht | exact ht.cell h | exact h, ?_⟩)) ?_
          rw [List.toList_toArray]
          repeat (first
            | (refine DetE.skip (by rfl) ?_; simp only [Act.put, List.setIfInBounds_toArray, List.set_cons_zero, List.set_cons_succ, List.getElem_toArray, List.getElem_cons_zero, List.getElem_cons_succ])
            | (refine DetE.read (v := ?_) (by rfl) (by rfl) ?_ ?_; rotate_left; (· (intro wq hSq hkq; skip; go_simp; try with_reducible rfl)); simp only [Act.put, List.setIfInBounds_toArray, List.set_cons_zero, List.set_cons_succ, List.getElem_toArray, List.getElem_cons_zero, List.getElem_cons_succ])
            | fail)
          refine DetE.eff _ _ (by rfl) (by rfl) (fun wq hSq hkq K hK => ?_) (fun g1 => ?_)
          · go_simp
            refine (HAllq.out wq hSq).mono ?_
            rintro e4 w4 ⟨A4, rfl, ho4, -, hb4⟩
            go_wp2_with fail
            exact hK.out ((A4, 0)) _ (hSq.trans (hb4.mono hSq.size)) hb4 (ho4) _ rfl
          simp only [Act.put, List.setIfInBounds_toArray, List.set_cons_zero, List.set_cons_succ, List.getElem_toArray, List.getElem_cons_zero, List.getElem_cons_succ]
          repeat (first
            | (refine DetE.skip (by rfl) ?_; simp only [Act.put, List.setIfInBounds_toArray, List.set_cons_zero, List.set_cons_succ, List.getElem_toArray, List.getElem_cons_zero, List.getElem_cons_succ])
            | (refine DetE.read (v := ?_) (by rfl) (by rfl) ?_ ?_; rotate_left; (· (intro wq hSq hkq; have hcq := (hSq.cell (p := ⟨q2, 2, none⟩) hqq).trans hc2; go_simp; try with_reducible rfl)); simp only [Act.put, List.setIfInBounds_toArray, List.set_cons_zero, List.set_cons_succ, List.getElem_toArray, List.getElem_cons_zero, List.getElem_cons_succ])
            | fail)
          refine DetE.eff _ _ (by rfl) (by rfl) (fun wq hSq hkq K hK => ?_) (fun g2 => ?_)
          · go_simp
            refine (HSmq.out wq g1.1 hSq (hkq 8 _ rfl (by kernel_rfl))).mono ?_
            rintro e4 w4 ⟨rfl, hb4⟩
            go_wp2_with fail
            exact hK.out ((none, 0)) _ (hSq.trans (hb4.mono hSq.size)) hb4 (trivial) _ rfl
          simp only [Act.put, List.setIfInBounds_toArray, List.set_cons_zero, List.set_cons_succ, List.getElem_toArray, List.getElem_cons_zero, List.getElem_cons_succ]
          repeat (first
            | (refine DetE.skip (by rfl) ?_; simp only [Act.put, List.setIfInBounds_toArray, List.set_cons_zero, List.set_cons_succ, List.getElem_toArray, List.getElem_cons_zero, List.getElem_cons_succ])
            | (refine DetE.read (v := ?_) (by rfl) (by rfl) ?_ ?_; rotate_left; (· (intro wq hSq hkq; skip; go_simp; try with_reducible rfl)); simp only [Act.put, List.setIfInBounds_toArray, List.set_cons_zero, List.set_cons_succ, List.getElem_toArray, List.getElem_cons_zero, List.getElem_cons_succ])
            | fail)
          refine DetE.done fun wz hz hkz => ?_
          have HT2 := Lib.hid (HT.out.on hz)
          clear hkz hz HAllq HSmq HJq HRq hc2 HT
          go_wp2_with fail
          go_roundw
          case rel => exact ⟨k + 1, c9, _, _, _, some j5, jOb q1 p j5 M4, rjOb q2 q j5 N5, by omega, by go_num, rfl, rfl, ⟨⟨q1, M4, rfl, rfl⟩, ⟨q2, N5, rfl, rfl⟩, HT2.out.st, HKe.out, HFt.out⟩⟩
          case measure => simp [intOf]; omega
      · have e4 : (a.kind == 4) = false := by simp; omega
        have e5 : (a.kind == 5) = true := by simpa using k4
        have HG5 := HG
        have HKe5 := HKe
        clear HG HKe
        go_wp2_with fail
        refine (dStart_any p S D wz HG5.out.st.ok.1.1).mono ?_
        rintro e w6 ⟨rfl, hu⟩
        obtain ⟨D6, hg6⟩ := HG5.out.bl hu
        have HG6 := Lib.hid hg6
        clear hu hg6 HG5
        go_wp2_with fail
        refine (rStart_any q S E w6 HG6.out.st.ok.1.2).mono ?_
        rintro e w7 ⟨rfl, hu⟩
        obtain ⟨E7, hg7⟩ := HG6.out.br hu
        have HG7 := Lib.hid hg7
        have HKe7 : Hid ((S).start.keep.length ≤ 50) := Lib.hid HKe5.out
        clear hu hg7 HG6 HKe5
        generalize (S).start = S7 at *
        have HWf := Lib.hid ((show DK w7 p S7 D6 from HG7.out.st.ok.1.1).wf)
        go_wp2_with fail
        refine (jOpen_any p S7 D6 3 w7 (HG7.out.st.vs HV.out) (fun i hi => HG7.out.st.own i (.inl hi)) (by unfold inI64; omega) (by have := HKe7.out; omega) HG7.out.st.ok.1.1).mono ?_
        rintro e w8 ⟨D8, X8, v8, rfl, hu, hj⟩
        have HG8 := Lib.hid (HG7.out.upd (OUpd.left HG7.out.st.ok hu))
        have HIj := Lib.hid hj
        clear hu hj HG7
        go_wp2_with fail
        refine (sOpen_any q S7 E7 3 w8 (by unfold inI64; omega) (by have := HKe7.out; omega) HG8.out.st.ok.1.2).mono ?_
        rintro e w5 ⟨E9, Y8, u8, rfl, hu, hj⟩
        have HT5 := Lib.hid (show TSt w (tOb p q (openS S7 3) D8 (openS S7 3) E9 X8 Y8) b a w5 from HG8.out.upd (OUpd.right HG8.out.st.ok hu))
        have HIr := Lib.hid hj
        have HKe5 : Hid ((openS S7 3).keep.length ≤ 50) := Lib.hid (by rw [openS_keep]; exact HKe7.out)
        have HFt := Lib.hid (JFit.open HWf.out)
        clear hu hj HG8 HKe7 HWf
        generalize openS S7 3 = S9 at *
        generalize openO S7 3 = J at *
        generalize openC S7 3 = c9 at *
        cases J with
        | none =>
          obtain ⟨rfl, rfl⟩ := HIj.out
          obtain ⟨rfl, rfl⟩ := HIr.out
          have HT := HT5
          have HKe := HKe5
          clear HT5 HKe5
          go_wp2_with fail
          go_quiet (fail)
          go_wp2_with fail
          go_roundw
          case rel => exact ⟨k + 1, c9, _, _, _, none, Ob.nil, Ob.nil, by omega, by go_num, rfl, rfl, ⟨⟨rfl, rfl⟩, ⟨rfl, rfl⟩, (HT.out.on (below_drewN (Below.refl _ _) _)).st, HKe.out, fun _ e => nomatch e⟩⟩
          case measure => simp [intOf]; omega
        | some j5 =>
          obtain ⟨q1, M4, rfl, rfl⟩ := HIj.out
          obtain ⟨q2, N5, rfl, rfl⟩ := HIr.out
          have HT := HT5
          have HKe := HKe5
          clear HT5 HKe5
          go_wp2_with fail
          have HJq := Lib.hid (show JK w5 q1 p j5 M4 from HT.out.st.ok.1.1.1.2)
          have HRq := Lib.hid (show RJK w5 q2 q j5 N5 from HT.out.st.ok.1.2.1.2)
          have hqq := box_lt HRq.out.box
          have hc2 := HRq.out.c2
          have HAllq : Hid (∀ wq : World, Below w5.heap.size w5 wq → Calls Tryz.prog 25 #[.pointer (some ⟨q1, 0, none⟩)] wq fun e w' => ∃ A, e = .returned (.slice A j5.recs.length j5.recs.length) ∧ RdL 1 strE w' w'.heap.size A j5.recs ∧ OwnL w' wq.heap.size 9 1 strE A j5.recs.length j5.recs ∧ Below wq.heap.size wq w') := Lib.hid (fun wq hq => all_as ((jOb q1 p j5 M4).below HJq.out hq) rfl (by have := HFt.out.bound; omega))
          have HSmq : Hid (∀ (wq : World) (A4 : Option Addr), Below w5.heap.size w5 wq → RdL 1 strE wq wq.heap.size A4 j5.recs → Calls Tryz.prog 24 #[.slice A4 j5.recs.length j5.recs.length, .slice N5.A j5.recs.length N5.c] wq fun e w' => e = .returned (.bool true) ∧ Below wq.heap.size wq w') := Lib.hid (fun wq A4 hq h4 => same_refl j5.recs A4 N5.A j5.recs.length N5.c wq h4 ((HRq.out.recs.rd strLayJ).now hq) (by have := HFt.out.bound; omega))
          refine wp_region_below [(8, fun g => .slice g.1 j5.recs.length j5.recs.length, fun g w' => RdL 1 strE w' w'.heap.size g.1 j5.recs), (13, fun _ => .bool true, fun (_ : Option Addr × Nat) _ => True)] (by kernel_rfl) (by kernel_rfl) (by repeat (first | exact trivial | refine ⟨fun g wa wb hs hs' ht h => by first | exact trivial | exact h.now ht | exact h.below ht | exact ht.cell h | exact h, ?_⟩)) ?_
          rw [List.toList_toArray]
          repeat (first
            | (refine DetE.skip (by rfl) ?_; simp only [Act.put, List.setIfInBounds_toArray, List.set_cons_zero, List.set_cons_succ, List.getElem_toArray, List.getElem_cons_zero, List.getElem_cons_succ])
            | (refine DetE.read (v := ?_) (by rfl) (by rfl) ?_ ?_; rotate_left; (· (intro wq hSq hkq; skip; go_simp; try with_reducible rfl)); simp only [Act.put, List.setIfInBounds_toArray, List.set_cons_zero, List.set_cons_succ, List.getElem_toArray, List.getElem_cons_zero, List.getElem_cons_succ])
            | fail)
          refine DetE.eff _ _ (by rfl) (by rfl) (fun wq hSq hkq K hK => ?_) (fun g1 => ?_)
          · go_simp
            refine (HAllq.out wq hSq).mono ?_
            rintro e4 w4 ⟨A4, rfl, ho4, -, hb4⟩
            go_wp2_with fail
            exact hK.out ((A4, 0)) _ (hSq.trans (hb4.mono hSq.size)) hb4 (ho4) _ rfl
          simp only [Act.put, List.setIfInBounds_toArray, List.set_cons_zero, List.set_cons_succ, List.getElem_toArray, List.getElem_cons_zero, List.getElem_cons_succ]
          repeat (first
            | (refine DetE.skip (by rfl) ?_; simp only [Act.put, List.setIfInBounds_toArray, List.set_cons_zero, List.set_cons_succ, List.getElem_toArray, List.getElem_cons_zero, List.getElem_cons_succ])
            | (refine DetE.read (v := ?_) (by rfl) (by rfl) ?_ ?_; rotate_left; (· (intro wq hSq hkq; have hcq := (hSq.cell (p := ⟨q2, 2, none⟩) hqq).trans hc2; go_simp; try with_reducible rfl)); simp only [Act.put, List.setIfInBounds_toArray, List.set_cons_zero, List.set_cons_succ, List.getElem_toArray, List.getElem_cons_zero, List.getElem_cons_succ])
            | fail)
          refine DetE.eff _ _ (by rfl) (by rfl) (fun wq hSq hkq K hK => ?_) (fun g2 => ?_)
          · go_simp
            refine (HSmq.out wq g1.1 hSq (hkq 8 _ rfl (by kernel_rfl))).mono ?_
            rintro e4 w4 ⟨rfl, hb4⟩
            go_wp2_with fail
            exact hK.out ((none, 0)) _ (hSq.trans (hb4.mono hSq.size)) hb4 (trivial) _ rfl
          simp only [Act.put, List.setIfInBounds_toArray, List.set_cons_zero, List.set_cons_succ, List.getElem_toArray, List.getElem_cons_zero, List.getElem_cons_succ]
          repeat (first
            | (refine DetE.skip (by rfl) ?_; simp only [Act.put, List.setIfInBounds_toArray, List.set_cons_zero, List.set_cons_succ, List.getElem_toArray, List.getElem_cons_zero, List.getElem_cons_succ])
            | (refine DetE.read (v := ?_) (by rfl) (by rfl) ?_ ?_; rotate_left; (· (intro wq hSq hkq; skip; go_simp; try with_reducible rfl)); simp only [Act.put, List.setIfInBounds_toArray, List.set_cons_zero, List.set_cons_succ, List.getElem_toArray, List.getElem_cons_zero, List.getElem_cons_succ])
            | fail)
          refine DetE.done fun wz hz hkz => ?_
          have HT2 := Lib.hid (HT.out.on hz)
          clear hkz hz HAllq HSmq HJq HRq hc2 HT
          go_wp2_with fail
          go_roundw
          case rel => exact ⟨k + 1, c9, _, _, _, some j5, jOb q1 p j5 M4, rjOb q2 q j5 N5, by omega, by go_num, rfl, rfl, ⟨⟨q1, M4, rfl, rfl⟩, ⟨q2, N5, rfl, rfl⟩, HT2.out.st, HKe.out, HFt.out⟩⟩
          case measure => simp [intOf]; omega
    have e4 : (a.kind == 4) = false := by simp; omega
    have e5 : (a.kind == 5) = false := by simp; omega
    have HT5 := HT
    have HKe5 := HKe
    clear HT HKe
    obtain ⟨w5, hw5⟩ : ∃ x, x = wz := ⟨_, rfl⟩
    rw [← hw5] at HT5 c0 ⊢
    clear hw5
    cases J with
    | none =>
      obtain ⟨rfl, rfl⟩ := HIj.out
      obtain ⟨rfl, rfl⟩ := HIr.out
      have HT := HT5
      have HKe := HKe5
      clear HT5 HKe5
      go_wp2_with fail
      go_quiet (fail)
      go_wp2_with fail
      go_roundw
      case rel => exact ⟨k + 1, cc, _, _, _, none, Ob.nil, Ob.nil, by omega, by go_num, rfl, rfl, ⟨⟨rfl, rfl⟩, ⟨rfl, rfl⟩, (HT.out.on (below_drewN (Below.refl _ _) _)).st, HKe.out, fun _ e => nomatch e⟩⟩
      case measure => simp [intOf]; omega
    | some j5 =>
      obtain ⟨q1, M4, rfl, rfl⟩ := HIj.out
      obtain ⟨q2, N5, rfl, rfl⟩ := HIr.out
      have HT := HT5
      have HKe := HKe5
      clear HT5 HKe5
      go_wp2_with fail
      have HJq := Lib.hid (show JK w5 q1 p j5 M4 from HT.out.st.ok.1.1.1.2)
      have HRq := Lib.hid (show RJK w5 q2 q j5 N5 from HT.out.st.ok.1.2.1.2)
      have hqq := box_lt HRq.out.box
      have hc2 := HRq.out.c2
      have HAllq : Hid (∀ wq : World, Below w5.heap.size w5 wq → Calls Tryz.prog 25 #[.pointer (some ⟨q1, 0, none⟩)] wq fun e w' => ∃ A, e = .returned (.slice A j5.recs.length j5.recs.length) ∧ RdL 1 strE w' w'.heap.size A j5.recs ∧ OwnL w' wq.heap.size 9 1 strE A j5.recs.length j5.recs ∧ Below wq.heap.size wq w') := Lib.hid (fun wq hq => all_as ((jOb q1 p j5 M4).below HJq.out hq) rfl (by have := HFt.out.bound; omega))
      have HSmq : Hid (∀ (wq : World) (A4 : Option Addr), Below w5.heap.size w5 wq → RdL 1 strE wq wq.heap.size A4 j5.recs → Calls Tryz.prog 24 #[.slice A4 j5.recs.length j5.recs.length, .slice N5.A j5.recs.length N5.c] wq fun e w' => e = .returned (.bool true) ∧ Below wq.heap.size wq w') := Lib.hid (fun wq A4 hq h4 => same_refl j5.recs A4 N5.A j5.recs.length N5.c wq h4 ((HRq.out.recs.rd strLayJ).now hq) (by have := HFt.out.bound; omega))
      refine wp_region_below [(8, fun g => .slice g.1 j5.recs.length j5.recs.length, fun g w' => RdL 1 strE w' w'.heap.size g.1 j5.recs), (13, fun _ => .bool true, fun (_ : Option Addr × Nat) _ => True)] (by kernel_rfl) (by kernel_rfl) (by repeat (first | exact trivial | refine ⟨fun g wa wb hs hs' ht h => by first | exact trivial | exact h.now ht | exact h.below ht | exact ht.cell h | exact h, ?_⟩)) ?_
      rw [List.toList_toArray]
      repeat (first
        | (refine DetE.skip (by rfl) ?_; simp only [Act.put, List.setIfInBounds_toArray, List.set_cons_zero, List.set_cons_succ, List.getElem_toArray, List.getElem_cons_zero, List.getElem_cons_succ])
        | (refine DetE.read (v := ?_) (by rfl) (by rfl) ?_ ?_; rotate_left; (· (intro wq hSq hkq; skip; go_simp; try with_reducible rfl)); simp only [Act.put, List.setIfInBounds_toArray, List.set_cons_zero, List.set_cons_succ, List.getElem_toArray, List.getElem_cons_zero, List.getElem_cons_succ])
        | fail)
      refine DetE.eff _ _ (by rfl) (by rfl) (fun wq hSq hkq K hK => ?_) (fun g1 => ?_)
      · go_simp
        refine (HAllq.out wq hSq).mono ?_
        rintro e4 w4 ⟨A4, rfl, ho4, -, hb4⟩
        go_wp2_with fail
        exact hK.out ((A4, 0)) _ (hSq.trans (hb4.mono hSq.size)) hb4 (ho4) _ rfl
      simp only [Act.put, List.setIfInBounds_toArray, List.set_cons_zero, List.set_cons_succ, List.getElem_toArray, List.getElem_cons_zero, List.getElem_cons_succ]
      repeat (first
        | (refine DetE.skip (by rfl) ?_; simp only [Act.put, List.setIfInBounds_toArray, List.set_cons_zero, List.set_cons_succ, List.getElem_toArray, List.getElem_cons_zero, List.getElem_cons_succ])
        | (refine DetE.read (v := ?_) (by rfl) (by rfl) ?_ ?_; rotate_left; (· (intro wq hSq hkq; have hcq := (hSq.cell (p := ⟨q2, 2, none⟩) hqq).trans hc2; go_simp; try with_reducible rfl)); simp only [Act.put, List.setIfInBounds_toArray, List.set_cons_zero, List.set_cons_succ, List.getElem_toArray, List.getElem_cons_zero, List.getElem_cons_succ])
        | fail)
      refine DetE.eff _ _ (by rfl) (by rfl) (fun wq hSq hkq K hK => ?_) (fun g2 => ?_)
      · go_simp
        refine (HSmq.out wq g1.1 hSq (hkq 8 _ rfl (by kernel_rfl))).mono ?_
        rintro e4 w4 ⟨rfl, hb4⟩
        go_wp2_with fail
        exact hK.out ((none, 0)) _ (hSq.trans (hb4.mono hSq.size)) hb4 (trivial) _ rfl
      simp only [Act.put, List.setIfInBounds_toArray, List.set_cons_zero, List.set_cons_succ, List.getElem_toArray, List.getElem_cons_zero, List.getElem_cons_succ]
      repeat (first
        | (refine DetE.skip (by rfl) ?_; simp only [Act.put, List.setIfInBounds_toArray, List.set_cons_zero, List.set_cons_succ, List.getElem_toArray, List.getElem_cons_zero, List.getElem_cons_succ])
        | (refine DetE.read (v := ?_) (by rfl) (by rfl) ?_ ?_; rotate_left; (· (intro wq hSq hkq; skip; go_simp; try with_reducible rfl)); simp only [Act.put, List.setIfInBounds_toArray, List.set_cons_zero, List.set_cons_succ, List.getElem_toArray, List.getElem_cons_zero, List.getElem_cons_succ])
        | fail)
      refine DetE.done fun wz hz hkz => ?_
      have HT2 := Lib.hid (HT.out.on hz)
      clear hkz hz HAllq HSmq HJq HRq hc2 HT
      go_wp2_with fail
      go_roundw
      case rel => exact ⟨k + 1, cc, _, _, _, some j5, jOb q1 p j5 M4, rjOb q2 q j5 N5, by omega, by go_num, rfl, rfl, ⟨⟨q1, M4, rfl, rfl⟩, ⟨q2, N5, rfl, rfl⟩, HT2.out.st, HKe.out, HFt.out⟩⟩
      case measure => simp [intOf]; omega
end Go.Proofs.YtoicnokidlkjfaaGreatDoor
