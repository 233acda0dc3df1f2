/- Contracts of Size, Read, pending and Arm of a disk of the reference. -/
import Derived.Test.YtjgeefagnddpfaaDkRA
namespace Go.Proofs.Ytjgeefagnddpfaa
open Go.RowKit

theorem fieldRFile1 (a : Int) (b c : ByteArray) (w : World) : (Instr.field 65 (.agg #[.int .i64 a, .string b, .string c]) 1).run Try.prog w = .ok (.string b) w := by kernel_rfl
theorem rSize_any (p : Nat) (S : DS) (L : RL) (w : World) (f : Int) (h : RK w p S L) : Calls Try.prog 17 #[.pointer (some ⟨p, 0, none⟩), .int .i64 f] w fun e w' => e = .returned (.int .i64 (S.files f).1.size) ∧ Below w.heap.size w w' := by
  have HG := Lib.hid (rGet_any p S L w f h)
  have q2 := fun a b c w => fieldRFile1 a b c w
  clear h
  go_enter Try.func17, Try.ntmps17
  go_wp2_with (go_at_call 39; refine HG.out.mono ?_; rintro e w1 ⟨rfl, hb1⟩)
  go_ret
  exact ⟨rfl, hb1⟩
theorem rRead_any (p : Nat) (S : DS) (L : RL) (w : World) (f a n : Int) (h : RK w p S L) (ha : inI64 a) (hn : inI64 n) :
    Calls Try.prog 21 #[.pointer (some ⟨p, 0, none⟩), .int .i64 f, .int .i64 a, .int .i64 n] w fun e w' => e = .returned (.tuple #[.string (S.readS f a n), .int .i64 (S.readC f a n)]) ∧ Below w.heap.size w w' := by
  have HG := Lib.hid (rGet_any p S L w f h)
  have HMay := Lib.hid (rMay_any p S L w f h)
  have q2 := fun a b c w => fieldRFile1 a b c w
  have hnow := h.wf.now f
  unfold inI64 at ha hn
  clear h
  generalize hc : S.may f = c at *
  have HM := Lib.hid hc
  clear hc
  by_cases h0 : c = 0
  · subst h0
    by_cases h1 : a < 0 ∨ n < 0
    · have hC : S.readC f a n = 1 := by unfold DS.readC; rw [HM.out, if_neg (by omega), if_pos h1]
      have hS : S.readS f a n = e0 := by unfold DS.readS; rw [hC]; rfl
      rw [hS, hC]
      clear hS hC
      go_enter Try.func21, Try.ntmps21
      go_wp2_with (go_at_call 46; refine HMay.out.mono ?_; rintro e w1 ⟨rfl, hw⟩; obtain rfl := hw.symm)
      all_goals first
        | (exfalso; omega)
        | (go_ret2; exact ⟨rfl, Below.refl _ _⟩)
    · have hC : S.readC f a n = 0 := by unfold DS.readC; rw [HM.out, if_neg (by omega), if_neg h1]
      have HS : Hid (S.readS f a n = readX (S.files f).1 a n) := Lib.hid (by unfold DS.readS; rw [hC, if_neg (by omega)]; rfl)
      rw [hC]
      clear hC
      generalize hx : (S.files f).1 = x at *
      have hsz := fun i j => extract_size x i j
      go_enter Try.func21, Try.ntmps21
      go_wp2_with (first | (go_at_call 46; refine HMay.out.mono ?_; rintro e w1 ⟨rfl, hw⟩; obtain rfl := hw.symm) | (go_at_call 39; refine HG.out.mono ?_; rintro e w1 ⟨rfl, hb1⟩; have HB1 := Lib.hid hb1; clear hb1))
      all_goals go_ret2
      all_goals refine ⟨?_, HB1.out⟩
      all_goals rw [HS.out]
      all_goals refine ret_str2 ?_
      all_goals first
        | (rw [readX_out x a n (by omega)]; rfl)
        | (rw [readX_end x a n (by omega) (by omega), ByteArray.extract_extract]; congr 1; omega)
        | (rw [readX_part x a n (by omega) (by omega), ByteArray.extract_extract]; congr 1; omega)
  · have hC : S.readC f a n = c := by unfold DS.readC; rw [HM.out, if_pos h0]
    have hS : S.readS f a n = e0 := by unfold DS.readS; rw [hC, if_pos h0]
    have h2 : (c == 0) = false := by simpa using h0
    rw [hS, hC]
    clear hS hC
    go_enter Try.func21, Try.ntmps21
    go_wp2_with (go_at_call 46; refine HMay.out.mono ?_; rintro e w1 ⟨rfl, hw⟩; obtain rfl := hw.symm)
    all_goals go_ret2
    all_goals exact ⟨rfl, Below.refl _ _⟩
set_option maxHeartbeats 1000000 in
theorem rPending_any (p : Nat) (S : DS) (L : RL) (w : World) (f n : Int) (h : RK w p S L) : Calls Try.prog 62 #[.pointer (some ⟨p, 0, none⟩), .int .i64 f, .int .i64 n] w fun e w' => e = .returned (.bool (decide ((f, n) ∈ S.queue))) ∧ w = w' := by
  have HR := Lib.hid (h.queue.rd secLay)
  have c1 := h.c1
  have hql := h.wf.qlen
  clear h
  generalize S.queue = q at *
  go_enter Try.func62, Try.ntmps62
  go_wp2
  go_loopw [7] (fun i wr => ∃ k : Nat, k ≤ q.length ∧ i = .int .i64 k ∧ (∀ x ∈ q.take k, ¬ x = (f, n)) ∧ w = wr) (fun i _ => q.length - (intOf i).toNat)
  case atStart => exact ⟨0, Nat.zero_le _, rfl, fun p hp => by simp at hp, rfl⟩
  case round =>
    obtain ⟨k, hk, rfl, hf, rfl⟩ := hrel
    have HF := Lib.hid hf
    clear hf
    by_cases hlt : k < q.length
    · obtain ⟨b, off, hA, hbb, d0, d1⟩ := HR.out.sec hlt
      rw [hA] at c1
      have HIn : Hid (q[k] = (f, n) → (f, n) ∈ q) := Lib.hid (fun h => by rw [← h]; exact List.getElem_mem hlt)
      have HSt := Lib.hid (take_step (fun x : Int × Int => ¬ x = (f, n)) q k hlt HF.out)
      generalize q[k] = x at *
      cases hv0 : (x.1 == f)
      · have HNe : Hid (¬ x = (f, n)) := Lib.hid (fun e => by rw [e] at hv0; simp at hv0)
        go_wp2
        go_roundw
        case rel => exact ⟨k + 1, by omega, by go_num, HSt.out HNe.out, by first | rfl | trivial⟩
        case measure => simp [intOf]; omega
      · cases hv1 : (x.2 == n)
        · have HNe : Hid (¬ x = (f, n)) := Lib.hid (fun e => by rw [e] at hv1; simp at hv1)
          go_wp2
          go_roundw
          case rel => exact ⟨k + 1, by omega, by go_num, HSt.out HNe.out, by first | rfl | trivial⟩
          case measure => simp [intOf]; omega
        · have HEq : Hid (x = (f, n)) := Lib.hid (Prod.ext (by simpa using hv0) (by simpa using hv1))
          go_wp2
          go_ret
          exact ⟨ret_bool (decide_eq_true (HIn.out HEq.out)).symm, rfl⟩
    · have HNo : Hid ((f, n) ∉ q) := Lib.hid (fun h => HF.out _ (by rw [List.take_of_length_le (by omega)]; exact h) rfl)
      go_wp2
      go_ret
      exact ⟨ret_bool (decide_eq_false HNo.out).symm, rfl⟩
theorem RK.rekeep {w w' : World} {p : Nat} {S : DS} {L : RL} (h : RK w p S L) (ht : Turn (fun i => i = p) w w') (c : Int) (keep : List Int) (kA : Option Addr) (kc : Nat) (hw : (DS.mk S.files S.queue S.lost S.down c keep).wf)
    (hbox : w'.heap[p]? = some (.cells (refV (DS.mk S.files S.queue S.lost S.down c keep) ⟨L.fl, L.fA, L.fc, L.qA, L.qc, kA, kc⟩) 60 (0, 0))) (hk : RdL 1 intC w' w'.heap.size kA keep) (hn : ∀ i, slBlk kA = some i → w.heap.size ≤ i ∧ i < w'.heap.size) :
    RUpd p (DS.mk S.files S.queue S.lost S.down c keep) L w w' := by
  refine ⟨⟨L.fl, L.fA, L.fc, L.qA, L.qc, kA, kc⟩, ⟨hw, hbox, h.files.turn (fun i hi hl => ht.block i hl (h.fp i hi)), h.fn, h.fok, h.queue.turn (fun i hi hl => ht.block i hl (h.qp i hi).1),
    hk, h.fp, h.qp, fun i hi ho => ?_, fun i hi => (hn i hi).2⟩, ht.mono (fun i hi => by subst hi; exact .inl (.inl rfl)), fun i hi => .inl hi, fun i hi => .inr (hn i hi).1⟩
  have := h.lt i ho
  have := (hn i hi).1
  omega
set_option maxHeartbeats 1000000 in
theorem rArm_any (p : Nat) (S : DS) (L : RL) (w : World) (n : Int) (hn : inI64 n) (keep : List Int) (A : Option Addr) (k c : Nat) (hk : k = keep.length) (hr : RdL 1 intC w w.heap.size A keep) (hm : keep.length ≤ 4194320) (hki : ∀ x ∈ keep, inI64 x) (h : RK w p S L) (hA : ∀ i, keep ≠ [] → slBlk A = some i → i ≠ p) :
    Calls Try.prog 35 #[.pointer (some ⟨p, 0, none⟩), .int .i64 n, .slice A k c] w fun e w' => e = .returned (.tuple #[]) ∧ RUpd p (S.arm n keep) L w w' := by
  subst hk
  have H := Lib.hid h
  have HR := Lib.hid hr
  have HW := Lib.hid (DS.arm_wf h.wf n keep hn hki)
  have c0 := h.c4
  have cz := fun j => box_free h.box j
  have hp := box_lt h.box
  clear h hr hki
  obtain ⟨N, HN⟩ : ∃ N, Hid (max n 0 = N) := ⟨_, rfl⟩
  have HT : Hid (S.arm n keep = ⟨S.files, S.queue, S.lost, S.down, N, keep⟩) := Lib.hid (by unfold DS.arm; rw [HN.out])
  rw [HT.out] at HW
  have HE : Hid ((0 ≤ n ∧ N = n) ∨ (n ≤ 0 ∧ N = 0)) := Lib.hid (by have := HN.out; omega)
  have HO2 : Hid (∀ v, OwnL ((w.setCell ⟨p, 4, none⟩ v).alloc (.cells #[] 3)) w.heap.size 3 1 intC (some ⟨w.heap.size, 0, none⟩) 0 ([] : List Int)) := Lib.hid (fun v => OwnL.empty _ _ _ (by simp [World.setCell]) _ (by simp [World.setCell]))
  have HR2 : Hid (∀ v, RdL 1 intC ((w.setCell ⟨p, 4, none⟩ v).alloc (.cells #[] 3)) ((w.setCell ⟨p, 4, none⟩ v).alloc (.cells #[] 3)).heap.size A keep) := Lib.hid (fun v => by
    by_cases hk : keep = []
    · subst hk
      exact RdL.nil_
    · refine RdL.turn (w := w) HR.out (fun i hi hl => ?_) (by simp [World.setCell])
      rw [Below.heap_alloc _ _ _ (by simpa [World.setCell] using hl)]
      exact heap_setCell_other _ _ _ _ (hA i hk hi))
  clear hA
  go_enter Try.func35, Try.ntmps35
  go_wp2_with (at_builtin; refine wp_append_l rfl (.tmp 12) (.tmp 13) rfl slInt intLay w.heap.size (xs := ([] : List Int)) (ys := keep) rfl rfl (HO2.out _) rfl rfl (HR2.out _) (by simp; omega) (by simp) ?_; intro A2 c2 w2 hown hg hb hat; have hbx := (hb.block p hp).trans ((Below.heap_alloc _ _ p (by simpa [World.setCell] using hp)).trans (heap_setCell_same _ _ _ _ _ _ H.out.box)); have c5 := box_cell hbx 5 _ rfl; have cz5 := fun j => box_free hbx j; rw [List.nil_append] at hown; have HO3 := Lib.hid hown; have HB3 := Lib.hid hb; have HX := Lib.hid hbx; clear hown hg hb hat hbx)
  all_goals go_end0
  all_goals refine ⟨rfl, ?_⟩
  all_goals rw [HT.out]
  all_goals have hT : Turn (fun i => i = p) w w2 := (((Turn.refl (fun i => i = p) w).set p 4 _ (.inl rfl)).alloc _).trans (Turn.mono (F := fun i => w.heap.size ≤ i) ⟨HB3.out.os, HB3.out.tape, HB3.out.output, HB3.out.size, fun k _ hn => HB3.out.block k (by omega)⟩ (fun i hi => .inl hi)) (fun i hi => .inr hi)
  all_goals refine RK.rekeep H.out (hT.set p 5 _ (.inl rfl)) N keep A2 c2 HW.out ((heap_setCell_same _ p 5 _ _ _ HX.out).trans ?_) ((HO3.out.rd intLay).turn (fun i hi hl => ?_) (by simp [World.setCell])) (fun i hi => ⟨(HO3.out.blk_lt hi).1, by have := (HO3.out.blk_lt hi).2; simpa [World.setCell] using this⟩)
  all_goals first
    | (have e : N = n := by have := HE.out; omega
       rw [e, if_neg (by omega)]
       rfl)
    | (have e : N = 0 := by have := HE.out; omega
       rw [e, if_pos (by omega)]
       rfl)
    | (have h1 := (HO3.out.blk_lt hi).1
       rw [heap_setCell_other _ _ _ _ (by show i ≠ p; omega)])
end Go.Proofs.Ytjgeefagnddpfaa
