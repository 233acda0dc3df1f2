/- Contracts of Size, Read and Arm of a disk, and of slices.Clone at ints and sectors. -/
import Derived.Test.YtjgeefagnddpfaaDkC
namespace Go.Proofs.Ytjgeefagnddpfaa
open Go.RowKit

section
variable {w : World} {p : Nat} {S : DS} {L : DL}
theorem DK.look (h : DK w p S L) (f : Int) (hf : inI64 f) : (Instr.lookup 52 (.map (some L.bf)) (.int .i64 f) false).run Try.prog w = .ok (.agg #[.string (S.files f).1, .string (S.files f).2]) w := by
  obtain ⟨m, hm, hS⟩ := h.files
  have := hm.look keyI Try.underlying52 (zeroFile w) f hf false
  unfold kvI at this
  have hSf : S.files f = (m f).getD (e0, e0) := by rw [hS]
  rw [this, hSf]
  rcases m f with _ | x <;> rfl
theorem DK.lookS (h : DK w p S L) (x : Int × Int) (hx : okS x) : (Instr.lookup 53 (.map (some L.bs)) (.agg #[.int .i64 x.1, .int .i64 x.2]) false).run Try.prog w = .ok (.bool (decide (x ∈ S.queue))) w := by
  have := h.set.look keyS Try.underlying53 (zeroBool w) x hx false
  unfold secV at this
  rw [this]
  unfold setF
  by_cases hq : x ∈ S.queue <;> simp [hq]
end
theorem fieldFile0 (a b : ByteArray) (w : World) : (Instr.field 63 (.agg #[.string a, .string b]) 0).run Try.prog w = .ok (.string a) w := by kernel_rfl
theorem dSize_any (p : Nat) (S : DS) (L : DL) (w : World) (f : Int) (hf : inI64 f) (h : DK w p S L) : Calls Try.prog 16 #[.pointer (some ⟨p, 0, none⟩), .int .i64 f] w fun e w' => e = .returned (.int .i64 (S.files f).1.size) ∧ w' = w := by
  have c0 := h.c0
  have q := h.look f hf
  have q2 := fun a b => fieldFile0 a b w
  clear h
  go_enter Try.func16, Try.ntmps16
  go_wp2
  go_ret
  exact ⟨rfl, rfl⟩
theorem extract_all (s : ByteArray) (n : Nat) (h : s.size ≤ n) : s.extract 0 n = s := by
  apply ByteArray.ext
  rw [ByteArray.data_extract, Array.extract_eq_self_of_le (show s.data.size ≤ n from h)]
theorem extract_size (s : ByteArray) (i j : Nat) : (s.extract i j).size = min j s.size - i := ByteArray.size_extract
def readX (x : ByteArray) (a n : Int) : ByteArray := (x.extract (min a x.size).toNat x.size).extract 0 (min n (x.extract (min a x.size).toNat x.size).size).toNat
theorem readX_out (x : ByteArray) (a n : Int) (h : (x.size : Int) ≤ a) : readX x a n = ByteArray.empty := by
  have h1 : (readX x a n).size = 0 := by
    unfold readX
    rw [extract_size, extract_size]
    omega
  exact str_eq0 h1
theorem readX_end (x : ByteArray) (a n : Int) (h : a ≤ x.size) (hn : ((x.size - a.toNat : Nat) : Int) ≤ n) : readX x a n = (x.extract a.toNat x.size).extract 0 (x.size - a.toNat) := by
  unfold readX
  rw [Int.min_eq_left h, extract_size, Nat.min_self, Int.min_eq_right hn]
  rfl
theorem readX_part (x : ByteArray) (a n : Int) (h : a ≤ x.size) (hn : n ≤ ((x.size - a.toNat : Nat) : Int)) : readX x a n = (x.extract a.toNat x.size).extract 0 n.toNat := by
  unfold readX
  rw [Int.min_eq_left h, extract_size, Nat.min_self, Int.min_eq_left hn]
theorem ret_str2 {a b : ByteArray} {c : Int} (h : a = b) : Ending.returned (.tuple #[.string a, .int .i64 c]) = .returned (.tuple #[.string b, .int .i64 c]) := by rw [h]
theorem empty_extract (i j : Nat) : ByteArray.empty.extract i j = ByteArray.empty := by
  refine str_eq0 ?_
  rw [extract_size]
  show min j 0 - i = 0
  omega
theorem dRead_any (p : Nat) (S : DS) (L : DL) (w : World) (f a n : Int) (hf : inI64 f) (h : DK w p S L) :
    Calls Try.prog 20 #[.pointer (some ⟨p, 0, none⟩), .int .i64 f, .int .i64 a, .int .i64 n] w fun e w' => e = .returned (.tuple #[.string (S.readS f a n), .int .i64 (S.readC f a n)]) ∧ w' = w := by
  have c0 := h.c0
  have q := h.look f hf
  have q2 := fun a b => fieldFile0 a b w
  have H := Lib.hid h
  have hnow := h.wf.now f
  clear h
  generalize hc : S.may f = c
  have HM := Lib.hid hc
  clear hc
  by_cases h0 : c = 0
  · subst h0
    by_cases h1 : a < 0 ∨ n < 0
    · have hC : S.readC f a n = 1 := by unfold DS.readC; rw [HM.out, if_neg (by omega), if_pos h1]
      have hS : S.readS f a n = e0 := by unfold DS.readS; rw [hC]; rfl
      rw [hS, hC]
      clear hS hC
      go_enter Try.func20, Try.ntmps20
      go_wp2_with (go_at_call 44; refine (dMay_any p S L w f H.out).mono ?_; rintro e w1 ⟨rfl, rfl⟩; rw [HM.out])
      all_goals first
        | (exfalso; omega)
        | (go_ret2; exact ⟨rfl, rfl⟩)
    · have hC : S.readC f a n = 0 := by unfold DS.readC; rw [HM.out, if_neg (by omega), if_neg h1]
      have HS : Hid (S.readS f a n = ((S.files f).1.extract (min a (S.files f).1.size).toNat (S.files f).1.size).extract 0 (min n ((S.files f).1.extract (min a (S.files f).1.size).toNat (S.files f).1.size).size).toNat) := Lib.hid (by unfold DS.readS; rw [hC, if_neg (by omega)])
      rw [hC]
      clear hC
      generalize hx : (S.files f).1 = x at *
      have hsz := fun i j => extract_size x i j
      go_enter Try.func20, Try.ntmps20
      go_wp2_with (go_at_call 44; refine (dMay_any p S L w f H.out).mono ?_; rintro e w1 ⟨rfl, rfl⟩; rw [HM.out])
      all_goals go_ret2
      all_goals refine ⟨?_, rfl⟩
      all_goals rw [HS.out]
      all_goals refine ret_str2 (Eq.trans ?_ (show readX x a n = _ from rfl))
      all_goals first
        | (rw [readX_out x a n (by omega)]; first | done | exact empty_extract _ _)
        | (rw [readX_end x a n (by omega) (by omega)]; done)
        | (rw [readX_part x a n (by omega) (by omega)]; done)
        | done
  · have hC : S.readC f a n = c := by unfold DS.readC; rw [HM.out, if_pos h0]
    have hS : S.readS f a n = e0 := by unfold DS.readS; rw [hC, if_pos h0]
    have h2 : (c == 0) = false := by simpa using h0
    rw [hS, hC]
    clear hS hC
    go_enter Try.func20, Try.ntmps20
    go_wp2_with (go_at_call 44; refine (dMay_any p S L w f H.out).mono ?_; rintro e w1 ⟨rfl, rfl⟩; rw [HM.out])
    all_goals go_ret2
    all_goals exact ⟨rfl, rfl⟩

/-! slices.Clone -/
theorem equalIn_slice_nil {P : Program} (w : World) (d : Nat) (t e : TypeId) (a : Option Addr) (l c : Nat) (h : P.underlying t = some (.slice e)) : (Op.equalIn (d + 1) t (.slice a l c) (.slice none 0 0)).run P w = .ok a.isNone w := by
  cases a <;> simp [Op.equalIn, run_underlying h]
theorem run_eql_slice_nil_at {P : Program} (w : World) (t e : TypeId) (a : Option Addr) (l c : Nat) (h : P.underlying t = some (.slice e)) : (binOp .eql t (.slice a l c) (.slice none 0 0)).run P w = .ok (.bool a.isNone) w := by
  simp [binOp, show Op.equal t (.slice a l c) (.slice none 0 0) = Op.equalIn (9999 + 1) t (.slice a l c) (.slice none 0 0) from rfl, equalIn_slice_nil w 9999 t e a l c h]
set_option maxHeartbeats 1000000 in
theorem cloneI_any (xs : List (Int)) (A : Option Addr) (n c : Nat) (w : World) (hn : n = xs.length) (hr : RdL 1 intC w w.heap.size A xs) (hm : xs.length ≤ 4194320) :
    Calls Try.prog 48 #[.slice A n c] w fun e w' => ∃ A' c', e = .returned (.slice A' xs.length c') ∧ OwnL w' w.heap.size 3 1 intC A' c' xs ∧ Below w.heap.size w w' := by
  subst hn
  have hq := @run_eql_slice_nil_at Try.prog
  rcases A with _ | a
  · obtain rfl : xs = [] := by
      rcases xs with _ | ⟨x, r⟩
      · rfl
      · obtain ⟨b, off, h, _⟩ := hr 0 x rfl
        cases h
    have q := hq w 31 3 none 0 c Try.underlying31
    clear hq
    go_enter Try.func48, Try.ntmps48
    go_wp2
    go_ret
    exact ⟨none, 0, rfl, OwnL.nil_, Below.refl _ _⟩
  · have q := hq w 31 3 (some a) xs.length c Try.underlying31
    clear hq
    have HO := Lib.hid (OwnL.empty (T := (Int)) (sz := 1) (enc := intC) w 3 w.heap.size (Nat.le_refl _) _ rfl)
    have HR := Lib.hid (hr.now ((Below.refl _ _).alloc (Nat.le_refl _) (.cells #[] 3)))
    go_enter Try.func48, Try.ntmps48
    go_wp2_with (at_builtin; refine wp_append_l rfl (.tmp 5) (.tmp 6) rfl slInt intLay w.heap.size (xs := ([] : List (Int))) (ys := xs) rfl rfl HO.out rfl rfl HR.out (by simp; omega) (by simp) ?_; intro A2 c2 w2 hown hg hb hat; have HO2 := Lib.hid hown; have HB2 := Lib.hid hb; clear hown hg hb hat)
    go_ret
    exact ⟨A2, c2, rfl, HO2.out, ((Below.refl _ _).alloc (Nat.le_refl _) _).trans HB2.out⟩
set_option maxHeartbeats 1000000 in
theorem cloneS_any (xs : List (Int × Int)) (A : Option Addr) (n c : Nat) (w : World) (hn : n = xs.length) (hr : RdL 2 secC w w.heap.size A xs) (hm : xs.length ≤ 4194320) :
    Calls Try.prog 41 #[.slice A n c] w fun e w' => ∃ A' c', e = .returned (.slice A' xs.length c') ∧ OwnL w' w.heap.size 70 2 secC A' c' xs ∧ Below w.heap.size w w' := by
  subst hn
  have hq := @run_eql_slice_nil_at Try.prog
  rcases A with _ | a
  · obtain rfl : xs = [] := by
      rcases xs with _ | ⟨x, r⟩
      · rfl
      · obtain ⟨b, off, h, _⟩ := hr 0 x rfl
        cases h
    have q := hq w 54 70 none 0 c Try.underlying54
    clear hq
    go_enter Try.func41, Try.ntmps41
    go_wp2
    go_ret
    exact ⟨none, 0, rfl, OwnL.nil_, Below.refl _ _⟩
  · have q := hq w 54 70 (some a) xs.length c Try.underlying54
    clear hq
    have HO := Lib.hid (OwnL.empty (T := (Int × Int)) (sz := 2) (enc := secC) w 70 w.heap.size (Nat.le_refl _) _ rfl)
    have HR := Lib.hid (hr.now ((Below.refl _ _).alloc (Nat.le_refl _) (.cells #[] 70)))
    go_enter Try.func41, Try.ntmps41
    go_wp2_with (at_builtin; refine wp_append_l rfl (.tmp 5) (.tmp 6) rfl slSec secLay w.heap.size (xs := ([] : List (Int × Int))) (ys := xs) rfl rfl HO.out rfl rfl HR.out (by simp; omega) (by simp) ?_; intro A2 c2 w2 hown hg hb hat; have HO2 := Lib.hid hown; have HB2 := Lib.hid hb; clear hown hg hb hat)
    go_ret
    exact ⟨A2, c2, rfl, HO2.out, ((Below.refl _ _).alloc (Nat.le_refl _) _).trans HB2.out⟩

theorem DK.rekeep {w w' : World} {p : Nat} {S : DS} {L : DL} (h : DK w p S L) (ht : Turn (fun i => i = p) w w') (a : Int) (b : Bool) (c : Int) (keep : List Int) (kA : Option Addr) (kc : Nat) (hw : (DS.mk S.files S.queue a b c keep).wf)
    (hbox : w'.heap[p]? = some (.cells (diskV (DS.mk S.files S.queue a b c keep) ⟨L.bf, L.bs, L.qA, L.qc, kA, kc⟩) 56 (0, 0))) (hk : RdL 1 intC w' w'.heap.size kA keep) (hn : ∀ i, slBlk kA = some i → w.heap.size ≤ i ∧ i < w'.heap.size) :
    Upd p (DS.mk S.files S.queue a b c keep) L w w' := by
  obtain ⟨m, hm, hf⟩ := h.files
  refine ⟨⟨L.bf, L.bs, L.qA, L.qc, kA, kc⟩, ⟨hw, hbox, ⟨m, hm.of_block (ht.block _ hm.lt (fun e => h.pf e.symm)), hf⟩, h.queue.turn (fun i hi hl => ht.block i hl (h.qp i hi).1), h.set.of_block (ht.block _ h.set.lt (fun e => h.ps e.symm)),
    hk, h.pf, h.ps, h.fs, h.qp, fun i hi ho => ?_, fun i hi => (hn i hi).2⟩, ht.mono (fun i hi => by subst hi; exact .inl (.inl rfl)), fun i hi => .inl hi, fun i hi => .inr (hn i hi).1⟩
  have := h.lt i ho
  have := (hn i hi).1
  omega
set_option maxHeartbeats 1000000 in
theorem dArm_any (p : Nat) (S : DS) (L : DL) (w : World) (n : Int) (hn : inI64 n) (keep : List Int) (A : Option Addr) (k c : Nat) (hk : k = keep.length) (hr : RdL 1 intC w w.heap.size A keep) (hm : keep.length ≤ 4194320) (hki : ∀ x ∈ keep, inI64 x) (h : DK w p S L) :
    Calls Try.prog 27 #[.pointer (some ⟨p, 0, none⟩), .int .i64 n, .slice A k c] w fun e w' => e = .returned (.tuple #[]) ∧ Upd p (S.arm n keep) L w w' := by
  subst hk
  have H := Lib.hid h
  have HR := Lib.hid hr
  have HW := Lib.hid (DS.arm_wf h.wf n keep hn hki)
  clear h hr hki
  obtain ⟨N, HN⟩ : ∃ N, Hid (max n 0 = N) := ⟨_, rfl⟩
  have HT : Hid (S.arm n keep = ⟨S.files, S.queue, S.lost, S.down, N, keep⟩) := Lib.hid (by unfold DS.arm; rw [HN.out])
  rw [HT.out] at HW
  have HE : Hid ((0 ≤ n ∧ N = n) ∨ (n ≤ 0 ∧ N = 0)) := Lib.hid (by have := HN.out; omega)
  go_enter Try.func27, Try.ntmps27
  go_wp2_with (go_at_call 48; refine (cloneI_any keep A keep.length c w rfl HR.out hm).mono ?_; rintro e w1 ⟨A1, c1, rfl, hown, hb⟩; have hbox := (H.out.below hb).box; have cz := fun j => box_free hbox j; have c5 := (H.out.below hb).c5; have c6 := (H.out.below hb).c6; have HO := Lib.hid hown; have HB := Lib.hid hb; have HX := Lib.hid hbox; clear hown hb hbox)
  all_goals go_end0
  all_goals refine ⟨rfl, ?_⟩
  all_goals rw [HT.out]
  all_goals refine DK.rekeep H.out (((Turn.below (F := fun i => i = p) HB.out).set p 5 _ (.inl rfl)).set p 6 _ (.inl rfl)) S.lost S.down N keep A1 c1 HW.out ((heap_setCell_same _ p 6 _ _ _ (heap_setCell_same _ p 5 _ _ _ HX.out)).trans ?_) ((HO.out.rd intLay).turn (fun i hi hl => ?_) (by simp [World.setCell])) (fun i hi => ⟨(HO.out.blk_lt hi).1, by have := (HO.out.blk_lt hi).2; simpa [World.setCell] using this⟩)
  all_goals first
    | (have e : N = n := by have := HE.out; omega
       rw [e]
       rfl)
    | (have e : N = 0 := by have := HE.out; omega
       rw [e]
       rfl)
    | (have hp := box_lt H.out.box
       have h1 := (HO.out.blk_lt hi).1
       rw [heap_setCell_other _ _ _ _ (by show i ≠ p; omega), heap_setCell_other _ _ _ _ (by show i ≠ p; omega)])
end Go.Proofs.Ytjgeefagnddpfaa
