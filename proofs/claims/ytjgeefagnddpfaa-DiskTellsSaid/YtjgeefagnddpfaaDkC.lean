/- Where a disk lies in memory, and the contracts of its small methods. -/
import Derived.Test.YtjgeefagnddpfaaDkB
import Derived.Test.YtjgeefagnddpfaaTurn
namespace Go.Proofs.Ytjgeefagnddpfaa
open Go.RowKit

def okI (x : Int) : Prop := inI64 x
def kvI (x : Int) : Value := .int .i64 x
def fileV (x : FileT) : Value := .agg #[.string x.1, .string x.2]
def okS (p : Int × Int) : Prop := inI64 p.1 ∧ inI64 p.2
def secV (p : Int × Int) : Value := .agg #[.int .i64 p.1, .int .i64 p.2]
def secC (p : Int × Int) : List Value := [.int .i64 p.1, .int .i64 p.2]
def intC (x : Int) : List Value := [.int .i64 x]
theorem secLay : Lay 2 secC := ⟨fun _ => rfl, fun x u h => by simp [secC] at h; rcases h with rfl | rfl <;> rfl⟩
theorem intLay : Lay 1 intC := ⟨fun _ => rfl, fun x u h => by simp [intC] at h; subst h; rfl⟩
theorem slSec : SlTy Try.prog 54 70 2 16 := by
  obtain ⟨i, hi, h0, h1, h2⟩ := info_parts (show (Try.prog.info? 70).map (fun i => (i.zero, i.size, i.bytes)) = some (some (.agg #[.int .i64 0, .int .i64 0]), 2, 16) by kernel_rfl)
  exact ⟨Try.underlying54, ⟨i, _, hi, h0, h1, h2, rfl⟩, by decide, by decide⟩
theorem slInt : SlTy Try.prog 31 3 1 8 := by
  obtain ⟨i, hi, h0, h1, h2⟩ := info_parts (show (Try.prog.info? 3).map (fun i => (i.zero, i.size, i.bytes)) = some (some (.int .i64 0), 1, 8) by kernel_rfl)
  exact ⟨Try.underlying31, ⟨i, _, hi, h0, h1, h2, rfl⟩, by decide, by decide⟩
theorem wfI {a : Int} (h : inI64 a) : (Lit.int .i64 a).wf = true := by
  unfold inI64 at h
  simp [Lit.wf, IntKind.min, IntKind.max, IntKind.bits, IntKind.signed]
  omega
theorem keyI : KeyTy Try.prog 3 okI kvI where
  K := Maps.int_keyed Try.underlying3
  lit := fun a h => by
    refine ⟨.int .i64 a, ?_⟩
    simp [keyOf, kvI, Try.underlying3, mapKey, wfI h]
  inj := fun a b h => by injection h
theorem laidOut : laidOutB Try.prog = true := by kernel_rfl
theorem cells2 : Try.prog.cellsOf 70 = 2 := by kernel_rfl
theorem cells1 : Try.prog.cellsOf 3 = 1 := by kernel_rfl
theorem keyS : KeyTy Try.prog 70 okS secV where
  K := Maps.Keyed.of_law (deep_law_laid laidOut (m := 2) (by omega) (of_decide_eq_true (by kernel_rfl)) (by kernel_rfl) (by kernel_rfl))
  lit := fun a h => by
    obtain ⟨h1, h2⟩ := h
    have h1 := wfI h1
    have h2 := wfI h2
    have hk : Try.prog.keyType 70 = true := by kernel_rfl
    have hl : ∀ d, Try.prog.keyLits (d + 2) 70 [.int .i64 a.1, .int .i64 a.2] = some [.int .i64 a.1, .int .i64 a.2] := by
      intro d
      simp [Program.keyLits, Try.underlying70, Try.underlying3, cells2, cells1, h1, h2]
    refine ⟨.string (keyBytes [.int .i64 a.1, .int .i64 a.2]), ?_⟩
    simp [keyOf, secV, Try.underlying70, hk, Value.formed, cells2, Value.cells, hl]
  inj := fun a b h => by
    simp only [secV, Value.agg.injEq, Array.mk.injEq, List.cons.injEq, Value.int.injEq, and_true, true_and] at h
    exact Prod.ext h.1 h.2
theorem zeroFile (w : World) : (zeroValue 63).run Try.prog w = .ok (fileV (e0, e0)) w := by kernel_rfl
theorem zeroBool (w : World) : (zeroValue 4).run Try.prog w = .ok (.bool false) w := by kernel_rfl

/-- Where the parts of a disk lie. -/
structure DL where
  bf : Nat
  bs : Nat
  qA : Option Addr
  qc : Nat
  kA : Option Addr
  kc : Nat
def diskV (S : DS) (L : DL) : Array Value := #[.map (some L.bf), .slice L.qA S.queue.length L.qc, .map (some L.bs), .int .i64 S.lost, .bool S.down, .int .i64 S.armed, .slice L.kA S.keep.length L.kc]
def setF (q : List (Int × Int)) : Int × Int → Option Bool := fun x => if x ∈ q then some true else none
def DL.own (L : DL) (p : Nat) : Nat → Prop := fun i => i = p ∨ i = L.bf ∨ i = L.bs ∨ slBlk L.qA = some i
/-- The disk at p is S, and lies at L. -/
structure DK (w : World) (p : Nat) (S : DS) (L : DL) : Prop where
  wf : S.wf
  box : w.heap[p]? = some (.cells (diskV S L) 56 (0, 0))
  files : ∃ m, MapF w L.bf okI kvI fileV m ∧ S.files = fun f => (m f).getD (e0, e0)
  queue : OwnL w 0 70 2 secC L.qA L.qc S.queue
  set : MapF w L.bs okS secV Value.bool (setF S.queue)
  keep : RdL 1 intC w w.heap.size L.kA S.keep
  pf : p ≠ L.bf
  ps : p ≠ L.bs
  fs : L.bf ≠ L.bs
  qp : ∀ i, slBlk L.qA = some i → i ≠ p ∧ i ≠ L.bf ∧ i ≠ L.bs
  kp : ∀ i, slBlk L.kA = some i → ¬ L.own p i
  kl : ∀ i, slBlk L.kA = some i → i < w.heap.size
/-- The disk at p, which lay at L, is S now; nothing else that was there turned. -/
def Upd (p : Nat) (S : DS) (L : DL) (w w' : World) : Prop :=
  ∃ L', DK w' p S L' ∧ Turn (L.own p) w w' ∧ (∀ i, L'.own p i → L.own p i ∨ w.heap.size ≤ i) ∧ (∀ i, slBlk L'.kA = some i → slBlk L.kA = some i ∨ w.heap.size ≤ i)

section
variable {w w' : World} {p : Nat} {S : DS} {L : DL}
theorem DK.lt (h : DK w p S L) : ∀ i, L.own p i → i < w.heap.size := by
  obtain ⟨m, hm, _⟩ := h.files
  rintro i (rfl | rfl | rfl | hi)
  · exact box_lt h.box
  · exact hm.lt
  · exact h.set.lt
  · exact (h.queue.blk_lt hi).2
/-- The blocks of the disk stand: so does the disk. -/
theorem DK.turn (h : DK w p S L) (hb : ∀ i, L.own p i ∨ slBlk L.kA = some i → w'.heap[i]? = w.heap[i]?) (hs : w.heap.size ≤ w'.heap.size) : DK w' p S L := by
  obtain ⟨m, hm, hf⟩ := h.files
  exact ⟨h.wf, (hb p (.inl (.inl rfl))).trans h.box, ⟨m, hm.of_block (hb _ (.inl (.inr (.inl rfl)))), hf⟩, h.queue.turn (fun i hi _ => hb i (.inl (.inr (.inr (.inr hi))))), h.set.of_block (hb _ (.inl (.inr (.inr (.inl rfl))))),
    h.keep.turn (fun i hi _ => hb i (.inr hi)) hs, h.pf, h.ps, h.fs, h.qp, h.kp, fun i hi => Nat.lt_of_lt_of_le (h.kl i hi) hs⟩
theorem DK.frame {F : Nat → Prop} (h : DK w p S L) (ht : Turn F w w') (hF : ∀ i, L.own p i ∨ slBlk L.kA = some i → ¬ F i) : DK w' p S L := by
  refine h.turn (fun i hi => ht.block i ?_ (hF i hi)) ht.size
  rcases hi with hi | hi
  · exact h.lt i hi
  · exact h.kl i hi
theorem DK.below (h : DK w p S L) (hb : Below w.heap.size w w') : DK w' p S L := h.frame (F := fun _ => False) (Turn.below hb) (fun _ _ hf => hf)
theorem Upd.refl (h : DK w p S L) : Upd p S L w w := ⟨L, h, Turn.refl _ _, fun _ hi => .inl hi, fun _ hi => .inl hi⟩
theorem Upd.of_below (h : DK w p S L) (hb : Below w.heap.size w w') : Upd p S L w w' := ⟨L, h.below hb, Turn.below hb, fun _ hi => .inl hi, fun _ hi => .inl hi⟩
theorem Upd.trans {S2 : DS} {L1 : DL} {w1 w2 : World} (h1 : Turn (L.own p) w w1) (h2 : ∀ i, L1.own p i → L.own p i ∨ w.heap.size ≤ i) (h3 : ∀ i, slBlk L1.kA = some i → slBlk L.kA = some i ∨ w.heap.size ≤ i) (h : Upd p S2 L1 w1 w2) : Upd p S2 L w w2 := by
  obtain ⟨L2, d, t, o, k⟩ := h
  refine ⟨L2, d, h1.trans t h2, fun i hi => ?_, fun i hi => ?_⟩
  · rcases o i hi with h4 | h4
    · exact h2 i h4
    · exact .inr (Nat.le_trans h1.size h4)
  · rcases k i hi with h4 | h4
    · exact h3 i h4
    · exact .inr (Nat.le_trans h1.size h4)
/-- Only the box turned, and in it only the numbers. -/
theorem DK.scal (h : DK w p S L) (a : Int) (b : Bool) (c : Int) (hw : (DS.mk S.files S.queue a b c S.keep).wf) (hbox : w'.heap[p]? = some (.cells (diskV (DS.mk S.files S.queue a b c S.keep) L) 56 (0, 0))) (hg : w.grownBy w' (some p)) :
    DK w' p (DS.mk S.files S.queue a b c S.keep) L := by
  obtain ⟨m, hm, hf⟩ := h.files
  have hne : ∀ i, i < w.heap.size → i ≠ p → w'.heap[i]? = w.heap[i]? := fun i hi hn => hg.block i hi (fun e => hn (by injection e))
  exact ⟨hw, hbox, ⟨m, hm.of_block (hne _ hm.lt (fun e => h.pf e.symm)), hf⟩, h.queue.turn (fun i hi hl => hne i hl (h.qp i hi).1), h.set.of_block (hne _ h.set.lt (fun e => h.ps e.symm)),
    h.keep.turn (fun i hi hl => hne i hl (fun e => h.kp i hi (.inl e))) hg.size, h.pf, h.ps, h.fs, h.qp, h.kp, fun i hi => Nat.lt_of_lt_of_le (h.kl i hi) hg.size⟩
theorem Upd.scal (h : DK w p S L) (a : Int) (b : Bool) (c : Int) (hw : (DS.mk S.files S.queue a b c S.keep).wf) (hbox : w'.heap[p]? = some (.cells (diskV (DS.mk S.files S.queue a b c S.keep) L) 56 (0, 0))) (hg : w.grownBy w' (some p)) :
    Upd p (DS.mk S.files S.queue a b c S.keep) L w w' := ⟨L, h.scal a b c hw hbox hg, Turn.grown hg (fun k hk => by cases hk; exact .inl rfl), fun _ hi => .inl hi, fun _ hi => .inl hi⟩
end
section
variable {w : World} {p : Nat} {S : DS} {L : DL}
theorem DK.c0 (h : DK w p S L) : w.cell? ⟨p, 0, none⟩ = some (.map (some L.bf)) := box_cell h.box 0 _ rfl
theorem DK.c1 (h : DK w p S L) : w.cell? ⟨p, 1, none⟩ = some (.slice L.qA S.queue.length L.qc) := box_cell h.box 1 _ rfl
theorem DK.c2 (h : DK w p S L) : w.cell? ⟨p, 2, none⟩ = some (.map (some L.bs)) := box_cell h.box 2 _ rfl
theorem DK.c3 (h : DK w p S L) : w.cell? ⟨p, 3, none⟩ = some (.int .i64 S.lost) := box_cell h.box 3 _ rfl
theorem DK.c4 (h : DK w p S L) : w.cell? ⟨p, 4, none⟩ = some (.bool S.down) := box_cell h.box 4 _ rfl
theorem DK.c5 (h : DK w p S L) : w.cell? ⟨p, 5, none⟩ = some (.int .i64 S.armed) := box_cell h.box 5 _ rfl
theorem DK.c6 (h : DK w p S L) : w.cell? ⟨p, 6, none⟩ = some (.slice L.kA S.keep.length L.kc) := box_cell h.box 6 _ rfl
end

theorem dDown_any (p : Nat) (S : DS) (L : DL) (w : World) (h : DK w p S L) : Calls Try.prog 14 #[.pointer (some ⟨p, 0, none⟩)] w fun e w' => e = .returned (.bool S.down) ∧ w' = w := by
  have c4 := h.c4
  clear h
  go_enter Try.func14, Try.ntmps14
  go_wp2
  go_ret
  exact ⟨rfl, rfl⟩
theorem dStart_any (p : Nat) (S : DS) (L : DL) (w : World) (h : DK w p S L) : Calls Try.prog 26 #[.pointer (some ⟨p, 0, none⟩)] w fun e w' => e = .returned (.tuple #[]) ∧ Upd p S.start L w w' := by
  have c4 := h.c4
  have cz := fun j => box_free h.box j
  have H := Lib.hid h
  clear h
  go_enter Try.func26, Try.ntmps26
  go_wp2
  go_end0
  exact ⟨rfl, Upd.scal H.out S.lost false S.armed (DS.start_wf H.out.wf) (heap_setCell_same _ _ _ _ _ _ H.out.box) (grown_set _ _ _ _)⟩
theorem dLose_any (p : Nat) (S : DS) (L : DL) (w : World) (n : Int) (hn : inI64 n) (h : DK w p S L) : Calls Try.prog 31 #[.pointer (some ⟨p, 0, none⟩), .int .i64 n] w fun e w' => e = .returned (.tuple #[]) ∧ Upd p (S.lose n) L w w' := by
  have c3 := h.c3
  have cz := fun j => box_free h.box j
  have H := Lib.hid h
  have HW := Lib.hid (DS.lose_wf h.wf n hn)
  clear h
  rcases Int.lt_or_le n 0 with h0 | h0
  · have HT : Hid (S.lose n = ⟨S.files, S.queue, 0, S.down, S.armed, S.keep⟩) := Lib.hid (by unfold DS.lose; rw [Int.max_eq_right (by omega)])
    rw [HT.out] at HW
    go_enter Try.func31, Try.ntmps31
    go_wp2
    all_goals go_end0
    all_goals exact ⟨rfl, by rw [HT.out]; exact Upd.scal H.out 0 S.down S.armed HW.out (heap_setCell_same _ _ _ _ _ _ H.out.box) (grown_set _ _ _ _)⟩
  · have HT : Hid (S.lose n = ⟨S.files, S.queue, n, S.down, S.armed, S.keep⟩) := Lib.hid (by unfold DS.lose; rw [Int.max_eq_left h0])
    rw [HT.out] at HW
    go_enter Try.func31, Try.ntmps31
    go_wp2
    all_goals first
      | (exfalso; omega)
      | (go_end0; exact ⟨rfl, by rw [HT.out]; exact Upd.scal H.out n S.down S.armed HW.out (heap_setCell_same _ _ _ _ _ _ H.out.box) (grown_set _ _ _ _)⟩)
theorem dMay_any (p : Nat) (S : DS) (L : DL) (w : World) (f : Int) (h : DK w p S L) : Calls Try.prog 44 #[.pointer (some ⟨p, 0, none⟩), .int .i64 f] w fun e w' => e = .returned (.int .i64 (S.may f)) ∧ w' = w := by
  have c4 := h.c4
  clear h
  go_enter Try.func44, Try.ntmps44
  go_wp2
  all_goals go_ret
  all_goals refine ⟨ret_int ?_, rfl⟩
  all_goals unfold DS.may
  all_goals first
    | (rw [if_pos (by assumption)]; done)
    | (rw [if_neg (by simp_all), if_pos (by omega)]; done)
    | (rw [if_neg (by simp_all), if_neg (by omega)]; done)
theorem dEnds_any (p : Nat) (S : DS) (L : DL) (w : World) (h : DK w p S L) : Calls Try.prog 43 #[.pointer (some ⟨p, 0, none⟩)] w fun e w' => e = .returned (.bool S.endsB) ∧ Upd p S.tick L w w' := by
  have c4 := h.c4
  have c5 := h.c5
  have cz := fun j => box_free h.box j
  have H := Lib.hid h
  have HW := Lib.hid (DS.tick_wf h.wf)
  have h0 := h.wf.armed0
  have h1 := h.wf.armed1
  unfold inI64 at h1
  clear h
  by_cases hd : S.down = true ∨ S.armed = 0
  · have he : S.endsB = false := by
      unfold DS.endsB
      rcases hd with h | h <;> simp [h]
    have HT : Hid (S.tick = S) := Lib.hid (by unfold DS.tick; rw [if_pos hd])
    rw [he]
    go_enter Try.func43, Try.ntmps43
    rcases hd with h | h
    · rw [h] at c4
      go_wp2
      go_ret
      exact ⟨rfl, by rw [HT.out]; exact Upd.refl H.out⟩
    · rw [h] at c5
      go_wp2
      all_goals go_ret
      all_goals exact ⟨rfl, by rw [HT.out]; exact Upd.refl H.out⟩
  · have hd1 : S.down = false := by cases hq : S.down <;> simp_all
    have hd2 : (S.armed == 0) = false := by simp_all
    have he : S.endsB = (S.armed - 1 == 0) := by
      unfold DS.endsB
      rw [hd1, Bool.eq_iff_iff]
      simp
      omega
    have HT : Hid (S.tick = ⟨S.files, S.queue, S.lost, S.down, S.armed - 1, S.keep⟩) := Lib.hid (by unfold DS.tick; rw [if_neg hd])
    rw [HT.out] at HW
    rw [hd1] at c4
    rw [he]
    clear he hd
    go_enter Try.func43, Try.ntmps43
    go_wp2
    all_goals go_ret
    all_goals exact ⟨rfl, by rw [HT.out]; exact Upd.scal H.out S.lost S.down (S.armed - 1) HW.out (heap_setCell_same _ _ _ _ _ _ H.out.box) (grown_set _ _ _ _)⟩
end Go.Proofs.Ytjgeefagnddpfaa
