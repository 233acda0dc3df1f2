/- Where a disk of the reference lies in memory, and the contracts of its small methods. -/
import Derived.Test.YtjgeefagnddpfaaDkK
import Derived.Test.YtjgeefagnddpfaaByt
import Derived.Test.YtjgeefagnddpfaaBox
namespace Go.Proofs.Ytjgeefagnddpfaa
open Go.RowKit

abbrev RFile := Int × FileT
def rfC (x : RFile) : List Value := [.int .i64 x.1, .string x.2.1, .string x.2.2]
theorem rfLay : Lay 3 rfC := ⟨fun _ => rfl, fun x u h => by simp [rfC] at h; rcases h with rfl | rfl | rfl <;> rfl⟩
theorem slRFile : SlTy Try.prog 57 65 3 40 := by
  obtain ⟨i, hi, h0, h1, h2⟩ := info_parts (show (Try.prog.info? 65).map (fun i => (i.zero, i.size, i.bytes)) = some (some (.agg #[.int .i64 0, .string ⟨#[]⟩, .string ⟨#[]⟩]), 3, 40) by kernel_rfl)
  exact ⟨Try.underlying57, ⟨i, _, hi, h0, h1, h2, rfl⟩, by decide, by decide⟩
theorem slRSec : SlTy Try.prog 58 78 2 16 := by
  obtain ⟨i, hi, h0, h1, h2⟩ := info_parts (show (Try.prog.info? 78).map (fun i => (i.zero, i.size, i.bytes)) = some (some (.agg #[.int .i64 0, .int .i64 0]), 2, 16) by kernel_rfl)
  exact ⟨Try.underlying58, ⟨i, _, hi, h0, h1, h2, rfl⟩, by decide, by decide⟩

/-- The list of files, read as a function. -/
def rfun (l : List RFile) : Int → FileT := fun f => match l.find? (fun x => x.1 == f) with
  | some x => x.2
  | none => (e0, e0)
def rset (l : List RFile) (x : RFile) : List RFile := l.filter (fun y => !(y.1 == x.1)) ++ [x]
theorem rfun_set (l : List RFile) (x : RFile) : rfun (rset l x) = updF (rfun l) x.1 x.2 := by
  funext f
  unfold rfun rset updF
  rw [List.find?_append]
  by_cases h : f = x.1
  · subst h
    rw [if_pos rfl, List.find?_eq_none.2 (fun y hy => by have := (List.mem_filter.1 hy).2; simpa using this)]
    simp
  · rw [if_neg h]
    have h1 : List.find? (fun y => y.1 == f) [x] = none := by
      rw [List.find?_cons_of_neg (by simp; exact fun e => h e.symm)]
      rfl
    rw [h1, Option.or_none, List.find?_filter]
    have h2 : (fun y : RFile => decide (((!(y.1 == x.1)) = true) ∧ ((y.1 == f) = true))) = (fun y => y.1 == f) := by
      funext y
      by_cases hy : y.1 = f
      · have : ¬ y.1 = x.1 := fun e => h (by rw [← hy, e])
        simp [hy]
        exact h
      · simp [hy]
    simp only [h2]
structure RFok (l : List RFile) : Prop where
  nd : (l.map (·.1)).Nodup
  r : ∀ x ∈ l, 0 ≤ x.1 ∧ x.1 < 16
theorem RFok.len {l : List RFile} (h : RFok l) : l.length ≤ 16 := by
  have h1 := nodup_len 16 (l.map (fun x => x.1.toNat)) (by
    have h0 := h.nd
    rw [List.nodup_iff_pairwise_ne, List.pairwise_map] at h0 ⊢
    refine List.Pairwise.imp_of_mem ?_ h0
    intro a b ha hb hne he
    have := h.r a ha
    have := h.r b hb
    exact hne (by omega)) (fun x hx => by
    obtain ⟨y, hy, rfl⟩ := List.mem_map.1 hx
    have := h.r y hy
    omega)
  simpa using h1
theorem RFok.set {l : List RFile} (h : RFok l) (x : RFile) (hx : 0 ≤ x.1 ∧ x.1 < 16) : RFok (rset l x) := by
  refine ⟨?_, fun y hy => ?_⟩
  · unfold rset
    rw [List.map_append, List.nodup_append]
    refine ⟨h.nd.sublist ((List.filter_sublist).map _), by simp, fun a ha b hb => ?_⟩
    obtain ⟨y, hy, rfl⟩ := List.mem_map.1 ha
    have := (List.mem_filter.1 hy).2
    simp at hb
    subst hb
    simpa using this
  · rcases List.mem_append.1 hy with hy | hy
    · exact h.r y (List.mem_filter.1 hy).1
    · simp at hy
      subst hy
      exact hx
theorem RFok.nil_ : RFok [] := ⟨by simp, by simp⟩

/-- Where the parts of a disk of the reference lie, and its list of files. -/
structure RL where
  fl : List RFile
  fA : Option Addr
  fc : Nat
  qA : Option Addr
  qc : Nat
  kA : Option Addr
  kc : Nat
def refV (S : DS) (L : RL) : Array Value := #[.slice L.fA L.fl.length L.fc, .slice L.qA S.queue.length L.qc, .int .i64 S.lost, .bool S.down, .int .i64 S.armed, .slice L.kA S.keep.length L.kc]
def RL.own (L : RL) (p : Nat) : Nat → Prop := fun i => i = p ∨ slBlk L.fA = some i ∨ slBlk L.qA = some i
structure RK (w : World) (p : Nat) (S : DS) (L : RL) : Prop where
  wf : S.wf
  box : w.heap[p]? = some (.cells (refV S L) 60 (0, 0))
  files : OwnL w 0 65 3 rfC L.fA L.fc L.fl
  fn : S.files = rfun L.fl
  fok : RFok L.fl
  queue : OwnL w 0 78 2 secC L.qA L.qc S.queue
  keep : RdL 1 intC w w.heap.size L.kA S.keep
  fp : ∀ i, slBlk L.fA = some i → i ≠ p
  qp : ∀ i, slBlk L.qA = some i → i ≠ p ∧ slBlk L.fA ≠ some i
  kp : ∀ i, slBlk L.kA = some i → ¬ L.own p i
  kl : ∀ i, slBlk L.kA = some i → i < w.heap.size
def RUpd (p : Nat) (S : DS) (L : RL) (w w' : World) : Prop :=
  ∃ L', RK w' p S L' ∧ Turn (L.own p) w w' ∧ (∀ i, L'.own p i → L.own p i ∨ w.heap.size ≤ i) ∧ (∀ i, slBlk L'.kA = some i → slBlk L.kA = some i ∨ w.heap.size ≤ i)

section
variable {w w' : World} {p : Nat} {S : DS} {L : RL}
theorem RK.lt (h : RK w p S L) : ∀ i, L.own p i → i < w.heap.size := by
  rintro i (rfl | hi | hi)
  · exact box_lt h.box
  · exact (h.files.blk_lt hi).2
  · exact (h.queue.blk_lt hi).2
theorem RK.turn (h : RK w p S L) (hb : ∀ i, L.own p i ∨ slBlk L.kA = some i → w'.heap[i]? = w.heap[i]?) (hs : w.heap.size ≤ w'.heap.size) : RK w' p S L :=
  ⟨h.wf, (hb p (.inl (.inl rfl))).trans h.box, h.files.turn (fun i hi _ => hb i (.inl (.inr (.inl hi)))), h.fn, h.fok, h.queue.turn (fun i hi _ => hb i (.inl (.inr (.inr hi)))),
    h.keep.turn (fun i hi _ => hb i (.inr hi)) hs, h.fp, h.qp, h.kp, fun i hi => Nat.lt_of_lt_of_le (h.kl i hi) hs⟩
theorem RK.frame {F : Nat → Prop} (h : RK w p S L) (ht : Turn F w w') (hF : ∀ i, L.own p i ∨ slBlk L.kA = some i → ¬ F i) : RK w' p S L := by
  refine h.turn (fun i hi => ht.block i ?_ (hF i hi)) ht.size
  rcases hi with hi | hi
  · exact h.lt i hi
  · exact h.kl i hi
theorem RK.below (h : RK w p S L) (hb : Below w.heap.size w w') : RK w' p S L := h.frame (F := fun _ => False) (Turn.below hb) (fun _ _ hf => hf)
theorem RUpd.refl (h : RK w p S L) : RUpd p S L w w := ⟨L, h, Turn.refl _ _, fun _ hi => .inl hi, fun _ hi => .inl hi⟩
theorem RUpd.of_below (h : RK w p S L) (hb : Below w.heap.size w w') : RUpd p S L w w' := ⟨L, h.below hb, Turn.below hb, fun _ hi => .inl hi, fun _ hi => .inl hi⟩
theorem RUpd.trans {S2 : DS} {L1 : RL} {w1 w2 : World} (h1 : Turn (L.own p) w w1) (h2 : ∀ i, L1.own p i → L.own p i ∨ w.heap.size ≤ i) (h3 : ∀ i, slBlk L1.kA = some i → slBlk L.kA = some i ∨ w.heap.size ≤ i) (h : RUpd p S2 L1 w1 w2) : RUpd p S2 L w w2 := by
  obtain ⟨L2, d, t, o, k⟩ := h
  refine ⟨L2, d, h1.trans t h2, fun i hi => ?_, fun i hi => ?_⟩
  · rcases o i hi with h4 | h4
    · exact h2 i h4
    · exact .inr (Nat.le_trans h1.size h4)
  · rcases k i hi with h4 | h4
    · exact h3 i h4
    · exact .inr (Nat.le_trans h1.size h4)
/-- Behind steps that turned nothing of the disk. -/
theorem RUpd.behind {S2 : DS} {w1 w2 : World} (h1 : Below w.heap.size w w1) (h : RUpd p S2 L w1 w2) : RUpd p S2 L w w2 :=
  RUpd.trans (Turn.below h1) (fun _ hi => .inl hi) (fun _ hi => .inl hi) h
theorem RK.scal (h : RK w p S L) (a : Int) (b : Bool) (c : Int) (hw : (DS.mk S.files S.queue a b c S.keep).wf) (hbox : w'.heap[p]? = some (.cells (refV (DS.mk S.files S.queue a b c S.keep) L) 60 (0, 0))) (hg : w.grownBy w' (some p)) :
    RUpd p (DS.mk S.files S.queue a b c S.keep) L w w' := by
  have hne : ∀ i, i < w.heap.size → i ≠ p → w'.heap[i]? = w.heap[i]? := fun i hi hn => hg.block i hi (fun e => hn (by injection e))
  exact ⟨L, ⟨hw, hbox, h.files.turn (fun i hi hl => hne i hl (h.fp i hi)), h.fn, h.fok, h.queue.turn (fun i hi hl => hne i hl (h.qp i hi).1),
    h.keep.turn (fun i hi hl => hne i hl (fun e => h.kp i hi (.inl e))) hg.size, h.fp, h.qp, h.kp, fun i hi => Nat.lt_of_lt_of_le (h.kl i hi) hg.size⟩, Turn.grown hg (fun k hk => by cases hk; exact .inl rfl), fun _ hi => .inl hi, fun _ hi => .inl hi⟩
/-- A new list of files or of sectors, in memory of the call's own. -/
theorem RK.renew (h : RK w p S L) (t : Turn (fun i => i = p ∨ slBlk L.qA = some i) w w') (fl : List RFile) (fA : Option Addr) (fc : Nat) (q : List (Int × Int)) (qA : Option Addr) (qc : Nat) (F : Int → FileT) (d : Bool) (a : Int)
    (hw : (DS.mk F q S.lost d a S.keep).wf) (hbox : w'.heap[p]? = some (.cells (refV (DS.mk F q S.lost d a S.keep) ⟨fl, fA, fc, qA, qc, L.kA, L.kc⟩) 60 (0, 0)))
    (hf : OwnL w' 0 65 3 rfC fA fc fl) (hF : F = rfun fl) (hok : RFok fl) (hq : OwnL w' 0 78 2 secC qA qc q)
    (hfA : ∀ i, slBlk fA = some i → (slBlk L.fA = some i ∨ w.heap.size ≤ i)) (hqA : ∀ i, slBlk qA = some i → (slBlk L.qA = some i ∨ w.heap.size ≤ i)) (hd : ∀ i, slBlk qA = some i → slBlk fA ≠ some i) : RUpd p (DS.mk F q S.lost d a S.keep) L w w' := by
  have hp := box_lt h.box
  refine ⟨⟨fl, fA, fc, qA, qc, L.kA, L.kc⟩, ⟨hw, hbox, hf, hF, hok, hq, h.keep.turn (fun i hi hl => t.block i hl (fun ho => h.kp i hi (by rcases ho with ho | ho; exact .inl ho; exact .inr (.inr ho)))) t.size, fun i hi => ?_, fun i hi => ⟨?_, hd i hi⟩, fun i hi ho => ?_, fun i hi => Nat.lt_of_lt_of_le (h.kl i hi) t.size⟩,
    t.mono (fun i hi => .inl (by rcases hi with hi | hi; exact .inl hi; exact .inr (.inr hi))), fun i hi => ?_, fun i hi => .inl hi⟩
  · rcases hfA i hi with h1 | h1
    · exact h.fp i h1
    · omega
  · rcases hqA i hi with h1 | h1
    · exact (h.qp i h1).1
    · omega
  · have hk := h.kl i hi
    have hn := h.kp i hi
    rcases ho with ho | ho | ho
    · exact hn (.inl ho)
    · rcases hfA i ho with h1 | h1
      · exact hn (.inr (.inl h1))
      · omega
    · rcases hqA i ho with h1 | h1
      · exact hn (.inr (.inr h1))
      · omega
  · rcases hi with ho | ho | ho
    · exact .inl (.inl ho)
    · rcases hfA i ho with h1 | h1
      · exact .inl (.inr (.inl h1))
      · exact .inr h1
    · rcases hqA i ho with h1 | h1
      · exact .inl (.inr (.inr h1))
      · exact .inr h1
theorem RK.c0 (h : RK w p S L) : w.cell? ⟨p, 0, none⟩ = some (.slice L.fA L.fl.length L.fc) := box_cell h.box 0 _ rfl
theorem RK.c1 (h : RK w p S L) : w.cell? ⟨p, 1, none⟩ = some (.slice L.qA S.queue.length L.qc) := box_cell h.box 1 _ rfl
theorem RK.c2 (h : RK w p S L) : w.cell? ⟨p, 2, none⟩ = some (.int .i64 S.lost) := box_cell h.box 2 _ rfl
theorem RK.c3 (h : RK w p S L) : w.cell? ⟨p, 3, none⟩ = some (.bool S.down) := box_cell h.box 3 _ rfl
theorem RK.c4 (h : RK w p S L) : w.cell? ⟨p, 4, none⟩ = some (.int .i64 S.armed) := box_cell h.box 4 _ rfl
theorem RK.c5 (h : RK w p S L) : w.cell? ⟨p, 5, none⟩ = some (.slice L.kA S.keep.length L.kc) := box_cell h.box 5 _ rfl
end

theorem rNew_any (w : World) : Calls Try.prog 11 #[] w fun e w' => e = .returned (.pointer (some ⟨w.heap.size, 0, none⟩)) ∧ Below w.heap.size w w' ∧ ∃ L, RK w' w.heap.size DS.new L ∧ (∀ i, L.own w.heap.size i → w.heap.size ≤ i) ∧ L.kA = none := by
  go_enter Try.func11, Try.ntmps11
  go_wp2
  go_ret
  refine ⟨rfl, by repeat (first | with_reducible exact Below.refl _ _ | with_reducible assumption | with_reducible refine Below.drew ?_ | with_reducible refine Below.alloc ?_ (by first | omega | (simp; done) | (simp; omega)) _), ⟨[], none, 0, none, 0, none, 0⟩, ⟨DS.new_wf, (MapKept.heap_alloc w _).1, OwnL.nil_, rfl, RFok.nil_, OwnL.nil_, RdL.nil_, ?_, ?_, ?_, ?_⟩, ?_, rfl⟩
  · intro i hi
    cases hi
  · intro i hi
    cases hi
  · intro i hi
    cases hi
  · intro i hi
    cases hi
  · rintro i (h | h | h)
    · omega
    · cases h
    · cases h
theorem rDown_any (p : Nat) (S : DS) (L : RL) (w : World) (h : RK w p S L) : Calls Try.prog 15 #[.pointer (some ⟨p, 0, none⟩)] w fun e w' => e = .returned (.bool S.down) ∧ w' = w := by
  have c3 := h.c3
  clear h
  go_enter Try.func15, Try.ntmps15
  go_wp2
  go_ret
  exact ⟨rfl, rfl⟩
theorem rStart_any (p : Nat) (S : DS) (L : RL) (w : World) (h : RK w p S L) : Calls Try.prog 37 #[.pointer (some ⟨p, 0, none⟩)] w fun e w' => e = .returned (.tuple #[]) ∧ RUpd p S.start L w w' := by
  have c3 := h.c3
  have cz := fun j => box_free h.box j
  have H := Lib.hid h
  clear h
  go_enter Try.func37, Try.ntmps37
  go_wp2
  go_end0
  exact ⟨rfl, RK.scal H.out S.lost false S.armed (DS.start_wf H.out.wf) (heap_setCell_same _ _ _ _ _ _ H.out.box) (grown_set _ _ _ _)⟩
theorem rLose_any (p : Nat) (S : DS) (L : RL) (w : World) (n : Int) (hn : inI64 n) (h : RK w p S L) : Calls Try.prog 34 #[.pointer (some ⟨p, 0, none⟩), .int .i64 n] w fun e w' => e = .returned (.tuple #[]) ∧ RUpd p (S.lose n) L w w' := by
  have c3 := h.c2
  have cz := fun j => box_free h.box j
  have H := Lib.hid h
  have HW := Lib.hid (DS.lose_wf h.wf n hn)
  clear h
  rcases Int.lt_or_le n 0 with h0 | h0
  · have HT : Hid (S.lose n = ⟨S.files, S.queue, 0, S.down, S.armed, S.keep⟩) := Lib.hid (by unfold DS.lose; rw [Int.max_eq_right (by omega)])
    rw [HT.out] at HW
    go_enter Try.func34, Try.ntmps34
    go_wp2
    all_goals go_end0
    all_goals exact ⟨rfl, by rw [HT.out]; exact RK.scal H.out 0 S.down S.armed HW.out (heap_setCell_same _ _ _ _ _ _ H.out.box) (grown_set _ _ _ _)⟩
  · have HT : Hid (S.lose n = ⟨S.files, S.queue, n, S.down, S.armed, S.keep⟩) := Lib.hid (by unfold DS.lose; rw [Int.max_eq_left h0])
    rw [HT.out] at HW
    go_enter Try.func34, Try.ntmps34
    go_wp2
    all_goals first
      | (exfalso; omega)
      | (go_end0; exact ⟨rfl, by rw [HT.out]; exact RK.scal H.out n S.down S.armed HW.out (heap_setCell_same _ _ _ _ _ _ H.out.box) (grown_set _ _ _ _)⟩)
theorem rMay_any (p : Nat) (S : DS) (L : RL) (w : World) (f : Int) (h : RK w p S L) : Calls Try.prog 46 #[.pointer (some ⟨p, 0, none⟩), .int .i64 f] w fun e w' => e = .returned (.int .i64 (S.may f)) ∧ w' = w := by
  have c3 := h.c3
  clear h
  go_enter Try.func46, Try.ntmps46
  go_wp2
  all_goals go_ret
  all_goals refine ⟨ret_int ?_, rfl⟩
  all_goals unfold DS.may
  all_goals first
    | (rw [if_pos (by assumption)]; done)
    | (rw [if_neg (by simp_all), if_pos (by omega)]; done)
    | (rw [if_neg (by simp_all), if_neg (by omega)]; done)
theorem rFits_any (a : Int) (s : ByteArray) (w : World) (ha : inI64 a) (hs : s.size ≤ 1073741824) : Calls Try.prog 53 #[.int .i64 a, .string s] w fun e w' => e = .returned (.bool (fitsB a s)) ∧ w' = w := by
  unfold inI64 at ha
  go_enter Try.func53, Try.ntmps53
  go_wp2
  all_goals go_ret
  all_goals refine ⟨ret_bool ?_, rfl⟩
  all_goals unfold fitsB
  all_goals first
    | (simp_all; done)
    | (simp_all; intros; omega)
theorem RdL.rf {w : World} {B : Nat} {A : Option Addr} {xs : List RFile} (h : RdL 3 rfC w B A xs) {k : Nat} (hk : k < xs.length) : ∃ b off, A = some ⟨b, off, none⟩ ∧ b < B ∧ w.cell? ⟨b, off + k * 3, none⟩ = some (.int .i64 xs[k].1) ∧ w.cell? ⟨b, off + k * 3 + 1, none⟩ = some (.string xs[k].2.1) ∧ w.cell? ⟨b, off + k * 3 + 2, none⟩ = some (.string xs[k].2.2) := by
  obtain ⟨b, off, e, hb, hc⟩ := h.at_ hk
  exact ⟨b, off, e, hb, hc 0 _ rfl, hc 1 _ rfl, hc 2 _ rfl⟩
theorem rfun_hit (f : Int) (l : List RFile) (k : Nat) (hk : k < l.length) (hn : ∀ p ∈ l.take k, (p.1 == f) = false) (h : (l[k].1 == f) = true) : rfun l f = l[k].2 := by
  unfold rfun
  have : l.find? (fun x => x.1 == f) = some l[k] := by
    rw [List.find?_eq_some_iff_getElem]
    refine ⟨h, k, hk, rfl, fun j hj => ?_⟩
    have := hn l[j] (List.mem_take_iff_getElem.2 ⟨j, by omega, rfl⟩)
    simpa using this
  rw [this]
theorem rfun_none (f : Int) (l : List RFile) (hn : ∀ p ∈ l, (p.1 == f) = false) : rfun l f = (e0, e0) := by
  unfold rfun
  rw [List.find?_eq_none.2 (fun x hx => by rw [hn x hx]; simp)]
theorem range_block {w : World} {b : Nat} {cs : Array Value} {t : TypeId} {l : List Value} (h : w.heap[b]? = some (.cells cs t (0, 0))) (hl : cs.toList = l) : w.rangeAt b 0 l := by
  intro j v hj
  subst hl
  rw [Nat.zero_add]
  exact box_cell h j v (by rw [← Array.getElem?_toList]; exact hj)
theorem fileRet {x : RFile} {f : Int} {y : FileT} (h1 : x.1 = f) (h2 : x.2 = y) : Ending.returned (.agg (rfC x).toArray) = .returned (.agg #[.int .i64 f, .string y.1, .string y.2]) := by
  subst h1 h2
  rfl
set_option maxHeartbeats 1000000 in
theorem rGet_any (p : Nat) (S : DS) (L : RL) (w : World) (f : Int) (h : RK w p S L) : Calls Try.prog 39 #[.pointer (some ⟨p, 0, none⟩), .int .i64 f] w fun e w' => e = .returned (.agg #[.int .i64 f, .string (S.files f).1, .string (S.files f).2]) ∧ Below w.heap.size w w' := by
  have HR := Lib.hid (h.files.rd rfLay)
  have c0 := h.c0
  have hp := box_lt h.box
  have HN := Lib.hid h.fn
  have hl := h.fok.len
  clear h
  go_enter Try.func39, Try.ntmps39
  go_wp2
  go_loopw [5] (fun i wr => ∃ k : Nat, k ≤ L.fl.length ∧ i = .int .i64 k ∧ (∀ p ∈ L.fl.take k, (p.1 == f) = false) ∧ Below w.heap.size w wr ∧ wr.heap[w.heap.size]? = some (.cells #[.int .i64 0, .string ⟨#[]⟩, .string ⟨#[]⟩] 65 (0, 0))) (fun i _ => L.fl.length - (intOf i).toNat)
  case atStart => exact ⟨0, Nat.zero_le _, rfl, fun p hp => by simp at hp, by repeat (first | with_reducible exact Below.refl _ _ | with_reducible assumption | with_reducible refine Below.drew ?_ | with_reducible refine Below.alloc ?_ (by first | omega | (simp; done) | (simp; omega)) _), (MapKept.heap_alloc w _).1⟩
  case round =>
    obtain ⟨k, hk, rfl, hf, hb, hn⟩ := hrel
    have HF := Lib.hid hf
    have HB := Lib.hid hb
    have HN2 := Lib.hid hn
    have hc0 : wr.cell? ⟨p, 0, none⟩ = some (.slice L.fA L.fl.length L.fc) := (hb.cell (p := ⟨p, 0, none⟩) hp).trans c0
    have n0 := box_cell hn 0 _ rfl
    have n1 := box_cell hn 1 _ rfl
    have n2 := box_cell hn 2 _ rfl
    have nz := fun j => box_free hn j
    clear hf hn c0
    by_cases hlt : k < L.fl.length
    · obtain ⟨b, off, hA, hbb, c1, c2, c3⟩ := (HR.out.below hb).rf hlt
      rw [hA] at hc0
      have HHit := Lib.hid (rfun_hit f L.fl k hlt HF.out)
      have HSt := Lib.hid (take_step (fun x : RFile => (x.1 == f) = false) L.fl k hlt HF.out)
      have HX := Lib.hid (HB.out)
      clear hb
      generalize L.fl[k] = x at *
      cases hv : (x.1 == f)
      · go_wp2
        go_roundw
        case rel => exact ⟨k + 1, by omega, by go_num, HSt.out hv, HB.out, HN2.out⟩
        case measure => simp [intOf]; omega
      · go_wp2
        refine ret_box 4 65 rfl w.heap.size (rfC x) _ rfl (range_block (heap_setCell_same _ _ 2 _ _ (.string x.2.2) (heap_setCell_same _ _ 1 _ _ (.string x.2.1) (heap_setCell_same _ _ 0 _ _ (.int .i64 x.1) HN2.out))) rfl) Try.underlying65 rfl (by kernel_rfl) rfl ⟨fileRet (by simpa using hv) (by rw [HN.out, HHit.out hv]), ?_⟩
        exact ((HB.out.setCell (p := ⟨w.heap.size, 0, none⟩) (Nat.le_refl _) _).setCell (p := ⟨w.heap.size, 1, none⟩) (Nat.le_refl _) _).setCell (p := ⟨w.heap.size, 2, none⟩) (Nat.le_refl _) _
    · have HNo : Hid (S.files f = (e0, e0)) := Lib.hid (by rw [HN.out]; exact rfun_none f _ (fun x hx => HF.out x (by rw [List.take_of_length_le (by omega)]; exact hx)))
      go_wp2
      refine ret_box 4 65 rfl w.heap.size (rfC (f, (e0, e0))) _ rfl (range_block (heap_setCell_same _ _ 2 _ _ (.string e0) (heap_setCell_same _ _ 1 _ _ (.string e0) (heap_setCell_same _ _ 0 _ _ (.int .i64 f) HN2.out))) rfl) Try.underlying65 rfl (by kernel_rfl) rfl ⟨fileRet rfl HNo.out.symm, ?_⟩
      exact ((HB.out.setCell (p := ⟨w.heap.size, 0, none⟩) (Nat.le_refl _) _).setCell (p := ⟨w.heap.size, 1, none⟩) (Nat.le_refl _) _).setCell (p := ⟨w.heap.size, 2, none⟩) (Nat.le_refl _) _
end Go.Proofs.Ytjgeefagnddpfaa
