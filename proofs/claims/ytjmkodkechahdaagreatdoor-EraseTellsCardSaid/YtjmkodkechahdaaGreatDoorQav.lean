/- Contracts and plain laws, joined: DkRA, DkRB, DkRC, DkRD, DkRE, DkRF. -/
import Derived.Test.YtjmkodkechahdaaGreatDoorQat
import Derived.Test.YtjmkodkechahdaaGreatDoorQal
import Derived.Test.YtjmkodkechahdaaGreatDoorQai
import Derived.Test.YtjmkodkechahdaaGreatDoorQar
import Derived.Test.YtjmkodkechahdaaGreatDoorQas
/- Where a disk of the reference lies in memory, and the contracts of its small methods. -/
set_option linter.unusedSimpArgs false
set_option linter.unusedVariables false
namespace Go.Proofs.YtjmkodkechahdaaGreatDoor
open Go.RowKit
set_option maxRecDepth 100000

abbrev RFile := Int × FileT
def rfC (x : RFile) : List Value := [.int .i64 x.1, .string x.2.1, .string x.2.2]
theorem rfLay : Lay 3 rfC := ⟨fun _ => rfl, fun x u h => by simp [rfC] at h; rcases h with rfl | rfl | rfl <;> rfl⟩
theorem slRFile : SlTy Tryz.prog 58 72 3 40 := by
  obtain ⟨i, hi, h0, h1, h2⟩ := info_parts (show (Tryz.prog.info? 72).map (fun i => (i.zero, i.size, i.bytes)) = some (some (.agg #[.int .i64 0, .string ⟨#[]⟩, .string ⟨#[]⟩]), 3, 40) by kernel_rfl)
  exact ⟨Tryz.underlying58, ⟨i, _, hi, h0, h1, h2, rfl⟩, by decide, by decide⟩
theorem slRSec : SlTy Tryz.prog 59 104 2 16 := by
  obtain ⟨i, hi, h0, h1, h2⟩ := info_parts (show (Tryz.prog.info? 104).map (fun i => (i.zero, i.size, i.bytes)) = some (some (.agg #[.int .i64 0, .int .i64 0]), 2, 16) by kernel_rfl)
  exact ⟨Tryz.underlying59, ⟨i, _, hi, h0, h1, h2, rfl⟩, by decide, by decide⟩

/-- The list of files, read as a function. -/
def rfun (l : List RFile) : Int → FileT := fun f => match l.find? (fun x => x.1 == f) with
  | some x => x.2
  | none => (e0, e0)
def rset (l : List RFile) (x : RFile) : List RFile := l.filter (fun y => !(y.1 == x.1)) ++ [x]
theorem rfun_set (l : List RFile) (x : RFile) : rfun (rset l x) = updF (rfun l) x.1 x.2 := by
  funext f
  unfold rfun rset updF
  rw [List.find?_append]
  by_cases h : f = x.1
  · subst h
    rw [if_pos rfl, List.find?_eq_none.2 (fun y hy => by have := (List.mem_filter.1 hy).2; simpa using this)]
    simp
  · rw [if_neg h]
    have h1 : List.find? (fun y => y.1 == f) [x] = none := by
      rw [List.find?_cons_of_neg (by simp; exact fun e => h e.symm)]
      rfl
    rw [h1, Option.or_none, List.find?_filter]
    have h2 : (fun y : RFile => decide (((!(y.1 == x.1)) = true) ∧ ((y.1 == f) = true))) = (fun y => y.1 == f) := by
      funext y
      by_cases hy : y.1 = f
      · have : ¬ y.1 = x.1 := fun e => h (by rw [← hy, e])
        simp [hy]
        exact h
      · simp [hy]
    simp only [h2]
structure RFok (l : List RFile) : Prop where
  nd : (l.map (·.1)).Nodup
  r : ∀ x ∈ l, 0 ≤ x.1 ∧ x.1 < 16
theorem RFok.len {l : List RFile} (h : RFok l) : l.length ≤ 16 := by
  have h1 := nodup_len 16 (l.map (fun x => x.1.toNat)) (by
    have h0 := h.nd
    rw [List.nodup_iff_pairwise_ne, List.pairwise_map] at h0 ⊢
    refine List.Pairwise.imp_of_mem ?_ h0
    intro a b ha hb hne he
    have := h.r a ha
    have := h.r b hb
    exact hne (by omega)) (fun x hx => by
    obtain ⟨y, hy, rfl⟩ := List.mem_map.1 hx
    have := h.r y hy
    omega)
  simpa using h1
theorem RFok.set {l : List RFile} (h : RFok l) (x : RFile) (hx : 0 ≤ x.1 ∧ x.1 < 16) : RFok (rset l x) := by
  refine ⟨?_, fun y hy => ?_⟩
  · unfold rset
    rw [List.map_append, List.nodup_append]
    refine ⟨h.nd.sublist ((List.filter_sublist).map _), by simp, fun a ha b hb => ?_⟩
    obtain ⟨y, hy, rfl⟩ := List.mem_map.1 ha
    have := (List.mem_filter.1 hy).2
    simp at hb
    subst hb
    simpa using this
  · rcases List.mem_append.1 hy with hy | hy
    · exact h.r y (List.mem_filter.1 hy).1
    · simp at hy
      subst hy
      exact hx
theorem RFok.nil_ : RFok [] := ⟨by simp, by simp⟩

/-- Where the parts of a disk of the reference lie, and its list of files. -/
structure RL where
  fl : List RFile
  fA : Option Addr
  fc : Nat
  qA : Option Addr
  qc : Nat
  kA : Option Addr
  kc : Nat
def refV (S : DS) (L : RL) : Array Value := #[.slice L.fA L.fl.length L.fc, .slice L.qA S.queue.length L.qc, .int .i64 S.lost, .bool S.down, .int .i64 S.armed, .slice L.kA S.keep.length L.kc]
def RL.own (L : RL) (p : Nat) : Nat → Prop := fun i => i = p ∨ slBlk L.fA = some i ∨ slBlk L.qA = some i
structure RK (w : World) (p : Nat) (S : DS) (L : RL) : Prop where
  wf : S.wf
  box : w.heap[p]? = some (.cells (refV S L) 61 (0, 0))
  files : OwnL w 0 72 3 rfC L.fA L.fc L.fl
  fn : S.files = rfun L.fl
  fok : RFok L.fl
  queue : OwnL w 0 104 2 secC L.qA L.qc S.queue
  keep : RdL 1 intC w w.heap.size L.kA S.keep
  fp : ∀ i, slBlk L.fA = some i → i ≠ p
  qp : ∀ i, slBlk L.qA = some i → i ≠ p ∧ slBlk L.fA ≠ some i
  kp : ∀ i, slBlk L.kA = some i → ¬ L.own p i
  kl : ∀ i, slBlk L.kA = some i → i < w.heap.size
def RUpd (p : Nat) (S : DS) (L : RL) (w w' : World) : Prop :=
  ∃ L', RK w' p S L' ∧ Turn (L.own p) w w' ∧ (∀ i, L'.own p i → L.own p i ∨ w.heap.size ≤ i) ∧ (∀ i, slBlk L'.kA = some i → slBlk L.kA = some i ∨ w.heap.size ≤ i)

section
variable {w w' : World} {p : Nat} {S : DS} {L : RL}
theorem RK.lt (h : RK w p S L) : ∀ i, L.own p i → i < w.heap.size := by
  rintro i (rfl | hi | hi)
  · exact box_lt h.box
  · exact (h.files.blk_lt hi).2
  · exact (h.queue.blk_lt hi).2
theorem RK.turn (h : RK w p S L) (hb : ∀ i, L.own p i ∨ slBlk L.kA = some i → w'.heap[i]? = w.heap[i]?) (hs : w.heap.size ≤ w'.heap.size) : RK w' p S L :=
  ⟨h.wf, (hb p (.inl (.inl rfl))).trans h.box, h.files.turn (fun i hi _ => hb i (.inl (.inr (.inl hi)))), h.fn, h.fok, h.queue.turn (fun i hi _ => hb i (.inl (.inr (.inr hi)))),
    h.keep.turn (fun i hi _ => hb i (.inr hi)) hs, h.fp, h.qp, h.kp, fun i hi => Nat.lt_of_lt_of_le (h.kl i hi) hs⟩
theorem RK.frame {F : Nat → Prop} (h : RK w p S L) (ht : Turn F w w') (hF : ∀ i, L.own p i ∨ slBlk L.kA = some i → ¬ F i) : RK w' p S L := by
  refine h.turn (fun i hi => ht.block i ?_ (hF i hi)) ht.size
  rcases hi with hi | hi
  · exact h.lt i hi
  · exact h.kl i hi
theorem RK.below (h : RK w p S L) (hb : Below w.heap.size w w') : RK w' p S L := h.frame (F := fun _ => False) (Turn.below hb) (fun _ _ hf => hf)
theorem RUpd.refl (h : RK w p S L) : RUpd p S L w w := ⟨L, h, Turn.refl _ _, fun _ hi => .inl hi, fun _ hi => .inl hi⟩
theorem RUpd.of_below (h : RK w p S L) (hb : Below w.heap.size w w') : RUpd p S L w w' := ⟨L, h.below hb, Turn.below hb, fun _ hi => .inl hi, fun _ hi => .inl hi⟩
theorem RUpd.trans {S2 : DS} {L1 : RL} {w1 w2 : World} (h1 : Turn (L.own p) w w1) (h2 : ∀ i, L1.own p i → L.own p i ∨ w.heap.size ≤ i) (h3 : ∀ i, slBlk L1.kA = some i → slBlk L.kA = some i ∨ w.heap.size ≤ i) (h : RUpd p S2 L1 w1 w2) : RUpd p S2 L w w2 := by
  obtain ⟨L2, d, t, o, k⟩ := h
  refine ⟨L2, d, h1.trans t h2, fun i hi => ?_, fun i hi => ?_⟩
  · rcases o i hi with h4 | h4
    · exact h2 i h4
    · exact .inr (Nat.le_trans h1.size h4)
  · rcases k i hi with h4 | h4
    · exact h3 i h4
    · exact .inr (Nat.le_trans h1.size h4)
/-- Behind steps that turned nothing of the disk. -/
theorem RUpd.behind {S2 : DS} {w1 w2 : World} (h1 : Below w.heap.size w w1) (h : RUpd p S2 L w1 w2) : RUpd p S2 L w w2 :=
  RUpd.trans (Turn.below h1) (fun _ hi => .inl hi) (fun _ hi => .inl hi) h
theorem RK.scal (h : RK w p S L) (a : Int) (b : Bool) (c : Int) (hw : (DS.mk S.files S.queue a b c S.keep).wf) (hbox : w'.heap[p]? = some (.cells (refV (DS.mk S.files S.queue a b c S.keep) L) 61 (0, 0))) (hg : w.grownBy w' (some p)) :
    RUpd p (DS.mk S.files S.queue a b c S.keep) L w w' := by
  have hne : ∀ i, i < w.heap.size → i ≠ p → w'.heap[i]? = w.heap[i]? := fun i hi hn => hg.block i hi (fun e => hn (by injection e))
  exact ⟨L, ⟨hw, hbox, h.files.turn (fun i hi hl => hne i hl (h.fp i hi)), h.fn, h.fok, h.queue.turn (fun i hi hl => hne i hl (h.qp i hi).1),
    h.keep.turn (fun i hi hl => hne i hl (fun e => h.kp i hi (.inl e))) hg.size, h.fp, h.qp, h.kp, fun i hi => Nat.lt_of_lt_of_le (h.kl i hi) hg.size⟩, Turn.grown hg (fun k hk => by cases hk; exact .inl rfl), fun _ hi => .inl hi, fun _ hi => .inl hi⟩
/-- A new list of files or of sectors, in memory of the call's own. -/
theorem RK.renew (h : RK w p S L) (t : Turn (fun i => i = p ∨ slBlk L.qA = some i) w w') (fl : List RFile) (fA : Option Addr) (fc : Nat) (q : List (Int × Int)) (qA : Option Addr) (qc : Nat) (F : Int → FileT) (d : Bool) (a : Int)
    (hw : (DS.mk F q S.lost d a S.keep).wf) (hbox : w'.heap[p]? = some (.cells (refV (DS.mk F q S.lost d a S.keep) ⟨fl, fA, fc, qA, qc, L.kA, L.kc⟩) 61 (0, 0)))
    (hf : OwnL w' 0 72 3 rfC fA fc fl) (hF : F = rfun fl) (hok : RFok fl) (hq : OwnL w' 0 104 2 secC qA qc q)
    (hfA : ∀ i, slBlk fA = some i → (slBlk L.fA = some i ∨ w.heap.size ≤ i)) (hqA : ∀ i, slBlk qA = some i → (slBlk L.qA = some i ∨ w.heap.size ≤ i)) (hd : ∀ i, slBlk qA = some i → slBlk fA ≠ some i) : RUpd p (DS.mk F q S.lost d a S.keep) L w w' := by
  have hp := box_lt h.box
  refine ⟨⟨fl, fA, fc, qA, qc, L.kA, L.kc⟩, ⟨hw, hbox, hf, hF, hok, hq, h.keep.turn (fun i hi hl => t.block i hl (fun ho => h.kp i hi (by rcases ho with ho | ho; exact .inl ho; exact .inr (.inr ho)))) t.size, fun i hi => ?_, fun i hi => ⟨?_, hd i hi⟩, fun i hi ho => ?_, fun i hi => Nat.lt_of_lt_of_le (h.kl i hi) t.size⟩,
    t.mono (fun i hi => .inl (by rcases hi with hi | hi; exact .inl hi; exact .inr (.inr hi))), fun i hi => ?_, fun i hi => .inl hi⟩
  · rcases hfA i hi with h1 | h1
    · exact h.fp i h1
    · omega
  · rcases hqA i hi with h1 | h1
    · exact (h.qp i h1).1
    · omega
  · have hk := h.kl i hi
    have hn := h.kp i hi
    rcases ho with ho | ho | ho
    · exact hn (.inl ho)
    · rcases hfA i ho with h1 | h1
      · exact hn (.inr (.inl h1))
      · omega
    · rcases hqA i ho with h1 | h1
      · exact hn (.inr (.inr h1))
      · omega
  · rcases hi with ho | ho | ho
    · exact .inl (.inl ho)
    · rcases hfA i ho with h1 | h1
      · exact .inl (.inr (.inl h1))
      · exact .inr h1
    · rcases hqA i ho with h1 | h1
      · exact .inl (.inr (.inr h1))
      · exact .inr h1
theorem RK.c0 (h : RK w p S L) : w.cell? ⟨p, 0, none⟩ = some (.slice L.fA L.fl.length L.fc) := box_cell h.box 0 _ rfl
theorem RK.c1 (h : RK w p S L) : w.cell? ⟨p, 1, none⟩ = some (.slice L.qA S.queue.length L.qc) := box_cell h.box 1 _ rfl
theorem RK.c2 (h : RK w p S L) : w.cell? ⟨p, 2, none⟩ = some (.int .i64 S.lost) := box_cell h.box 2 _ rfl
theorem RK.c3 (h : RK w p S L) : w.cell? ⟨p, 3, none⟩ = some (.bool S.down) := box_cell h.box 3 _ rfl
theorem RK.c4 (h : RK w p S L) : w.cell? ⟨p, 4, none⟩ = some (.int .i64 S.armed) := box_cell h.box 4 _ rfl
theorem RK.c5 (h : RK w p S L) : w.cell? ⟨p, 5, none⟩ = some (.slice L.kA S.keep.length L.kc) := box_cell h.box 5 _ rfl
end

theorem rNew_any (w : World) : Calls Tryz.prog 8 #[] w fun e w' => e = .returned (.pointer (some ⟨w.heap.size, 0, none⟩)) ∧ Below w.heap.size w w' ∧ ∃ L, RK w' w.heap.size DS.new L ∧ (∀ i, L.own w.heap.size i → w.heap.size ≤ i) ∧ L.kA = none := by
  go_enter Tryz.func8, Tryz.ntmps8
  go_wp2
  go_ret
  refine ⟨rfl, by repeat (first | with_reducible exact Below.refl _ _ | with_reducible assumption | with_reducible refine Below.drew ?_ | with_reducible refine Below.alloc ?_ (by first | omega | (simp; done) | (simp; omega)) _), ⟨[], none, 0, none, 0, none, 0⟩, ⟨DS.new_wf, (MapKept.heap_alloc w _).1, OwnL.nil_, rfl, RFok.nil_, OwnL.nil_, RdL.nil_, ?_, ?_, ?_, ?_⟩, ?_, rfl⟩
  · intro i hi
    cases hi
  · intro i hi
    cases hi
  · intro i hi
    cases hi
  · intro i hi
    cases hi
  · rintro i (h | h | h)
    · omega
    · cases h
    · cases h
theorem rDown_any (p : Nat) (S : DS) (L : RL) (w : World) (h : RK w p S L) : Calls Tryz.prog 13 #[.pointer (some ⟨p, 0, none⟩)] w fun e w' => e = .returned (.bool S.down) ∧ w' = w := by
  have c3 := h.c3
  clear h
  go_enter Tryz.func13, Tryz.ntmps13
  go_wp2
  go_ret
  exact ⟨rfl, rfl⟩
theorem rStart_any (p : Nat) (S : DS) (L : RL) (w : World) (h : RK w p S L) : Calls Tryz.prog 36 #[.pointer (some ⟨p, 0, none⟩)] w fun e w' => e = .returned (.tuple #[]) ∧ RUpd p S.start L w w' := by
  have c3 := h.c3
  have cz := fun j => box_free h.box j
  have H := Lib.hid h
  clear h
  go_enter Tryz.func36, Tryz.ntmps36
  go_wp2
  go_end0
  exact ⟨rfl, RK.scal H.out S.lost false S.armed (DS.start_wf H.out.wf) (heap_setCell_same _ _ _ _ _ _ H.out.box) (grown_set _ _ _ _)⟩
theorem rLose_any (p : Nat) (S : DS) (L : RL) (w : World) (n : Int) (hn : inI64 n) (h : RK w p S L) : Calls Tryz.prog 33 #[.pointer (some ⟨p, 0, none⟩), .int .i64 n] w fun e w' => e = .returned (.tuple #[]) ∧ RUpd p (S.lose n) L w w' := by
  have c3 := h.c2
  have cz := fun j => box_free h.box j
  have H := Lib.hid h
  have HW := Lib.hid (DS.lose_wf h.wf n hn)
  clear h
  rcases Int.lt_or_le n 0 with h0 | h0
  · have HT : Hid (S.lose n = ⟨S.files, S.queue, 0, S.down, S.armed, S.keep⟩) := Lib.hid (by unfold DS.lose; rw [Int.max_eq_right (by omega)])
    rw [HT.out] at HW
    go_enter Tryz.func33, Tryz.ntmps33
    go_wp2
    all_goals go_end0
    all_goals exact ⟨rfl, by rw [HT.out]; exact RK.scal H.out 0 S.down S.armed HW.out (heap_setCell_same _ _ _ _ _ _ H.out.box) (grown_set _ _ _ _)⟩
  · have HT : Hid (S.lose n = ⟨S.files, S.queue, n, S.down, S.armed, S.keep⟩) := Lib.hid (by unfold DS.lose; rw [Int.max_eq_left h0])
    rw [HT.out] at HW
    go_enter Tryz.func33, Tryz.ntmps33
    go_wp2
    all_goals first
      | (exfalso; omega)
      | (go_end0; exact ⟨rfl, by rw [HT.out]; exact RK.scal H.out n S.down S.armed HW.out (heap_setCell_same _ _ _ _ _ _ H.out.box) (grown_set _ _ _ _)⟩)
theorem rMay_any (p : Nat) (S : DS) (L : RL) (w : World) (f : Int) (h : RK w p S L) : Calls Tryz.prog 38 #[.pointer (some ⟨p, 0, none⟩), .int .i64 f] w fun e w' => e = .returned (.int .i64 (S.may f)) ∧ w' = w := by
  have c3 := h.c3
  clear h
  go_enter Tryz.func38, Tryz.ntmps38
  go_wp2
  all_goals go_ret
  all_goals refine ⟨ret_int ?_, rfl⟩
  all_goals unfold DS.may
  all_goals first
    | (rw [if_pos (by assumption)]; done)
    | (rw [if_neg (by simp_all), if_pos (by omega)]; done)
    | (rw [if_neg (by simp_all), if_neg (by omega)]; done)
theorem rFits_any (a : Int) (s : ByteArray) (w : World) (ha : inI64 a) (hs : s.size ≤ 1073741824) : Calls Tryz.prog 78 #[.int .i64 a, .string s] w fun e w' => e = .returned (.bool (fitsB a s)) ∧ w' = w := by
  unfold inI64 at ha
  go_enter Tryz.func78, Tryz.ntmps78
  go_wp2
  all_goals go_ret
  all_goals refine ⟨ret_bool ?_, rfl⟩
  all_goals unfold fitsB
  all_goals first
    | (simp_all; done)
    | (simp_all; intros; omega)
theorem RdL.rf {w : World} {B : Nat} {A : Option Addr} {xs : List RFile} (h : RdL 3 rfC w B A xs) {k : Nat} (hk : k < xs.length) : ∃ b off, A = some ⟨b, off, none⟩ ∧ b < B ∧ w.cell? ⟨b, off + k * 3, none⟩ = some (.int .i64 xs[k].1) ∧ w.cell? ⟨b, off + k * 3 + 1, none⟩ = some (.string xs[k].2.1) ∧ w.cell? ⟨b, off + k * 3 + 2, none⟩ = some (.string xs[k].2.2) := by
  obtain ⟨b, off, e, hb, hc⟩ := h.at_ hk
  exact ⟨b, off, e, hb, hc 0 _ rfl, hc 1 _ rfl, hc 2 _ rfl⟩
theorem rfun_hit (f : Int) (l : List RFile) (k : Nat) (hk : k < l.length) (hn : ∀ p ∈ l.take k, (p.1 == f) = false) (h : (l[k].1 == f) = true) : rfun l f = l[k].2 := by
  unfold rfun
  have : l.find? (fun x => x.1 == f) = some l[k] := by
    rw [List.find?_eq_some_iff_getElem]
    refine ⟨h, k, hk, rfl, fun j hj => ?_⟩
    have := hn l[j] (List.mem_take_iff_getElem.2 ⟨j, by omega, rfl⟩)
    simpa using this
  rw [this]
theorem rfun_none (f : Int) (l : List RFile) (hn : ∀ p ∈ l, (p.1 == f) = false) : rfun l f = (e0, e0) := by
  unfold rfun
  rw [List.find?_eq_none.2 (fun x hx => by rw [hn x hx]; simp)]
theorem range_block {w : World} {b : Nat} {cs : Array Value} {t : TypeId} {l : List Value} (h : w.heap[b]? = some (.cells cs t (0, 0))) (hl : cs.toList = l) : w.rangeAt b 0 l := by
  intro j v hj
  subst hl
  rw [Nat.zero_add]
  exact box_cell h j v (by rw [← Array.getElem?_toList]; exact hj)
theorem fileRet {x : RFile} {f : Int} {y : FileT} (h1 : x.1 = f) (h2 : x.2 = y) : Ending.returned (.agg (rfC x).toArray) = .returned (.agg #[.int .i64 f, .string y.1, .string y.2]) := by
  subst h1 h2
  rfl
set_option maxHeartbeats 1000000 in
theorem rGet_any (p : Nat) (S : DS) (L : RL) (w : World) (f : Int) (h : RK w p S L) : Calls Tryz.prog 39 #[.pointer (some ⟨p, 0, none⟩), .int .i64 f] w fun e w' => e = .returned (.agg #[.int .i64 f, .string (S.files f).1, .string (S.files f).2]) ∧ Below w.heap.size w w' := by
  have HR := Lib.hid (h.files.rd rfLay)
  have c0 := h.c0
  have hp := box_lt h.box
  have HN := Lib.hid h.fn
  have hl := h.fok.len
  clear h
  go_enter Tryz.func39, Tryz.ntmps39
  go_wp2
  go_loopw [5] (fun i wr => ∃ k : Nat, k ≤ L.fl.length ∧ i = .int .i64 k ∧ (∀ p ∈ L.fl.take k, (p.1 == f) = false) ∧ Below w.heap.size w wr ∧ wr.heap[w.heap.size]? = some (.cells #[.int .i64 0, .string ⟨#[]⟩, .string ⟨#[]⟩] 72 (0, 0))) (fun i _ => L.fl.length - (intOf i).toNat)
  case atStart => exact ⟨0, Nat.zero_le _, rfl, fun p hp => by simp at hp, by repeat (first | with_reducible exact Below.refl _ _ | with_reducible assumption | with_reducible refine Below.drew ?_ | with_reducible refine Below.alloc ?_ (by first | omega | (simp; done) | (simp; omega)) _), (MapKept.heap_alloc w _).1⟩
  case round =>
    obtain ⟨k, hk, rfl, hf, hb, hn⟩ := hrel
    have HF := Lib.hid hf
    have HB := Lib.hid hb
    have HN2 := Lib.hid hn
    have hc0 : wr.cell? ⟨p, 0, none⟩ = some (.slice L.fA L.fl.length L.fc) := (hb.cell (p := ⟨p, 0, none⟩) hp).trans c0
    have n0 := box_cell hn 0 _ rfl
    have n1 := box_cell hn 1 _ rfl
    have n2 := box_cell hn 2 _ rfl
    have nz := fun j => box_free hn j
    clear hf hn c0
    by_cases hlt : k < L.fl.length
    · obtain ⟨b, off, hA, hbb, c1, c2, c3⟩ := (HR.out.below hb).rf hlt
      rw [hA] at hc0
      have HHit := Lib.hid (rfun_hit f L.fl k hlt HF.out)
      have HSt := Lib.hid (take_step (fun x : RFile => (x.1 == f) = false) L.fl k hlt HF.out)
      have HX := Lib.hid (HB.out)
      clear hb
      generalize L.fl[k] = x at *
      cases hv : (x.1 == f)
      · go_wp2
        go_roundw
        case rel => exact ⟨k + 1, by omega, by go_num, HSt.out hv, HB.out, HN2.out⟩
        case measure => simp [intOf]; omega
      · go_wp2
        refine ret_box 4 72 rfl w.heap.size (rfC x) _ rfl (range_block (heap_setCell_same _ _ 2 _ _ (.string x.2.2) (heap_setCell_same _ _ 1 _ _ (.string x.2.1) (heap_setCell_same _ _ 0 _ _ (.int .i64 x.1) HN2.out))) rfl) Tryz.underlying72 rfl (by kernel_rfl) rfl ⟨fileRet (by simpa using hv) (by rw [HN.out, HHit.out hv]), ?_⟩
        exact ((HB.out.setCell (p := ⟨w.heap.size, 0, none⟩) (Nat.le_refl _) _).setCell (p := ⟨w.heap.size, 1, none⟩) (Nat.le_refl _) _).setCell (p := ⟨w.heap.size, 2, none⟩) (Nat.le_refl _) _
    · have HNo : Hid (S.files f = (e0, e0)) := Lib.hid (by rw [HN.out]; exact rfun_none f _ (fun x hx => HF.out x (by rw [List.take_of_length_le (by omega)]; exact hx)))
      go_wp2
      refine ret_box 4 72 rfl w.heap.size (rfC (f, (e0, e0))) _ rfl (range_block (heap_setCell_same _ _ 2 _ _ (.string e0) (heap_setCell_same _ _ 1 _ _ (.string e0) (heap_setCell_same _ _ 0 _ _ (.int .i64 f) HN2.out))) rfl) Tryz.underlying72 rfl (by kernel_rfl) rfl ⟨fileRet rfl HNo.out.symm, ?_⟩
      exact ((HB.out.setCell (p := ⟨w.heap.size, 0, none⟩) (Nat.le_refl _) _).setCell (p := ⟨w.heap.size, 1, none⟩) (Nat.le_refl _) _).setCell (p := ⟨w.heap.size, 2, none⟩) (Nat.le_refl _) _
end Go.Proofs.YtjmkodkechahdaaGreatDoor
/- Contracts of Size, Read, pending and Arm of a disk of the reference. -/
set_option linter.unusedSimpArgs false
set_option linter.unusedVariables false
namespace Go.Proofs.YtjmkodkechahdaaGreatDoor
open Go.RowKit
set_option maxRecDepth 100000

theorem fieldRFile1 (a : Int) (b c : ByteArray) (w : World) : (Instr.field 72 (.agg #[.int .i64 a, .string b, .string c]) 1).run Tryz.prog w = .ok (.string b) w := by kernel_rfl
theorem rSize_any (p : Nat) (S : DS) (L : RL) (w : World) (f : Int) (h : RK w p S L) : Calls Tryz.prog 17 #[.pointer (some ⟨p, 0, none⟩), .int .i64 f] w fun e w' => e = .returned (.int .i64 (S.files f).1.size) ∧ Below w.heap.size w w' := by
  have HG := Lib.hid (rGet_any p S L w f h)
  have q2 := fun a b c w => fieldRFile1 a b c w
  clear h
  go_enter Tryz.func17, Tryz.ntmps17
  go_wp2_with (go_at_call 39; refine HG.out.mono ?_; rintro e w1 ⟨rfl, hb1⟩)
  go_ret
  exact ⟨rfl, hb1⟩
theorem rRead_any (p : Nat) (S : DS) (L : RL) (w : World) (f a n : Int) (h : RK w p S L) (ha : inI64 a) (hn : inI64 n) :
    Calls Tryz.prog 16 #[.pointer (some ⟨p, 0, none⟩), .int .i64 f, .int .i64 a, .int .i64 n] w fun e w' => e = .returned (.tuple #[.string (S.readS f a n), .int .i64 (S.readC f a n)]) ∧ Below w.heap.size w w' := by
  have HG := Lib.hid (rGet_any p S L w f h)
  have HMay := Lib.hid (rMay_any p S L w f h)
  have q2 := fun a b c w => fieldRFile1 a b c w
  have hnow := h.wf.now f
  unfold inI64 at ha hn
  clear h
  generalize hc : S.may f = c at *
  have HM := Lib.hid hc
  clear hc
  by_cases h0 : c = 0
  · subst h0
    by_cases h1 : a < 0 ∨ n < 0
    · have hC : S.readC f a n = 1 := by unfold DS.readC; rw [HM.out, if_neg (by omega), if_pos h1]
      have hS : S.readS f a n = e0 := by unfold DS.readS; rw [hC]; rfl
      rw [hS, hC]
      clear hS hC
      go_enter Tryz.func16, Tryz.ntmps16
      go_wp2_with (go_at_call 38; refine HMay.out.mono ?_; rintro e w1 ⟨rfl, hw⟩; obtain rfl := hw.symm)
      all_goals first
        | (exfalso; omega)
        | (go_ret2; exact ⟨rfl, Below.refl _ _⟩)
    · have hC : S.readC f a n = 0 := by unfold DS.readC; rw [HM.out, if_neg (by omega), if_neg h1]
      have HS : Hid (S.readS f a n = readX (S.files f).1 a n) := Lib.hid (by unfold DS.readS; rw [hC, if_neg (by omega)]; rfl)
      rw [hC]
      clear hC
      generalize hx : (S.files f).1 = x at *
      have hsz := fun i j => extract_size x i j
      go_enter Tryz.func16, Tryz.ntmps16
      go_wp2_with (first | (go_at_call 38; refine HMay.out.mono ?_; rintro e w1 ⟨rfl, hw⟩; obtain rfl := hw.symm) | (go_at_call 39; refine HG.out.mono ?_; rintro e w1 ⟨rfl, hb1⟩; have HB1 := Lib.hid hb1; clear hb1))
      all_goals go_ret2
      all_goals refine ⟨?_, HB1.out⟩
      all_goals rw [HS.out]
      all_goals refine ret_str2 ?_
      all_goals first
        | (rw [readX_out x a n (by omega)]; rfl)
        | (rw [readX_end x a n (by omega) (by omega), ByteArray.extract_extract]; congr 1; omega)
        | (rw [readX_part x a n (by omega) (by omega), ByteArray.extract_extract]; congr 1; omega)
  · have hC : S.readC f a n = c := by unfold DS.readC; rw [HM.out, if_pos h0]
    have hS : S.readS f a n = e0 := by unfold DS.readS; rw [hC, if_pos h0]
    have h2 : (c == 0) = false := by simpa using h0
    rw [hS, hC]
    clear hS hC
    go_enter Tryz.func16, Tryz.ntmps16
    go_wp2_with (go_at_call 38; refine HMay.out.mono ?_; rintro e w1 ⟨rfl, hw⟩; obtain rfl := hw.symm)
    all_goals go_ret2
    all_goals exact ⟨rfl, Below.refl _ _⟩
set_option maxHeartbeats 1000000 in
theorem rPending_any (p : Nat) (S : DS) (L : RL) (w : World) (f n : Int) (h : RK w p S L) : Calls Tryz.prog 99 #[.pointer (some ⟨p, 0, none⟩), .int .i64 f, .int .i64 n] w fun e w' => e = .returned (.bool (decide ((f, n) ∈ S.queue))) ∧ w = w' := by
  have HR := Lib.hid (h.queue.rd secLay)
  have c1 := h.c1
  have hql := h.wf.qlen
  clear h
  generalize S.queue = q at *
  go_enter Tryz.func99, Tryz.ntmps99
  go_wp2
  go_loopw [7] (fun i wr => ∃ k : Nat, k ≤ q.length ∧ i = .int .i64 k ∧ (∀ x ∈ q.take k, ¬ x = (f, n)) ∧ w = wr) (fun i _ => q.length - (intOf i).toNat)
  case atStart => exact ⟨0, Nat.zero_le _, rfl, fun p hp => by simp at hp, rfl⟩
  case round =>
    obtain ⟨k, hk, rfl, hf, rfl⟩ := hrel
    have HF := Lib.hid hf
    clear hf
    by_cases hlt : k < q.length
    · obtain ⟨b, off, hA, hbb, d0, d1⟩ := HR.out.sec hlt
      rw [hA] at c1
      have HIn : Hid (q[k] = (f, n) → (f, n) ∈ q) := Lib.hid (fun h => by rw [← h]; exact List.getElem_mem hlt)
      have HSt := Lib.hid (take_step (fun x : Int × Int => ¬ x = (f, n)) q k hlt HF.out)
      generalize q[k] = x at *
      cases hv0 : (x.1 == f)
      · have HNe : Hid (¬ x = (f, n)) := Lib.hid (fun e => by rw [e] at hv0; simp at hv0)
        go_wp2
        go_roundw
        case rel => exact ⟨k + 1, by omega, by go_num, HSt.out HNe.out, by first | rfl | trivial⟩
        case measure => simp [intOf]; omega
      · cases hv1 : (x.2 == n)
        · have HNe : Hid (¬ x = (f, n)) := Lib.hid (fun e => by rw [e] at hv1; simp at hv1)
          go_wp2
          go_roundw
          case rel => exact ⟨k + 1, by omega, by go_num, HSt.out HNe.out, by first | rfl | trivial⟩
          case measure => simp [intOf]; omega
        · have HEq : Hid (x = (f, n)) := Lib.hid (Prod.ext (by simpa using hv0) (by simpa using hv1))
          go_wp2
          go_ret
          exact ⟨ret_bool (decide_eq_true (HIn.out HEq.out)).symm, rfl⟩
    · have HNo : Hid ((f, n) ∉ q) := Lib.hid (fun h => HF.out _ (by rw [List.take_of_length_le (by omega)]; exact h) rfl)
      go_wp2
      go_ret
      exact ⟨ret_bool (decide_eq_false HNo.out).symm, rfl⟩
theorem RK.rekeep {w w' : World} {p : Nat} {S : DS} {L : RL} (h : RK w p S L) (ht : Turn (fun i => i = p) w w') (c : Int) (keep : List Int) (kA : Option Addr) (kc : Nat) (hw : (DS.mk S.files S.queue S.lost S.down c keep).wf)
    (hbox : w'.heap[p]? = some (.cells (refV (DS.mk S.files S.queue S.lost S.down c keep) ⟨L.fl, L.fA, L.fc, L.qA, L.qc, kA, kc⟩) 61 (0, 0))) (hk : RdL 1 intC w' w'.heap.size kA keep) (hn : ∀ i, slBlk kA = some i → w.heap.size ≤ i ∧ i < w'.heap.size) :
    RUpd p (DS.mk S.files S.queue S.lost S.down c keep) L w w' := by
  refine ⟨⟨L.fl, L.fA, L.fc, L.qA, L.qc, kA, kc⟩, ⟨hw, hbox, h.files.turn (fun i hi hl => ht.block i hl (h.fp i hi)), h.fn, h.fok, h.queue.turn (fun i hi hl => ht.block i hl (h.qp i hi).1),
    hk, h.fp, h.qp, fun i hi ho => ?_, fun i hi => (hn i hi).2⟩, ht.mono (fun i hi => by subst hi; exact .inl (.inl rfl)), fun i hi => .inl hi, fun i hi => .inr (hn i hi).1⟩
  have := h.lt i ho
  have := (hn i hi).1
  omega
set_option maxHeartbeats 1000000 in
theorem rArm_any (p : Nat) (S : DS) (L : RL) (w : World) (n : Int) (hn : inI64 n) (keep : List Int) (A : Option Addr) (k c : Nat) (hk : k = keep.length) (hr : RdL 1 intC w w.heap.size A keep) (hm : keep.length ≤ 4194320) (hki : ∀ x ∈ keep, inI64 x) (h : RK w p S L) (hA : ∀ i, keep ≠ [] → slBlk A = some i → i ≠ p) :
    Calls Tryz.prog 34 #[.pointer (some ⟨p, 0, none⟩), .int .i64 n, .slice A k c] w fun e w' => e = .returned (.tuple #[]) ∧ RUpd p (S.arm n keep) L w w' := by
  subst hk
  have H := Lib.hid h
  have HR := Lib.hid hr
  have HW := Lib.hid (DS.arm_wf h.wf n keep hn hki)
  have c0 := h.c4
  have cz := fun j => box_free h.box j
  have hp := box_lt h.box
  clear h hr hki
  obtain ⟨N, HN⟩ : ∃ N, Hid (max n 0 = N) := ⟨_, rfl⟩
  have HT : Hid (S.arm n keep = ⟨S.files, S.queue, S.lost, S.down, N, keep⟩) := Lib.hid (by unfold DS.arm; rw [HN.out])
  rw [HT.out] at HW
  have HE : Hid ((0 ≤ n ∧ N = n) ∨ (n ≤ 0 ∧ N = 0)) := Lib.hid (by have := HN.out; omega)
  have HO2 : Hid (∀ v, OwnL ((w.setCell ⟨p, 4, none⟩ v).alloc (.cells #[] 3)) w.heap.size 3 1 intC (some ⟨w.heap.size, 0, none⟩) 0 ([] : List Int)) := Lib.hid (fun v => OwnL.empty _ _ _ (by simp [World.setCell]) _ (by simp [World.setCell]))
  have HR2 : Hid (∀ v, RdL 1 intC ((w.setCell ⟨p, 4, none⟩ v).alloc (.cells #[] 3)) ((w.setCell ⟨p, 4, none⟩ v).alloc (.cells #[] 3)).heap.size A keep) := Lib.hid (fun v => by
    by_cases hk : keep = []
    · subst hk
      exact RdL.nil_
    · refine RdL.turn (w := w) HR.out (fun i hi hl => ?_) (by simp [World.setCell])
      rw [Below.heap_alloc _ _ _ (by simpa [World.setCell] using hl)]
      exact heap_setCell_other _ _ _ _ (hA i hk hi))
  clear hA
  go_enter Tryz.func34, Tryz.ntmps34
  go_wp2_with (at_builtin; refine wp_append_l rfl (.tmp 12) (.tmp 13) rfl slIntC intLayC w.heap.size (xs := ([] : List Int)) (ys := keep) rfl rfl (HO2.out _) rfl rfl (HR2.out _) (by simp; omega) (by simp) ?_; intro A2 c2 w2 hown hg hb hat; have hbx := (hb.block p hp).trans ((Below.heap_alloc _ _ p (by simpa [World.setCell] using hp)).trans (heap_setCell_same _ _ _ _ _ _ H.out.box)); have c5 := box_cell hbx 5 _ rfl; have cz5 := fun j => box_free hbx j; rw [List.nil_append] at hown; have HO3 := Lib.hid hown; have HB3 := Lib.hid hb; have HX := Lib.hid hbx; clear hown hg hb hat hbx)
  all_goals go_end0
  all_goals refine ⟨rfl, ?_⟩
  all_goals rw [HT.out]
  all_goals have hT : Turn (fun i => i = p) w w2 := (((Turn.refl (fun i => i = p) w).set p 4 _ (.inl rfl)).alloc _).trans (Turn.mono (F := fun i => w.heap.size ≤ i) ⟨HB3.out.os, HB3.out.tape, HB3.out.output, HB3.out.size, fun k _ hn => HB3.out.block k (by omega)⟩ (fun i hi => .inl hi)) (fun i hi => .inr hi)
  all_goals refine RK.rekeep H.out (hT.set p 5 _ (.inl rfl)) N keep A2 c2 HW.out ((heap_setCell_same _ p 5 _ _ _ HX.out).trans ?_) ((HO3.out.rd intLayC).turn (fun i hi hl => ?_) (by simp [World.setCell])) (fun i hi => ⟨(HO3.out.blk_lt hi).1, by have := (HO3.out.blk_lt hi).2; simpa [World.setCell] using this⟩)
  all_goals first
    | (have e : N = n := by have := HE.out; omega
       rw [e, if_neg (by omega)]
       rfl)
    | (have e : N = 0 := by have := HE.out; omega
       rw [e, if_pos (by omega)]
       rfl)
    | (have h1 := (HO3.out.blk_lt hi).1
       rw [heap_setCell_other _ _ _ _ (by show i ≠ p; omega)])
end Go.Proofs.YtjmkodkechahdaaGreatDoor
/- Contract of set of a disk of the reference. -/
set_option linter.unusedSimpArgs false
set_option linter.unusedVariables false
namespace Go.Proofs.YtjmkodkechahdaaGreatDoor
open Go.RowKit
set_option maxRecDepth 100000

def fwo (l : List RFile) (f : Int) : List RFile := l.filter (fun y => !(y.1 == f))
theorem fwo_step (l : List RFile) (f : Int) (k : Nat) (hk : k < l.length) : fwo (l.take (k + 1)) f = if (l[k].1 == f) = false then fwo (l.take k) f ++ [l[k]] else fwo (l.take k) f := by
  unfold fwo
  rw [filter_step _ _ _ hk]
  cases h : (l[k].1 == f) <;> simp
theorem fwo_len (l : List RFile) (f : Int) (k : Nat) : (fwo (l.take k) f).length ≤ l.length := by
  unfold fwo
  refine Nat.le_trans (List.length_filter_le _ _) ?_
  rw [List.length_take]
  omega
set_option maxHeartbeats 2000000 in
theorem rSet_any (p : Nat) (S : DS) (L : RL) (w : World) (x : RFile) (h : RK w p S L) (hx : 0 ≤ x.1 ∧ x.1 < 16) (h1 : x.2.1.size ≤ 16777216) (h2 : x.2.2.size ≤ 16777216) :
    Calls Tryz.prog 98 #[.pointer (some ⟨p, 0, none⟩), .agg #[.int .i64 x.1, .string x.2.1, .string x.2.2]] w fun e w' => e = .returned (.tuple #[]) ∧ RUpd p (DS.mk (updF S.files x.1 x.2) S.queue S.lost S.down S.armed S.keep) L w w' := by
  have H := Lib.hid h
  have HR := Lib.hid (h.files.rd rfLay)
  have c0 := h.c0
  have hp := box_lt h.box
  have hl := h.fok.len
  clear h
  go_enter Tryz.func98, Tryz.ntmps98
  go_wp2
  go_loopw [4, 5] (fun o i wr => ∃ (k : Nat) (A' : Option Addr) (c' : Nat), k ≤ L.fl.length ∧ i = .int .i64 k ∧ o = .slice A' (fwo (L.fl.take k) x.1).length c' ∧ OwnL wr (w.heap.size + 1) 72 3 rfC A' c' (fwo (L.fl.take k) x.1) ∧ Below w.heap.size w wr ∧ wr.heap[w.heap.size]? = some (.cells #[.int .i64 x.1, .string x.2.1, .string x.2.2] 72 (0, 0))) (fun _ i _ => L.fl.length - (intOf i).toNat)
  case atStart => exact ⟨0, none, 0, Nat.zero_le _, rfl, rfl, OwnL.nil_, by repeat (first | with_reducible exact Below.refl _ _ | with_reducible assumption | with_reducible refine Below.drew ?_ | with_reducible refine Below.alloc ?_ (by first | omega | (simp; done) | (simp; omega)) _), (MapKept.heap_alloc w _).1⟩
  case round =>
    obtain ⟨k, A', c', hk, rfl, rfl, ho, hb, hn⟩ := hrel
    have HO := Lib.hid ho
    have HB := Lib.hid hb
    have HN := Lib.hid hn
    have hc0 : wr.cell? ⟨p, 0, none⟩ = some (.slice L.fA L.fl.length L.fc) := (hb.cell (p := ⟨p, 0, none⟩) hp).trans c0
    have n0 := box_cell hn 0 _ rfl
    have n1 := box_cell hn 1 _ rfl
    have n2 := box_cell hn 2 _ rfl
    have hfl := fwo_len L.fl x.1 k
    clear ho hn c0
    by_cases hlt : k < L.fl.length
    · obtain ⟨b, off, hA, hbb, c1, c2, c3⟩ := (HR.out.below hb).rf hlt
      rw [hA] at hc0
      have HSt := Lib.hid (fwo_step L.fl x.1 k hlt)
      clear hb
      generalize L.fl[k] = y at *
      cases hv : (y.1 == x.1)
      · rw [hv, if_pos rfl] at HSt
        have hv2 : (y.1 != x.1) = true := by unfold bne; rw [hv]; rfl
        go_wp2_with fail
        go_quiet (fail)
        have hbq := below_drewN HB.out nq
        have hoq : OwnL (wr.drewN nq) (w.heap.size + 1) 72 3 rfC A' c' (fwo (L.fl.take k) x.1) := HO.out
        have hnq : (wr.drewN nq).heap[w.heap.size]? = some (.cells #[.int .i64 x.1, .string x.2.1, .string x.2.2] 72 (0, 0)) := HN.out
        have HOq := Lib.hid hoq
        have HBq := Lib.hid hbq
        have HNq := Lib.hid hnq
        have hzq : w.heap.size + 1 ≤ wr.heap.size := box_lt HN.out
        clear hoq hbq hnq
        go_wp2_with (at_builtin; refine wp_append_l rfl (.tmp 26) (.tmp 34) rfl slRFile rfLay (w.heap.size + 1) (xs := fwo (L.fl.take k) x.1) (ys := [y]) rfl rfl (HOq.out.alloc _) rfl rfl (RdL.one (wr.drewN nq) y _ _ rfl _ rfl) (by simp; omega) (by simp; omega) ?_; intro A2 c2 w2 hown hg hb2 hat; have HO2 := Lib.hid hown; have HB2 := Lib.hid hb2; clear hown hg hb2 hat)
        go_roundw
        case rel => exact ⟨k + 1, A2, c2, by omega, by go_num, by rw [HSt.out]; simp, by rw [HSt.out]; exact HO2.out, (HBq.out.alloc (show w.heap.size ≤ wr.heap.size by omega) _).trans (HB2.out.mono (by omega)), (HB2.out.block w.heap.size (by omega)).trans ((Below.heap_alloc (wr.drewN nq) _ w.heap.size (show w.heap.size < wr.heap.size by omega)).trans HNq.out)⟩
        case measure => simp [intOf]; omega
      · rw [hv, if_neg (by simp)] at HSt
        have hv2 : (y.1 != x.1) = false := by unfold bne; rw [hv]; rfl
        go_wp2_with fail
        go_quiet (fail)
        go_wp2
        go_roundw
        case rel => exact ⟨k + 1, A', c', by omega, by go_num, by rw [HSt.out], by rw [HSt.out]; exact HO.out, below_drewN HB.out _, HN.out⟩
        case measure => simp [intOf]; omega
    · have hzq : w.heap.size + 1 ≤ wr.heap.size := box_lt HN.out
      have HE : Hid (fwo (L.fl.take k) x.1 ++ [x] = rset L.fl x) := Lib.hid (by rw [List.take_of_length_le (by omega)]; rfl)
      have hbp := (hb.block p hp).trans H.out.box
      have HBP := Lib.hid hbp
      clear hbp
      go_wp2_with (at_builtin; refine wp_append_l rfl (.tmp 37) (.tmp 39) rfl slRFile rfLay (w.heap.size + 1) (xs := fwo (L.fl.take k) x.1) (ys := [x]) rfl rfl (HO.out.alloc _) rfl rfl (RdL.one wr x _ _ rfl _ rfl) (by simp; omega) (by simp; omega) ?_; intro A2 c2 w2 hown hg hb2 hat; rw [HE.out] at hown; have hb3 := (HB.out.alloc (by omega) (.cells #[.int .i64 x.1, .string x.2.1, .string x.2.2] 72)).trans (hb2.mono (by omega)); have hbx := (hb3.block p hp).trans H.out.box; have c00 := box_cell hbx 0 _ rfl; have cz0 := fun j => box_free hbx j; have HO2 := Lib.hid hown; have HB2 := Lib.hid hb3; have HX := Lib.hid hbx; clear hown hg hb2 hat hb3 hbx)
      go_end0
      refine ⟨rfl, RK.renew H.out ((Turn.below HB2.out).set p 0 _ (.inl (.inl rfl))) (rset L.fl x) A2 c2 S.queue L.qA L.qc (updF S.files x.1 x.2) S.down S.armed (updfile_wf H.out.wf x.1 x.2 hx h1 h2) ((heap_setCell_same _ p 0 _ _ _ HX.out).trans ?_)
        ((HO2.out.turn (fun i hi hl => heap_setCell_other _ _ _ _ (by have := (HO2.out.blk_lt hi).1; show i ≠ p; omega))).mono (Nat.zero_le _)) (by rw [rfun_set, H.out.fn]) (H.out.fok.set x hx) (H.out.queue.turn (fun i hi hl => (heap_setCell_other _ _ _ _ (show i ≠ p from (H.out.qp i hi).1)).trans (HB2.out.block i hl)))
        (fun i hi => .inr (by have := (HO2.out.blk_lt hi).1; omega)) (fun i hi => .inl hi) (fun i hi hf => by have := (HO2.out.blk_lt hf).1; have := (H.out.queue.blk_lt hi).2; omega)⟩
      have hln : (fwo (L.fl.take k) x.1).length + 1 = (rset L.fl x).length := by rw [← HE.out]; simp
      rw [hln]
      rfl
end Go.Proofs.YtjmkodkechahdaaGreatDoor
/- Contract of Put of the reference. -/
set_option linter.unusedSimpArgs false
set_option linter.unusedVariables false
namespace Go.Proofs.YtjmkodkechahdaaGreatDoor
open Go.RowKit
set_option maxRecDepth 100000

/-- j bytes of t have been written into l, from a on. -/
def stageL (l : List UInt8) (a : Nat) (t : List UInt8) (j : Nat) : List UInt8 := l.take a ++ (t.take j ++ l.drop (a + j))
theorem stage_zero (l : List UInt8) (a : Nat) (t : List UInt8) : stageL l a t 0 = l := by simp [stageL]
theorem stage_len (l : List UInt8) (a : Nat) (t : List UInt8) (j : Nat) (h : a + t.length ≤ l.length) (hj : j ≤ t.length) : (stageL l a t j).length = l.length := by
  unfold stageL
  rw [List.length_append, List.length_append, List.length_take, List.length_take, List.length_drop]
  omega
theorem stage_step (l : List UInt8) (a : Nat) (t : List UInt8) (j : Nat) (h : a + t.length ≤ l.length) (hj : j < t.length) : (stageL l a t j).set (a + j) t[j] = stageL l a t (j + 1) := by
  have hd : l.drop (a + j) = l[a + j] :: l.drop (a + (j + 1)) := List.drop_eq_getElem_cons (by omega)
  unfold stageL
  rw [hd, List.take_succ_eq_append_getElem hj]
  have h1 : (l.take a).length = a := by rw [List.length_take]; omega
  have h2 : (t.take j).length = j := by rw [List.length_take]; omega
  rw [List.set_append_right _ _ (by omega), List.set_append_right _ _ (by omega), h1, h2, show a + j - a - j = 0 by omega, List.set_cons_zero]
  simp only [List.append_assoc, List.singleton_append]
theorem pad_all (s : List UInt8) (n m : Nat) (h : m = n - s.length) : s ++ List.replicate m 0 = padL s n := by rw [h]; rfl
theorem stage_put (s : List UInt8) (a : Nat) (t : List UInt8) : stageL (padL s (a + t.length)) a t t.length = putL s a t := by
  unfold stageL putL
  rw [List.take_of_length_le (Nat.le_refl _)]
theorem ba_getL (t : ByteArray) (j : Nat) (h : j < t.size) (h2 : j < t.data.toList.length) : t.data.toList[j] = t[j] := by
  rw [Array.getElem_toList]
  rfl
set_option maxHeartbeats 1000000 in
theorem rPut_any (s t : ByteArray) (n : Nat) (w : World) (hs : s.size ≤ 1073741824) (ht : n + t.size ≤ 1073741824) :
    Calls Tryz.prog 97 #[.string s, .int .i64 n, .string t] w fun e w' => e = .returned (.string (putB s n t)) ∧ Below w.heap.size w w' := by
  obtain ⟨i, hi1, hi2, hi3, hi4⟩ := infoU8
  by_cases h0 : t.size = 0
  · obtain rfl := str_eq0 h0
    have hem := e0_empty
    go_enter Tryz.func97, Tryz.ntmps97
    go_wp2
    go_ret
    exact ⟨rfl, Below.refl _ _⟩
  · have hne := str_ne0 h0
    have hd0 := dlen t
    have hds := dlen s
    have HD0 := Lib.hid hd0
    have HDS := Lib.hid hds
    clear hd0 hds
    have hml : s.size ≤ maxLen := by simp only [maxLen]; omega
    go_enter Tryz.func97, Tryz.ntmps97
    go_wp2_with ((with_reducible show wpList _ _ _ (Oper.mk (some 13) _ _ _ _ _ :: _) _ _); refine wp_bytes_b rfl _ _ _ rfl Tryz.underlying9 Tryz.underlying117 Tryz.underlying5 s rfl hml ?_; intro c1 w1 hown hb1; have HO := Lib.hid hown; have HB := Lib.hid hb1; clear hown hb1)
    go_loopw [7] (fun v wr => ∃ (m g c : Nat), v = .slice (some ⟨g, 0, none⟩) (s.size + m) c ∧ m ≤ n + t.size - s.size ∧ OwnB wr w.heap.size 5 g c (s.data.toList ++ List.replicate m 0) ∧ Below w.heap.size w wr) (fun v _ => n + t.size - (match v with | .slice _ k _ => k | _ => 0))
    case atStart => exact ⟨0, w.heap.size, c1, rfl, Nat.zero_le _, by simpa using HO.out, HB.out⟩
    case round =>
      clear HO HB
      obtain ⟨m, g, c, rfl, hm, ho, hb⟩ := hrel
      have HO := Lib.hid ho
      have HB := Lib.hid hb
      have hz := hb.size
      have hlen : (s.data.toList ++ List.replicate m (0 : UInt8)).length = s.size + m := by rw [List.length_append, List.length_replicate, HDS.out]
      have HLen := Lib.hid hlen
      have hlt := ho.lt
      clear ho hb hlen
      by_cases hc : s.size + m < n + t.size
      · go_wp2_with (at_builtin; refine wp_append_b rfl (.tmp 21) (.tmp 22) rfl Tryz.underlying117 hi1 hi2 hi3 hi4 rfl HLen.out.symm (HO.out.below ((Below.refl _ _).alloc (Nat.le_refl _) _)) (0 : UInt8) rfl (by simp) (by rw [HLen.out]; omega) (by simp; omega) ?_; intro g2 c2 w2 hown hg2; have HO2 := Lib.hid hown; have HG2 := Lib.hid hg2; clear hown hg2)
        have hgl := HO.out.lo
        go_roundw
        case rel => exact ⟨m + 1, g2, c2, rfl, by omega, by rw [List.replicate_succ', ← List.append_assoc]; exact HO2.out, ((HB.out.alloc (by omega) _).grown HG2.out (by simp; omega) (fun k hk => by injection hk with hk; omega))⟩
        case measure => show n + t.size - (s.size + m + 1) < n + t.size - (s.size + m); omega
      · have HP : Hid (s.data.toList ++ List.replicate m 0 = padL s.data.toList (n + t.data.toList.length)) := Lib.hid (pad_all _ _ _ (by rw [HDS.out, HD0.out]; omega))
        rw [HP.out] at HO
        have hz1 : s.size + m = max s.size (n + t.size) := by omega
        rw [HP.out] at HLen
        obtain ⟨P, hP⟩ : ∃ P, P = padL s.data.toList (n + t.data.toList.length) := ⟨_, rfl⟩
        rw [← hP] at HO HLen
        have HP2 := Lib.hid hP
        have hPl : n + t.data.toList.length ≤ P.length := by rw [HLen.out, HD0.out]; omega
        have HPl := Lib.hid hPl
        clear HP hP hz1 hPl
        generalize s.size + m = z at *
        go_wp2
        obtain ⟨wo, rfl⟩ : ∃ x, x = wr := ⟨_, rfl⟩
        go_loopw [8] (fun v wr => ∃ j : Nat, j ≤ t.size ∧ v = .int .i64 j ∧ OwnB wr w.heap.size 5 g c (stageL P n t.data.toList j) ∧ Below w.heap.size w wr) (fun v _ => t.size - (intOf v).toNat)
        case atStart => exact ⟨0, Nat.zero_le _, rfl, by rw [stage_zero]; exact HO.out, HB.out⟩
        case round =>
          clear HO HB hlt hz
          obtain ⟨j, hj, rfl, ho, hb⟩ := hrel
          have HO := Lib.hid ho
          have HB := Lib.hid hb
          by_cases hjt : j < t.size
          · have hlj : j < t.data.toList.length := by rw [HD0.out]; exact hjt
            have hsl : (stageL P n t.data.toList j).length = z := by rw [stage_len _ _ _ _ HPl.out (by omega), HLen.out]
            have hnj : n + j < z := by have := HPl.out; rw [HLen.out, HD0.out] at this; omega
            have hcell := ho.cell (n + j) (by rw [hsl]; exact hnj)
            have hfree := ho.free (n + j) (by have := ho.len; rw [hsl] at this; omega)
            have HSet := Lib.hid (ho.set (n + j) t.data.toList[j])
            rw [stage_step _ _ _ _ HPl.out hlj, ba_getL t j hjt hlj] at HSet
            have hgl := ho.lo
            obtain ⟨u0, hu0⟩ : ∃ u, u = (stageL P n t.data.toList j)[n + j]'(by rw [hsl]; exact hnj) := ⟨_, rfl⟩
            rw [← hu0] at hcell
            clear ho hb hsl hu0
            go_wp2
            go_roundw
            case rel => exact ⟨j + 1, by omega, by go_num, HSet.out, HB.out.setCell (p := ⟨g, n + j, none⟩) hgl _⟩
            case measure => simp [intOf]; omega
          · have hjt2 : j = t.data.toList.length := by rw [HD0.out]; omega
            have HE : Hid (stageL P n t.data.toList j = putL s.data.toList n t.data.toList) := Lib.hid (by rw [hjt2, HP2.out, stage_put])
            have hzl : z = (stageL P n t.data.toList j).length := by rw [stage_len _ _ _ _ HPl.out (by omega), HLen.out]
            have HZL := Lib.hid hzl
            clear hjt2 hzl ho hb
            go_wp2_with ((with_reducible show wpList _ _ _ (Oper.mk (some 39) _ _ _ _ _ :: _) _ _); refine wp_string_b rfl _ _ _ rfl Tryz.underlying117 Tryz.underlying5 Tryz.underlying9 rfl HZL.out HO.out ?_)
            go_ret
            exact ⟨by rw [putB, if_neg h0, HE.out]; rfl, HB.out⟩
end Go.Proofs.YtjmkodkechahdaaGreatDoor
/- Contracts of survive, settle and add of a disk of the reference. -/
set_option linter.unusedSimpArgs false
set_option linter.unusedVariables false
namespace Go.Proofs.YtjmkodkechahdaaGreatDoor
open Go.RowKit
set_option maxRecDepth 100000

theorem rPut_i (s t : ByteArray) (a : Int) (w : World) (ha : 0 ≤ a) (hs : s.size ≤ 1073741824) (ht : a + t.size ≤ 1073741824) :
    Calls Tryz.prog 97 #[.string s, .int .i64 a, .string t] w fun e w' => e = .returned (.string (putB s a.toNat t)) ∧ Below w.heap.size w w' := by
  obtain ⟨n, rfl⟩ := Int.eq_ofNat_of_zero_le ha
  exact rPut_any s t n w hs (by omega)
theorem updF_self (F : Int → FileT) (f : Int) : updF F f (F f) = F := by
  funext g
  unfold updF
  by_cases h : g = f
  · rw [if_pos h, h]
  · rw [if_neg h]
set_option maxHeartbeats 2000000 in
theorem rSurvive_any (p : Nat) (S : DS) (L : RL) (w : World) (x : Int × Int) (h : RK w p S L) (hx : 0 ≤ x.1 ∧ x.1 < 16 ∧ 0 ≤ x.2 ∧ x.2 ≤ 262144) :
    Calls Tryz.prog 80 #[.pointer (some ⟨p, 0, none⟩), .agg #[.int .i64 x.1, .int .i64 x.2]] w fun e w' => e = .returned (.tuple #[]) ∧ RUpd p (DS.mk (surv1 S.files x) S.queue S.lost S.down S.armed S.keep) L w w' := by
  have H := Lib.hid h
  have hnow := h.wf.now x.1
  have hlast := h.wf.last x.1
  have hb0 : Below w.heap.size w (w.alloc (.cells #[.int .i64 x.1, .int .i64 x.2] 104)) := by repeat (first | with_reducible exact Below.refl _ _ | with_reducible assumption | with_reducible refine Below.drew ?_ | with_reducible refine Below.alloc ?_ (by first | omega | (simp; done) | (simp; omega)) _)
  have HGet := Lib.hid (rGet_any p S L _ x.1 (h.below hb0))
  have HB0 := Lib.hid hb0
  obtain ⟨x0, hx0⟩ : ∃ y, y = S.files x.1 := ⟨_, rfl⟩
  have HSv : Hid (surv1 S.files x = if 64 * x.2 < x0.1.size then updF S.files x.1 (x0.1, putB x0.2 (64 * x.2).toNat (x0.1.extract (64 * x.2).toNat (min (64 * x.2 + 64) x0.1.size).toNat)) else updF S.files x.1 x0) := Lib.hid (by unfold surv1; rw [hx0, updF_self])
  rw [← hx0] at HGet hnow hlast
  clear h hb0 hx0
  generalize x.1 = f at *
  generalize x.2 = n at *
  obtain ⟨hx1, hx2, hx3, hx4⟩ := hx
  by_cases hle : 64 * n < x0.1.size
  · rw [if_pos hle] at HSv
    go_enter Tryz.func80, Tryz.ntmps80
    go_wp2_with fail
    refine HGet.out.mono ?_
    rintro e w1 ⟨rfl, hb1⟩
    have hn1 := (hb1.block w.heap.size (by simp)).trans (MapKept.heap_alloc w _).1
    have HB1 := Lib.hid (HB0.out.trans (hb1.mono (by simp)))
    have hz1 : w.heap.size + 1 ≤ w1.heap.size := box_lt hn1
    have s0 : ∀ o, (w1.alloc o).cell? ⟨w.heap.size, 0, none⟩ = some (.int .i64 f) := fun o => (cell_old _ _ _ _ hz1).trans (box_cell hn1 0 _ rfl)
    have s1 : ∀ o, (w1.alloc o).cell? ⟨w.heap.size, 1, none⟩ = some (.int .i64 n) := fun o => (cell_old _ _ _ _ hz1).trans (box_cell hn1 1 _ rfl)
    clear hn1 hb1
    go_wp2_with fail
    obtain ⟨W2, hW2⟩ : ∃ W, W = w1.alloc (.cells #[.int .i64 f, .string x0.1, .string x0.2] 72) := ⟨_, rfl⟩
    have hb2 : Below w.heap.size w W2 := by rw [hW2]; exact HB1.out.alloc (by omega) _
    have hn2 : W2.heap[w1.heap.size]? = some (.cells #[.int .i64 f, .string x0.1, .string x0.2] 72 (0, 0)) := by rw [hW2]; exact (MapKept.heap_alloc w1 _).1
    have t0 : W2.cell? ⟨w.heap.size, 0, none⟩ = some (.int .i64 f) := by rw [hW2]; exact s0 _
    have t1 : W2.cell? ⟨w.heap.size, 1, none⟩ = some (.int .i64 n) := by rw [hW2]; exact s1 _
    have b0 := box_cell hn2 0 _ rfl
    have b1 := box_cell hn2 1 _ rfl
    have b2 := box_cell hn2 2 _ rfl
    have HB2 := Lib.hid hb2
    have HN2 := Lib.hid hn2
    rw [← hW2]
    clear hW2 s0 s1 hb2 hn2
    obtain ⟨sub, hsub⟩ : ∃ s, s = x0.1.extract (64 * n).toNat (min (64 * n + 64) x0.1.size).toNat := ⟨_, rfl⟩
    obtain ⟨x1, hx1'⟩ : ∃ x, x = putB x0.2 (64 * n).toNat sub := ⟨_, rfl⟩
    have hsz : sub.size = (min (64 * n + 64) x0.1.size).toNat - (64 * n).toNat := by rw [hsub, extract_size]; omega
    have hx1s : x1.size ≤ 16777216 := by
      rw [hx1', putB_size _ _ _ (by omega)]
      omega
    rw [← hsub, ← hx1'] at HSv
    have HP := Lib.hid (fun w => hx1' ▸ rPut_i x0.2 sub (64 * n) w (by omega) (by omega) (by omega))
    have HX1s := Lib.hid hx1s
    clear hx1' hsz hx1s
    have hwm : IntKind.i64.wrap (64 * n) = 64 * n := by rw [IntKind.wrap_i64]; omega
    have hwr : IntKind.i64.wrap (64 * n + 64) = 64 * n + 64 := by rw [IntKind.wrap_i64]; omega
    by_cases hmin : (x0.1.size : Int) < 64 * n + 64
    · rw [Int.min_eq_right (by omega), Int.toNat_natCast] at hsub
      have HSub := Lib.hid hsub
      clear hsub
      have hc0 : 0 ≤ 64 * n := by omega
      have hc1 : 64 * n ≤ x0.1.size := by omega
      refine wp_region_held_drew (S := fun wq => wq.cell? ⟨w.heap.size, 1, none⟩ = some (.int .i64 n) ∧ wq.cell? ⟨w1.heap.size, 1, none⟩ = some (.string x0.1) ∧ wq.cell? ⟨w1.heap.size, 0, none⟩ = some (.int .i64 f)) (by kernel_rfl) ⟨t1, b1, b0⟩ (fun hHeld => ?_)
      refine wpAnyH_take (i := 0) (v := ?_) rfl (by kernel_rfl) (by kernel_rfl) (by kernel_rfl) (fun _ _ _ h => h) (Or.inl ⟨by rfl, ?_⟩) (by assumption) ?_
      rotate_left
      · rintro wq ⟨s2, s0, s1⟩
        go_simp
        try with_reducible rfl
      simp only [Act.put, List.setIfInBounds_toArray, List.set_cons_zero, List.set_cons_succ, List.getElem_toArray, List.getElem_cons_zero]
      refine wpAnyH_take (i := 2) (v := ?_) rfl (by kernel_rfl) (by kernel_rfl) (by kernel_rfl) (fun _ _ _ h => h) (Or.inl ⟨by rfl, ?_⟩) (by assumption) ?_
      rotate_left
      · rintro wq ⟨s2, s0, s1⟩
        go_simp
        try with_reducible rfl
      simp only [Act.put, List.setIfInBounds_toArray, List.set_cons_zero, List.set_cons_succ, List.getElem_toArray, List.getElem_cons_zero, List.getElem_cons_succ]
      refine wpAnyH_take (i := 3) (v := ?_) rfl (by kernel_rfl) (by kernel_rfl) (by kernel_rfl) (fun _ _ _ h => h) (Or.inl ⟨by rfl, ?_⟩) (by assumption) ?_
      rotate_left
      · rintro wq ⟨s2, s0, s1⟩
        go_simp
        try with_reducible rfl
      simp only [Act.put, List.setIfInBounds_toArray, List.set_cons_zero, List.set_cons_succ, List.getElem_toArray, List.getElem_cons_zero, List.getElem_cons_succ]
      refine wpAnyH_take (i := 4) (v := ?_) rfl (by kernel_rfl) (by kernel_rfl) (by kernel_rfl) (fun _ _ _ h => h) (Or.inl ⟨by rfl, ?_⟩) (by assumption) ?_
      rotate_left
      · rintro wq ⟨s2, s0, s1⟩
        go_simp
        try with_reducible rfl
      simp only [Act.put, List.setIfInBounds_toArray, List.set_cons_zero, List.set_cons_succ, List.getElem_toArray, List.getElem_cons_zero, List.getElem_cons_succ]
      refine wpAnyH_take (i := 5) (v := ?_) rfl (by kernel_rfl) (by kernel_rfl) (by kernel_rfl) (fun _ _ _ h => h) (Or.inl ⟨by rfl, ?_⟩) (by assumption) ?_
      rotate_left
      · rintro wq ⟨s2, s0, s1⟩
        go_simp
        try with_reducible rfl
      simp only [Act.put, List.setIfInBounds_toArray, List.set_cons_zero, List.set_cons_succ, List.getElem_toArray, List.getElem_cons_zero, List.getElem_cons_succ]
      refine wpAnyH_take (i := 6) (v := ?_) rfl (by kernel_rfl) (by kernel_rfl) (by kernel_rfl) (fun _ _ _ h => h) (Or.inl ⟨by rfl, ?_⟩) (by assumption) ?_
      rotate_left
      · rintro wq ⟨s2, s0, s1⟩
        go_simp
        try with_reducible rfl
      simp only [Act.put, List.setIfInBounds_toArray, List.set_cons_zero, List.set_cons_succ, List.getElem_toArray, List.getElem_cons_zero, List.getElem_cons_succ]
      refine wpAnyH_take (i := 7) (v := ?_) rfl (by kernel_rfl) (by kernel_rfl) (by kernel_rfl) (fun _ _ _ h => h) (Or.inl ⟨by rfl, ?_⟩) (by assumption) ?_
      rotate_left
      · rintro wq ⟨s2, s0, s1⟩
        go_simp
        try with_reducible rfl
      simp only [Act.put, List.setIfInBounds_toArray, List.set_cons_zero, List.set_cons_succ, List.getElem_toArray, List.getElem_cons_zero, List.getElem_cons_succ]
      refine wpAnyH_take (i := 8) (v := ?_) rfl (by kernel_rfl) (by kernel_rfl) (by kernel_rfl) (fun _ _ _ h => h) (Or.inl ⟨by rfl, ?_⟩) (by assumption) ?_
      rotate_left
      · rintro wq ⟨s2, s0, s1⟩
        go_simp
        try with_reducible rfl
      simp only [Act.put, List.setIfInBounds_toArray, List.set_cons_zero, List.set_cons_succ, List.getElem_toArray, List.getElem_cons_zero, List.getElem_cons_succ]
      refine wpAnyH_take (i := 9) (v := ?_) rfl (by kernel_rfl) (by kernel_rfl) (by kernel_rfl) (fun _ _ _ h => h) (Or.inl ⟨by rfl, ?_⟩) (by assumption) ?_
      rotate_left
      · rintro wq ⟨s2, s0, s1⟩
        go_simp
        try with_reducible rfl
      simp only [Act.put, List.setIfInBounds_toArray, List.set_cons_zero, List.set_cons_succ, List.getElem_toArray, List.getElem_cons_zero, List.getElem_cons_succ]
      refine wpAnyH_take (i := 10) (v := ?_) rfl (by kernel_rfl) (by kernel_rfl) (by kernel_rfl) (fun _ _ _ h => h) (Or.inl ⟨by rfl, ?_⟩) (by assumption) ?_
      rotate_left
      · rintro wq ⟨s2, s0, s1⟩
        go_simp
        try with_reducible rfl
      simp only [Act.put, List.setIfInBounds_toArray, List.set_cons_zero, List.set_cons_succ, List.getElem_toArray, List.getElem_cons_zero, List.getElem_cons_succ]
      refine wpAnyH_take (i := 11) (v := ?_) rfl (by kernel_rfl) (by kernel_rfl) (by kernel_rfl) (fun _ _ _ h => h) (Or.inl ⟨by rfl, ?_⟩) (by assumption) ?_
      rotate_left
      · rintro wq ⟨s2, s0, s1⟩
        go_simp
        try with_reducible rfl
      simp only [Act.put, List.setIfInBounds_toArray, List.set_cons_zero, List.set_cons_succ, List.getElem_toArray, List.getElem_cons_zero, List.getElem_cons_succ]
      refine wpAnyH_take (i := 12) (v := ?_) rfl (by kernel_rfl) (by kernel_rfl) (by kernel_rfl) (fun _ _ _ h => h) (Or.inl ⟨by rfl, ?_⟩) (by assumption) ?_
      rotate_left
      · rintro wq ⟨s2, s0, s1⟩
        go_simp
        try with_reducible rfl
      simp only [Act.put, List.setIfInBounds_toArray, List.set_cons_zero, List.set_cons_succ, List.getElem_toArray, List.getElem_cons_zero, List.getElem_cons_succ]
      refine wpAnyH_take (i := 13) (v := ?_) rfl (by kernel_rfl) (by kernel_rfl) (by kernel_rfl) (fun _ _ _ h => h) (Or.inl ⟨by rfl, ?_⟩) (by assumption) ?_
      rotate_left
      · rintro wq ⟨s2, s0, s1⟩
        go_simp
        try with_reducible rfl
      simp only [Act.put, List.setIfInBounds_toArray, List.set_cons_zero, List.set_cons_succ, List.getElem_toArray, List.getElem_cons_zero, List.getElem_cons_succ]
      refine wpAnyH_take (i := 14) (v := ?_) rfl (by kernel_rfl) (by kernel_rfl) (by kernel_rfl) (fun _ _ _ h => h) (Or.inl ⟨by rfl, ?_⟩) (by assumption) ?_
      rotate_left
      · rintro wq ⟨s2, s0, s1⟩
        go_simp
        try with_reducible rfl
      simp only [Act.put, List.setIfInBounds_toArray, List.set_cons_zero, List.set_cons_succ, List.getElem_toArray, List.getElem_cons_zero, List.getElem_cons_succ]
      refine wpAnyH_take (i := 15) (v := ?_) rfl (by kernel_rfl) (by kernel_rfl) (by kernel_rfl) (fun _ _ _ h => h) (Or.inl ⟨by rfl, ?_⟩) (by assumption) ?_
      rotate_left
      · rintro wq ⟨s2, s0, s1⟩
        go_simp
        try with_reducible rfl
      simp only [Act.put, List.setIfInBounds_toArray, List.set_cons_zero, List.set_cons_succ, List.getElem_toArray, List.getElem_cons_zero, List.getElem_cons_succ]
      refine wpAnyH_take (i := 16) (v := ?_) rfl (by kernel_rfl) (by kernel_rfl) (by kernel_rfl) (fun _ _ _ h => h) (Or.inl ⟨by rfl, ?_⟩) (by assumption) ?_
      rotate_left
      · rintro wq ⟨s2, s0, s1⟩
        go_simp
        try with_reducible rfl
      simp only [Act.put, List.setIfInBounds_toArray, List.set_cons_zero, List.set_cons_succ, List.getElem_toArray, List.getElem_cons_zero, List.getElem_cons_succ]
      refine wpAnyH_take (i := 17) (v := ?_) rfl (by kernel_rfl) (by kernel_rfl) (by kernel_rfl) (fun _ _ _ h => h) (Or.inl ⟨by rfl, ?_⟩) (by assumption) ?_
      rotate_left
      · rintro wq ⟨s2, s0, s1⟩
        go_simp
        try with_reducible rfl
      simp only [Act.put, List.setIfInBounds_toArray, List.set_cons_zero, List.set_cons_succ, List.getElem_toArray, List.getElem_cons_zero, List.getElem_cons_succ]
      refine wpAnyH_take (i := 18) (v := ?_) rfl (by kernel_rfl) (by kernel_rfl) (by kernel_rfl) (fun _ _ _ h => h) (Or.inl ⟨by rfl, ?_⟩) (by assumption) ?_
      rotate_left
      · rintro wq ⟨s2, s0, s1⟩
        go_simp
        try with_reducible rfl
      simp only [Act.put, List.setIfInBounds_toArray, List.set_cons_zero, List.set_cons_succ, List.getElem_toArray, List.getElem_cons_zero, List.getElem_cons_succ]
      refine wpAnyH_ready (rs := [1]) (by kernel_rfl) (by simp) ?_
      refine AllReadyH.cons rfl (fun K hK => ?_) AllReadyH.nil
      go_simp
      refine hK.out _ _ hHeld ?_
      clear hK K hHeld
      intro hHeld
      refine wpAnyH_ready (rs := [19]) (by kernel_rfl) (by simp) ?_
      refine AllReadyH.cons rfl (fun K hK => ?_) AllReadyH.nil
      go_simp
      rw [← HSub.out]
      refine (HP.out _).mono ?_
      rintro e w3 ⟨rfl, hb3⟩
      have hb3' : Below W2.heap.size W2 w3 := ((Below.refl _ W2).drew).trans hb3
      have hz2 := box_lt HN2.out
      have hbx3 := (hb3'.block w1.heap.size hz2).trans HN2.out
      have g2 := box_cell hbx3 2 _ rfl
      have gz := fun j => box_free hbx3 j
      have HBX3 := Lib.hid hbx3
      have HB3 := Lib.hid (HB2.out.trans (hb3'.mono HB2.out.size))
      have t13 := (hb3'.cell (p := ⟨w.heap.size, 1, none⟩) (by show w.heap.size < _; omega)).trans t1
      go_wp2_with fail
      refine hK.out _ _ ⟨t13, box_cell HBX3.out 1 _ rfl, box_cell HBX3.out 0 _ rfl⟩ ?_
      clear hK K hHeld hb3 hb3' hbx3
      intro hHeld
      refine wpAnyH_take (i := 20) (v := ?_) rfl (by kernel_rfl) (by kernel_rfl) (by kernel_rfl) (fun _ _ _ h => h) (Or.inl ⟨by rfl, ?_⟩) (by assumption) ?_
      rotate_left
      · rintro wq ⟨s2, s0, s1⟩
        go_simp
        try with_reducible rfl
      simp only [Act.put, List.setIfInBounds_toArray, List.set_cons_zero, List.set_cons_succ, List.getElem_toArray, List.getElem_cons_zero, List.getElem_cons_succ]
      refine wpAnyH_ready (rs := [21]) (by kernel_rfl) (by simp) ?_
      refine AllReadyH.cons rfl (fun K hK => ?_) AllReadyH.nil
      go_simp
      obtain ⟨W4, hW4⟩ : ∃ W, W = w3.setCell ⟨w1.heap.size, 2, none⟩ (.string x1) := ⟨_, rfl⟩
      have hn4 := heap_setCell_same w3 w1.heap.size 2 _ _ (.string x1) HBX3.out
      have t14 : (w3.setCell ⟨w1.heap.size, 2, none⟩ (.string x1)).cell? ⟨w.heap.size, 1, none⟩ = some (.int .i64 n) := (World.cell?_of_block (heap_setCell_other w3 ⟨w1.heap.size, 2, none⟩ w.heap.size (.string x1) (by show w.heap.size ≠ w1.heap.size; omega))).trans t13
      rw [← hW4] at hn4 t14 ⊢
      have hb4 : Below w.heap.size w W4 := by
        rw [hW4]
        exact HB3.out.setCell (p := ⟨w1.heap.size, 2, none⟩) (by show w.heap.size ≤ w1.heap.size; omega) _
      clear hW4 g2 gz
      have h40 := box_cell hn4 0 _ rfl
      have h41 := box_cell hn4 1 _ rfl
      have h42 := box_cell hn4 2 _ rfl
      refine hK.out _ _ ⟨t14, h41, h40⟩ ?_
      clear hK K hHeld
      intro hHeld
      refine wpAnyH_done (by kernel_rfl) ?_ _
      clear hHeld
      go_wp2_with fail
      refine (rSet_any p S L _ (f, (x0.1, x1)) (H.out.below hb4) ⟨hx1, hx2⟩ hnow HX1s.out).mono ?_
      rintro e w5 ⟨rfl, hu⟩
      go_wp2
      go_end0
      exact ⟨rfl, by rw [HSv.out]; exact RUpd.behind hb4 hu⟩
    · rw [Int.min_eq_left (by omega)] at hsub
      have HSub := Lib.hid hsub
      clear hsub
      have hif : (if (x0.1.size : Int) < 64 * n + 64 then (x0.1.size : Int) else 64 * n + 64) = 64 * n + 64 := if_neg hmin
      have hc0 : 0 ≤ 64 * n := by omega
      have hc1 : 0 ≤ 64 * n + 64 := by omega
      have hc2 : 64 * n + 64 ≤ x0.1.size := by omega
      have hc3 : 64 * n ≤ 64 * n + 64 := by omega
      refine wp_region_held_drew (S := fun wq => wq.cell? ⟨w.heap.size, 1, none⟩ = some (.int .i64 n) ∧ wq.cell? ⟨w1.heap.size, 1, none⟩ = some (.string x0.1) ∧ wq.cell? ⟨w1.heap.size, 0, none⟩ = some (.int .i64 f)) (by kernel_rfl) ⟨t1, b1, b0⟩ (fun hHeld => ?_)
      refine wpAnyH_take (i := 0) (v := ?_) rfl (by kernel_rfl) (by kernel_rfl) (by kernel_rfl) (fun _ _ _ h => h) (Or.inl ⟨by rfl, ?_⟩) (by assumption) ?_
      rotate_left
      · rintro wq ⟨s2, s0, s1⟩
        go_simp
        try with_reducible rfl
      simp only [Act.put, List.setIfInBounds_toArray, List.set_cons_zero, List.set_cons_succ, List.getElem_toArray, List.getElem_cons_zero]
      refine wpAnyH_take (i := 2) (v := ?_) rfl (by kernel_rfl) (by kernel_rfl) (by kernel_rfl) (fun _ _ _ h => h) (Or.inl ⟨by rfl, ?_⟩) (by assumption) ?_
      rotate_left
      · rintro wq ⟨s2, s0, s1⟩
        go_simp
        try with_reducible rfl
      simp only [Act.put, List.setIfInBounds_toArray, List.set_cons_zero, List.set_cons_succ, List.getElem_toArray, List.getElem_cons_zero, List.getElem_cons_succ]
      refine wpAnyH_take (i := 3) (v := ?_) rfl (by kernel_rfl) (by kernel_rfl) (by kernel_rfl) (fun _ _ _ h => h) (Or.inl ⟨by rfl, ?_⟩) (by assumption) ?_
      rotate_left
      · rintro wq ⟨s2, s0, s1⟩
        go_simp
        try with_reducible rfl
      simp only [Act.put, List.setIfInBounds_toArray, List.set_cons_zero, List.set_cons_succ, List.getElem_toArray, List.getElem_cons_zero, List.getElem_cons_succ]
      refine wpAnyH_take (i := 4) (v := ?_) rfl (by kernel_rfl) (by kernel_rfl) (by kernel_rfl) (fun _ _ _ h => h) (Or.inl ⟨by rfl, ?_⟩) (by assumption) ?_
      rotate_left
      · rintro wq ⟨s2, s0, s1⟩
        go_simp
        try with_reducible rfl
      simp only [Act.put, List.setIfInBounds_toArray, List.set_cons_zero, List.set_cons_succ, List.getElem_toArray, List.getElem_cons_zero, List.getElem_cons_succ]
      refine wpAnyH_take (i := 5) (v := ?_) rfl (by kernel_rfl) (by kernel_rfl) (by kernel_rfl) (fun _ _ _ h => h) (Or.inl ⟨by rfl, ?_⟩) (by assumption) ?_
      rotate_left
      · rintro wq ⟨s2, s0, s1⟩
        go_simp
        try with_reducible rfl
      simp only [Act.put, List.setIfInBounds_toArray, List.set_cons_zero, List.set_cons_succ, List.getElem_toArray, List.getElem_cons_zero, List.getElem_cons_succ]
      refine wpAnyH_take (i := 6) (v := ?_) rfl (by kernel_rfl) (by kernel_rfl) (by kernel_rfl) (fun _ _ _ h => h) (Or.inl ⟨by rfl, ?_⟩) (by assumption) ?_
      rotate_left
      · rintro wq ⟨s2, s0, s1⟩
        go_simp
        try with_reducible rfl
      simp only [Act.put, List.setIfInBounds_toArray, List.set_cons_zero, List.set_cons_succ, List.getElem_toArray, List.getElem_cons_zero, List.getElem_cons_succ]
      refine wpAnyH_take (i := 7) (v := ?_) rfl (by kernel_rfl) (by kernel_rfl) (by kernel_rfl) (fun _ _ _ h => h) (Or.inl ⟨by rfl, ?_⟩) (by assumption) ?_
      rotate_left
      · rintro wq ⟨s2, s0, s1⟩
        go_simp
        try with_reducible rfl
      simp only [Act.put, List.setIfInBounds_toArray, List.set_cons_zero, List.set_cons_succ, List.getElem_toArray, List.getElem_cons_zero, List.getElem_cons_succ]
      refine wpAnyH_take (i := 8) (v := ?_) rfl (by kernel_rfl) (by kernel_rfl) (by kernel_rfl) (fun _ _ _ h => h) (Or.inl ⟨by rfl, ?_⟩) (by assumption) ?_
      rotate_left
      · rintro wq ⟨s2, s0, s1⟩
        go_simp
        try with_reducible rfl
      simp only [Act.put, List.setIfInBounds_toArray, List.set_cons_zero, List.set_cons_succ, List.getElem_toArray, List.getElem_cons_zero, List.getElem_cons_succ]
      refine wpAnyH_take (i := 9) (v := ?_) rfl (by kernel_rfl) (by kernel_rfl) (by kernel_rfl) (fun _ _ _ h => h) (Or.inl ⟨by rfl, ?_⟩) (by assumption) ?_
      rotate_left
      · rintro wq ⟨s2, s0, s1⟩
        go_simp
        try with_reducible rfl
      simp only [Act.put, List.setIfInBounds_toArray, List.set_cons_zero, List.set_cons_succ, List.getElem_toArray, List.getElem_cons_zero, List.getElem_cons_succ]
      refine wpAnyH_take (i := 10) (v := ?_) rfl (by kernel_rfl) (by kernel_rfl) (by kernel_rfl) (fun _ _ _ h => h) (Or.inl ⟨by rfl, ?_⟩) (by assumption) ?_
      rotate_left
      · rintro wq ⟨s2, s0, s1⟩
        go_simp
        try with_reducible rfl
      simp only [Act.put, List.setIfInBounds_toArray, List.set_cons_zero, List.set_cons_succ, List.getElem_toArray, List.getElem_cons_zero, List.getElem_cons_succ]
      refine wpAnyH_take (i := 11) (v := ?_) rfl (by kernel_rfl) (by kernel_rfl) (by kernel_rfl) (fun _ _ _ h => h) (Or.inl ⟨by rfl, ?_⟩) (by assumption) ?_
      rotate_left
      · rintro wq ⟨s2, s0, s1⟩
        go_simp
        try with_reducible rfl
      simp only [Act.put, List.setIfInBounds_toArray, List.set_cons_zero, List.set_cons_succ, List.getElem_toArray, List.getElem_cons_zero, List.getElem_cons_succ]
      refine wpAnyH_take (i := 12) (v := ?_) rfl (by kernel_rfl) (by kernel_rfl) (by kernel_rfl) (fun _ _ _ h => h) (Or.inl ⟨by rfl, ?_⟩) (by assumption) ?_
      rotate_left
      · rintro wq ⟨s2, s0, s1⟩
        go_simp
        try with_reducible rfl
      simp only [Act.put, List.setIfInBounds_toArray, List.set_cons_zero, List.set_cons_succ, List.getElem_toArray, List.getElem_cons_zero, List.getElem_cons_succ]
      refine wpAnyH_take (i := 13) (v := ?_) rfl (by kernel_rfl) (by kernel_rfl) (by kernel_rfl) (fun _ _ _ h => h) (Or.inl ⟨by rfl, ?_⟩) (by assumption) ?_
      rotate_left
      · rintro wq ⟨s2, s0, s1⟩
        go_simp
        try with_reducible rfl
      simp only [Act.put, List.setIfInBounds_toArray, List.set_cons_zero, List.set_cons_succ, List.getElem_toArray, List.getElem_cons_zero, List.getElem_cons_succ]
      refine wpAnyH_take (i := 14) (v := ?_) rfl (by kernel_rfl) (by kernel_rfl) (by kernel_rfl) (fun _ _ _ h => h) (Or.inl ⟨by rfl, ?_⟩) (by assumption) ?_
      rotate_left
      · rintro wq ⟨s2, s0, s1⟩
        go_simp
        try with_reducible rfl
      simp only [Act.put, List.setIfInBounds_toArray, List.set_cons_zero, List.set_cons_succ, List.getElem_toArray, List.getElem_cons_zero, List.getElem_cons_succ]
      refine wpAnyH_take (i := 15) (v := ?_) rfl (by kernel_rfl) (by kernel_rfl) (by kernel_rfl) (fun _ _ _ h => h) (Or.inl ⟨by rfl, ?_⟩) (by assumption) ?_
      rotate_left
      · rintro wq ⟨s2, s0, s1⟩
        go_simp
        try with_reducible rfl
      simp only [Act.put, List.setIfInBounds_toArray, List.set_cons_zero, List.set_cons_succ, List.getElem_toArray, List.getElem_cons_zero, List.getElem_cons_succ]
      refine wpAnyH_take (i := 16) (v := ?_) rfl (by kernel_rfl) (by kernel_rfl) (by kernel_rfl) (fun _ _ _ h => h) (Or.inl ⟨by rfl, ?_⟩) (by assumption) ?_
      rotate_left
      · rintro wq ⟨s2, s0, s1⟩
        go_simp
        try with_reducible rfl
      simp only [Act.put, List.setIfInBounds_toArray, List.set_cons_zero, List.set_cons_succ, List.getElem_toArray, List.getElem_cons_zero, List.getElem_cons_succ]
      refine wpAnyH_take (i := 17) (v := ?_) rfl (by kernel_rfl) (by kernel_rfl) (by kernel_rfl) (fun _ _ _ h => h) (Or.inl ⟨by rfl, ?_⟩) (by assumption) ?_
      rotate_left
      · rintro wq ⟨s2, s0, s1⟩
        go_simp
        try with_reducible rfl
      simp only [Act.put, List.setIfInBounds_toArray, List.set_cons_zero, List.set_cons_succ, List.getElem_toArray, List.getElem_cons_zero, List.getElem_cons_succ]
      refine wpAnyH_take (i := 18) (v := ?_) rfl (by kernel_rfl) (by kernel_rfl) (by kernel_rfl) (fun _ _ _ h => h) (Or.inl ⟨by rfl, ?_⟩) (by assumption) ?_
      rotate_left
      · rintro wq ⟨s2, s0, s1⟩
        go_simp
        try with_reducible rfl
      simp only [Act.put, List.setIfInBounds_toArray, List.set_cons_zero, List.set_cons_succ, List.getElem_toArray, List.getElem_cons_zero, List.getElem_cons_succ]
      refine wpAnyH_ready (rs := [1]) (by kernel_rfl) (by simp) ?_
      refine AllReadyH.cons rfl (fun K hK => ?_) AllReadyH.nil
      go_simp
      refine hK.out _ _ hHeld ?_
      clear hK K hHeld
      intro hHeld
      refine wpAnyH_ready (rs := [19]) (by kernel_rfl) (by simp) ?_
      refine AllReadyH.cons rfl (fun K hK => ?_) AllReadyH.nil
      go_simp
      rw [← HSub.out]
      refine (HP.out _).mono ?_
      rintro e w3 ⟨rfl, hb3⟩
      have hb3' : Below W2.heap.size W2 w3 := ((Below.refl _ W2).drew).trans hb3
      have hz2 := box_lt HN2.out
      have hbx3 := (hb3'.block w1.heap.size hz2).trans HN2.out
      have g2 := box_cell hbx3 2 _ rfl
      have gz := fun j => box_free hbx3 j
      have HBX3 := Lib.hid hbx3
      have HB3 := Lib.hid (HB2.out.trans (hb3'.mono HB2.out.size))
      have t13 := (hb3'.cell (p := ⟨w.heap.size, 1, none⟩) (by show w.heap.size < _; omega)).trans t1
      go_wp2_with fail
      refine hK.out _ _ ⟨t13, box_cell HBX3.out 1 _ rfl, box_cell HBX3.out 0 _ rfl⟩ ?_
      clear hK K hHeld hb3 hb3' hbx3
      intro hHeld
      refine wpAnyH_take (i := 20) (v := ?_) rfl (by kernel_rfl) (by kernel_rfl) (by kernel_rfl) (fun _ _ _ h => h) (Or.inl ⟨by rfl, ?_⟩) (by assumption) ?_
      rotate_left
      · rintro wq ⟨s2, s0, s1⟩
        go_simp
        try with_reducible rfl
      simp only [Act.put, List.setIfInBounds_toArray, List.set_cons_zero, List.set_cons_succ, List.getElem_toArray, List.getElem_cons_zero, List.getElem_cons_succ]
      refine wpAnyH_ready (rs := [21]) (by kernel_rfl) (by simp) ?_
      refine AllReadyH.cons rfl (fun K hK => ?_) AllReadyH.nil
      go_simp
      obtain ⟨W4, hW4⟩ : ∃ W, W = w3.setCell ⟨w1.heap.size, 2, none⟩ (.string x1) := ⟨_, rfl⟩
      have hn4 := heap_setCell_same w3 w1.heap.size 2 _ _ (.string x1) HBX3.out
      have t14 : (w3.setCell ⟨w1.heap.size, 2, none⟩ (.string x1)).cell? ⟨w.heap.size, 1, none⟩ = some (.int .i64 n) := (World.cell?_of_block (heap_setCell_other w3 ⟨w1.heap.size, 2, none⟩ w.heap.size (.string x1) (by show w.heap.size ≠ w1.heap.size; omega))).trans t13
      rw [← hW4] at hn4 t14 ⊢
      have hb4 : Below w.heap.size w W4 := by
        rw [hW4]
        exact HB3.out.setCell (p := ⟨w1.heap.size, 2, none⟩) (by show w.heap.size ≤ w1.heap.size; omega) _
      clear hW4 g2 gz
      have h40 := box_cell hn4 0 _ rfl
      have h41 := box_cell hn4 1 _ rfl
      have h42 := box_cell hn4 2 _ rfl
      refine hK.out _ _ ⟨t14, h41, h40⟩ ?_
      clear hK K hHeld
      intro hHeld
      refine wpAnyH_done (by kernel_rfl) ?_ _
      clear hHeld
      go_wp2_with fail
      refine (rSet_any p S L _ (f, (x0.1, x1)) (H.out.below hb4) ⟨hx1, hx2⟩ hnow HX1s.out).mono ?_
      rintro e w5 ⟨rfl, hu⟩
      go_wp2
      go_end0
      exact ⟨rfl, by rw [HSv.out]; exact RUpd.behind hb4 hu⟩
  · rw [if_neg hle] at HSv
    have hle2 : x0.1.size ≤ 64 * n := by omega
    go_enter Tryz.func80, Tryz.ntmps80
    go_wp2_with fail
    refine HGet.out.mono ?_
    rintro e w1 ⟨rfl, hb1⟩
    have hn1 := (hb1.block w.heap.size (by simp)).trans (MapKept.heap_alloc w _).1
    have HB1 := Lib.hid (HB0.out.trans (hb1.mono (by simp)))
    have hz1 : w.heap.size + 1 ≤ w1.heap.size := box_lt hn1
    have s0 : ∀ o, (w1.alloc o).cell? ⟨w.heap.size, 0, none⟩ = some (.int .i64 f) := fun o => (cell_old _ _ _ _ hz1).trans (box_cell hn1 0 _ rfl)
    have s1 : ∀ o, (w1.alloc o).cell? ⟨w.heap.size, 1, none⟩ = some (.int .i64 n) := fun o => (cell_old _ _ _ _ hz1).trans (box_cell hn1 1 _ rfl)
    clear hn1 hb1
    go_wp2_with fail
    have hb2 : Below w.heap.size w (w1.alloc (.cells #[.int .i64 f, .string x0.1, .string x0.2] 72)) := HB1.out.alloc (by omega) _
    refine (rSet_any p S L _ (f, x0) (H.out.below hb2) ⟨hx1, hx2⟩ hnow hlast).mono ?_
    rintro e w2 ⟨rfl, hu⟩
    go_wp2
    go_end0
    exact ⟨rfl, by rw [HSv.out]; exact RUpd.behind hb2 hu⟩
end Go.Proofs.YtjmkodkechahdaaGreatDoor
/- Contracts of settle and add of a disk of the reference. -/
set_option linter.unusedSimpArgs false
set_option linter.unusedVariables false
namespace Go.Proofs.YtjmkodkechahdaaGreatDoor
open Go.RowKit
set_option maxRecDepth 100000

def qwo (l : List (Int × Int)) (f : Int) : List (Int × Int) := l.filter (fun y => !(y.1 == f))
theorem qwo_step (l : List (Int × Int)) (f : Int) (k : Nat) (hk : k < l.length) : qwo (l.take (k + 1)) f = if (l[k].1 == f) = false then qwo (l.take k) f ++ [l[k]] else qwo (l.take k) f := by
  unfold qwo
  rw [filter_step _ _ _ hk]
  cases h : (l[k].1 == f) <;> simp
theorem qwo_len (l : List (Int × Int)) (f : Int) (k : Nat) : (qwo (l.take k) f).length ≤ l.length := by
  unfold qwo
  refine Nat.le_trans (List.length_filter_le _ _) ?_
  rw [List.length_take]
  omega
set_option maxHeartbeats 2000000 in
theorem rSettle_any (p : Nat) (S : DS) (L : RL) (w : World) (f : Int) (s : ByteArray) (h : RK w p S L) (hf : 0 ≤ f ∧ f < 16) (hs : s.size ≤ 16777216) :
    Calls Tryz.prog 91 #[.pointer (some ⟨p, 0, none⟩), .int .i64 f, .string s] w fun e w' => e = .returned (.tuple #[]) ∧ RUpd p (S.settle f s) L w w' := by
  have HS := Lib.hid (rSet_any p S L w (f, (s, s)) h hf hs hs)
  have hql := h.wf.qlen
  clear h
  go_enter Tryz.func91, Tryz.ntmps91
  go_wp2_with fail
  refine HS.out.mono ?_
  rintro e w1 ⟨rfl, L1, d1, t1, o1, k1⟩
  have D1 := Lib.hid d1
  have T1 := Lib.hid t1
  have HQ := Lib.hid (d1.queue.rd secLay)
  have hp := box_lt d1.box
  have c1 := d1.c1
  have hw : (S.settle f s).wf := by
    have h1 := DS.settle_wf d1.wf f s hf hs
    have e : (DS.mk (updF S.files f (s, s)) S.queue S.lost S.down S.armed S.keep).settle f s = S.settle f s := by
      unfold DS.settle
      congr 1
      funext g
      unfold updF
      by_cases hg : g = f <;> simp [hg]
    rw [e] at h1
    exact h1
  have HW := Lib.hid hw
  clear d1 t1 hw
  go_wp2
  go_loopw [6, 7] (fun o i wr => ∃ (k : Nat) (A' : Option Addr) (c' : Nat), k ≤ S.queue.length ∧ i = .int .i64 k ∧ o = .slice A' (qwo (S.queue.take k) f).length c' ∧ OwnL wr w1.heap.size 104 2 secC A' c' (qwo (S.queue.take k) f) ∧ Below w1.heap.size w1 wr) (fun _ i _ => S.queue.length - (intOf i).toNat)
  case atStart => exact ⟨0, none, 0, Nat.zero_le _, rfl, rfl, OwnL.nil_, Below.refl _ _⟩
  case round =>
    obtain ⟨k, A', c', hk, rfl, rfl, ho, hb⟩ := hrel
    have HO := Lib.hid ho
    have HB := Lib.hid hb
    have hz := hb.size
    have hc1 : wr.cell? ⟨p, 1, none⟩ = some (.slice L1.qA S.queue.length L1.qc) := (hb.cell (p := ⟨p, 1, none⟩) hp).trans c1
    have hfl := qwo_len S.queue f k
    clear ho c1
    by_cases hlt : k < S.queue.length
    · obtain ⟨b, off, hA, hbb, e1, e2⟩ := (HQ.out.below hb).sec hlt
      rw [hA] at hc1
      have HSt := Lib.hid (qwo_step S.queue f k hlt)
      clear hb
      generalize S.queue[k] = y at *
      cases hv : (y.1 == f)
      · rw [hv, if_pos rfl] at HSt
        have hv2 : (y.1 != f) = true := by unfold bne; rw [hv]; rfl
        go_wp2_with (at_builtin; refine wp_append_l rfl (.tmp 33) (.tmp 41) rfl slRSec secLay w1.heap.size (xs := qwo (S.queue.take k) f) (ys := [y]) rfl rfl (HO.out.alloc _) rfl rfl (RdL.one wr y _ _ rfl _ rfl) (by simp; omega) (by simp; omega) ?_; intro A2 c2 w2 hown hg hb2 hat; have HO2 := Lib.hid hown; have HB2 := Lib.hid hb2; clear hown hg hb2 hat)
        go_roundw
        case rel => exact ⟨k + 1, A2, c2, by omega, by go_num, by rw [HSt.out]; simp, by rw [HSt.out]; exact HO2.out, (HB.out.alloc (by omega) _).trans HB2.out⟩
        case measure => simp [intOf]; omega
      · rw [hv, if_neg (by simp)] at HSt
        have hv2 : (y.1 != f) = false := by unfold bne; rw [hv]; rfl
        go_wp2
        go_roundw
        case rel => exact ⟨k + 1, A', c', by omega, by go_num, by rw [HSt.out], by rw [HSt.out]; exact HO.out, HB.out⟩
        case measure => simp [intOf]; omega
    · have HE : Hid (qwo (S.queue.take k) f = (S.settle f s).queue) := Lib.hid (by rw [List.take_of_length_le (by omega)]; rfl)
      have hbp := (hb.block p hp).trans D1.out.box
      have HBP := Lib.hid hbp
      have cz := fun j => box_free hbp j
      clear hbp
      rw [HE.out] at HO
      simp only [HE.out]
      go_wp2
      go_end0
      refine ⟨rfl, RUpd.trans T1.out o1 k1 ?_⟩
      have hT : Turn (fun i => i = p ∨ slBlk L1.qA = some i) w1 (wr.setCell ⟨p, 1, none⟩ (.slice A' (S.settle f s).queue.length c')) := (Turn.below HB.out).set p 1 _ (.inl (.inl rfl))
      refine RK.renew D1.out hT L1.fl L1.fA L1.fc (S.settle f s).queue A' c' (updF S.files f (s, s)) S.down S.armed HW.out (heap_setCell_same _ p 1 _ _ _ HBP.out)
        (D1.out.files.turn (fun i hi hl => (heap_setCell_other _ _ _ _ (show i ≠ p from D1.out.fp i hi)).trans (HB.out.block i hl))) D1.out.fn D1.out.fok ((HO.out.turn (fun i hi hl => heap_setCell_other _ _ _ _ (by have := (HO.out.blk_lt hi).1; show i ≠ p; omega))).mono (Nat.zero_le _))
        (fun i hi => .inl hi) (fun i hi => .inr (HO.out.blk_lt hi).1) (fun i hi hfi => by have := (HO.out.blk_lt hi).1; have := (D1.out.files.blk_lt hfi).2; omega)
/-- One sector more is pending. -/
theorem RK.pushed {w w4 w5 : World} {p : Nat} {S : DS} {L : RL} (d : RK w p S L) (x : Int × Int) (hx : 0 ≤ x.1 ∧ x.1 < 16 ∧ 0 ≤ x.2 ∧ x.2 ≤ 262144) (hn : x ∉ S.queue) (o : Obj) (A2 : Option Addr) (c2 : Nat) (hown : OwnL w4 0 104 2 secC A2 c2 (S.queue ++ [x]))
    (hg : (w.alloc o).grownBy w4 (slBlk L.qA)) (hat : slBlk A2 = slBlk L.qA ∨ slBlk A2 = some (w.alloc o).heap.size) (hbox : w4.heap[p]? = some (.cells (refV S L) 61 (0, 0))) (hw5 : w5 = w4.setCell ⟨p, 1, none⟩ (.slice A2 (S.queue ++ [x]).length c2)) :
    RUpd p (DS.mk S.files (S.queue ++ [x]) S.lost S.down S.armed S.keep) L w w5 := by
  have hp := d.lt p (.inl rfl)
  have hsz : (w.alloc o).heap.size = w.heap.size + 1 := by simp
  have hA2 : ∀ i, slBlk A2 = some i → slBlk L.qA = some i ∨ w.heap.size ≤ i := by
    intro i hi
    rcases hat with h | h
    · exact .inl (by rw [← h, hi])
    · rw [hi, hsz] at h
      have := Option.some.inj h
      exact .inr (by omega)
  have hA3 : ∀ i, slBlk A2 = some i → i ≠ p := by
    intro i hi
    rcases hA2 i hi with h | h
    · exact (d.qp i h).1
    · omega
  subst hw5
  have hT : Turn (fun i => i = p ∨ slBlk L.qA = some i) w (w4.setCell ⟨p, 1, none⟩ (.slice A2 (S.queue ++ [x]).length c2)) :=
    (((Turn.refl (fun i => i = p ∨ slBlk L.qA = some i) w).alloc o).trans (Turn.grown (F := fun i => slBlk L.qA = some i) hg (fun k hk => hk)) (fun i hi => .inl (.inr hi))).set p 1 _ (.inl (.inl rfl))
  refine RK.renew d hT L.fl L.fA L.fc (S.queue ++ [x]) A2 c2 S.files S.down S.armed (addq_wf d.wf x hx hn) (heap_setCell_same _ p 1 _ _ _ hbox)
    (d.files.turn (fun i hi hl => hT.block i hl (fun h => by
      rcases h with h | h
      · exact d.fp i hi h
      · exact (d.qp i h).2 hi))) d.fn d.fok (hown.turn (fun i hi hl => heap_setCell_other _ _ _ _ (hA3 i hi))) (fun i hi => .inl hi) hA2 (fun i hi hfi => ?_)
  rcases hA2 i hi with h | h
  · exact (d.qp i h).2 hfi
  · have := (d.files.blk_lt hfi).2
    omega
set_option maxHeartbeats 4000000 in
theorem rAdd_any (p : Nat) (S : DS) (L : RL) (w : World) (f a : Int) (s : ByteArray) (h : RK w p S L) (hf : 0 ≤ f ∧ f < 16) (hfit : fitsB a s = true) :
    Calls Tryz.prog 79 #[.pointer (some ⟨p, 0, none⟩), .int .i64 f, .int .i64 a, .string s] w fun e w' => e = .returned (.tuple #[]) ∧ RUpd p (S.wadd f a s) L w w' := by
  obtain ⟨q1, q2⟩ := fits_ok hfit
  clear hfit
  have H := Lib.hid h
  by_cases h2 : s.size = 0
  · obtain rfl := str_eq0 h2
    have hem := e0_empty
    have hw : S.wadd f a e0 = S := by unfold DS.wadd; rw [if_pos h2]
    rw [hw]
    clear hw h
    go_enter Tryz.func79, Tryz.ntmps79
    go_wp2
    try simp only [Exit.inBlock, Exit.then]
    refine bodyPost_ret (results_none rfl _ _ _) rfl ?_
    exact ⟨rfl, RUpd.refl H.out⟩
  · have hem := str_ne0 h2
    have HG := Lib.hid (rGet_any p S L w f h)
    have hnow := h.wf.now f
    have hlast := h.wf.last f
    obtain ⟨x0, hx0⟩ : ∃ x, x = S.files f := ⟨_, rfl⟩
    rw [← hx0] at HG hnow hlast
    obtain ⟨x1, hx1⟩ : ∃ x, x = putB x0.1 a.toNat s := ⟨_, rfl⟩
    have hsz1 := putB_size x0.1 a.toNat s h2
    rw [← hx1] at hsz1
    have HP := Lib.hid (fun w => hx1 ▸ rPut_i x0.1 s a w q1 (by omega) (by omega))
    have hS1 : S.wadd f a s = ⟨updF S.files f (x1, x0.2), addQ S.queue f (a / 64) ((a + s.size - 1) / 64 - a / 64 + 1).toNat, S.lost, S.down, S.armed, S.keep⟩ := by
      unfold DS.wadd
      rw [if_neg h2, ← hx0, hx1]
    have HS1 := Lib.hid hS1
    have h1s : x1.size ≤ 16777216 := by omega
    clear hx1 hx0 h hS1 hsz1
    have hp := box_lt H.out.box
    have hlo : 0 ≤ a / 64 := by omega
    go_enter Tryz.func79, Tryz.ntmps79
    go_wp2_with fail
    refine HG.out.mono ?_
    rintro e w1 ⟨rfl, hb1⟩
    have HB1 := Lib.hid hb1
    have hz1 := hb1.size
    clear hb1
    go_wp2_with fail
    refine (HP.out _).mono ?_
    rintro e w2 ⟨rfl, hb2⟩
    have hn2 := box_new hb2
    have b0 := box_cell hn2 0 _ rfl
    have b1 := box_cell hn2 1 _ rfl
    have b2 := box_cell hn2 2 _ rfl
    have bz := fun j => box_free hn2 j
    have HB2 := Lib.hid ((HB1.out.alloc (by omega) _).trans (hb2.mono (by simp; omega)))
    clear hn2 hb2
    go_wp2_with fail
    have hb3 : Below w.heap.size w (w2.setCell ⟨w1.heap.size, 1, none⟩ (.string x1)) := HB2.out.setCell (p := ⟨w1.heap.size, 1, none⟩) (by show w.heap.size ≤ w1.heap.size; omega) _
    refine (rSet_any p S L _ (f, (x1, x0.2)) (H.out.below hb3) hf h1s hlast).mono ?_
    rintro e w3 ⟨rfl, hu3⟩
    have HU3 := Lib.hid (RUpd.behind hb3 hu3)
    clear hb3 hu3 b0 b1 b2 bz
    go_wp2
    go_loopw [9] (fun n wr => ∃ (k : Int) (q : List (Int × Int)), n = .int .i64 k ∧ a / 64 ≤ k ∧ k ≤ (a + s.size - 1) / 64 + 1 ∧ addQ q f k ((a + s.size - 1) / 64 - k + 1).toNat = addQ S.queue f (a / 64) ((a + s.size - 1) / 64 - a / 64 + 1).toNat ∧
      RUpd p ⟨updF S.files f (x1, x0.2), q, S.lost, S.down, S.armed, S.keep⟩ L w wr) (fun n _ => ((a + s.size - 1) / 64 + 1 - intOf n).toNat)
    case atStart => exact ⟨a / 64, S.queue, rfl, Int.le_refl _, by omega, rfl, HU3.out⟩
    case round =>
      clear HU3
      obtain ⟨k, q, rfl, hk1, hk2, hq, hU⟩ := hrel
      have HQ := Lib.hid hq
      clear hq
      by_cases hlt : k ≤ (a + s.size - 1) / 64
      · obtain ⟨L', d, tt, oo, kk⟩ := hU
        have D := Lib.hid d
        have TT := Lib.hid tt
        have hpl := box_lt d.box
        have hql := d.wf.qlen
        simp only at hql
        have hstep : addQ (if (f, k) ∈ q then q else q ++ [(f, k)]) f (k + 1) ((a + s.size - 1) / 64 - (k + 1) + 1).toNat = addQ S.queue f (a / 64) ((a + s.size - 1) / 64 - a / 64 + 1).toNat := by
          rw [← HQ.out, show ((a + s.size - 1) / 64 - k + 1).toNat = ((a + s.size - 1) / 64 - (k + 1) + 1).toNat + 1 by omega, addQ]
        have HSt := Lib.hid hstep
        have HPe := Lib.hid (rPending_any p _ L' wr f k d)
        have c1 := d.c1
        have cz := fun j => box_free d.box j
        simp only at c1
        clear d tt hstep
        by_cases hin : (f, k) ∈ q
        · rw [if_pos hin] at HSt
          rw [show decide ((f, k) ∈ (DS.mk (updF S.files f (x1, x0.2)) q S.lost S.down S.armed S.keep).queue) = true from by simpa using hin] at HPe
          go_wp2_with (go_at_call 99; refine HPe.out.mono ?_; rintro e wx ⟨rfl, rfl⟩)
          go_roundw
          case rel => exact ⟨k + 1, q, by go_num, by omega, by omega, HSt.out, L', D.out, TT.out, oo, kk⟩
          case measure => simp [intOf]; omega
        · rw [if_neg hin] at HSt
          rw [show decide ((f, k) ∈ (DS.mk (updF S.files f (x1, x0.2)) q S.lost S.down S.armed S.keep).queue) = false from by simpa using hin] at HPe
          go_wp2_with fail
          refine HPe.out.mono ?_
          rintro e wx ⟨rfl, rfl⟩
          have hQA : ∀ i, slBlk L'.qA = some i → i ≠ p := fun i hi => (D.out.qp i hi).1
          have HQA := Lib.hid hQA
          clear hQA
          go_wp2_with (at_builtin; refine wp_append_l rfl (.tmp 45) (.tmp 49) rfl slRSec secLay 0 (xs := q) (ys := [(f, k)]) rfl rfl (D.out.queue.alloc _) rfl rfl (RdL.one wr (f, k) _ _ rfl _ rfl) (by simp; omega) (by simp) ?_; intro A2 c2 w4 hown hg hb4 hat; simp only [own_blk] at hg hat; have hbx := (hg.block p (by simp; omega) (fun e => HQA.out p e.symm rfl)).trans ((Below.heap_alloc _ _ p hpl).trans D.out.box); have c11 := box_cell hbx 1 _ rfl; have cz1 := fun j => box_free hbx j; have HX := Lib.hid hbx; have HO2 := Lib.hid hown; have HG := Lib.hid hg; have HA := Lib.hid hat; clear hown hg hb4 hat hbx)
          go_roundw
          case rel =>
            refine ⟨k + 1, q ++ [(f, k)], by go_num, by omega, by omega, HSt.out, RUpd.trans TT.out oo kk (RK.pushed D.out (f, k) ⟨hf.1, hf.2, by simp only; omega, by simp only; omega⟩ hin _ A2 c2 HO2.out HG.out HA.out HX.out ?_)⟩
            simp
          case measure => simp [intOf]; omega
      · have hk : ((a + s.size - 1) / 64 - k + 1).toNat = 0 := by omega
        have hq := HQ.out
        rw [hk, addQ] at hq
        have HEnd := Lib.hid hq
        have HU := Lib.hid hU
        clear hq hU
        go_wp2
        go_end0
        rw [HS1.out, ← HEnd.out]
        exact ⟨rfl, HU.out⟩
end Go.Proofs.YtjmkodkechahdaaGreatDoor
