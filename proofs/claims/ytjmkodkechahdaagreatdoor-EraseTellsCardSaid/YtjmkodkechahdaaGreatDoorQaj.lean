/- Contracts and plain laws, joined: DkB, DkC, DkD, DkE. -/
import Derived.Test.YtjmkodkechahdaaGreatDoorRows
import Derived.Test.YtjmkodkechahdaaGreatDoorQag
import Derived.Lib.BufferWrite
import Derived.Laws.IdiomStrings
import Derived.Test.YtjmkodkechahdaaGreatDoorQaf
/- Contract of disk.put. -/
set_option linter.unusedSimpArgs false
set_option linter.unusedVariables false
namespace Go.Proofs.YtjmkodkechahdaaGreatDoor
open Go.RowKit
set_option maxRecDepth 100000

theorem dlen (s : ByteArray) : s.data.toList.length = s.size := by
  rw [Array.length_toList]
  rfl
theorem str_eq0 {t : ByteArray} (h : t.size = 0) : t = e0 := by
  obtain ⟨⟨l⟩⟩ := t
  have : l = [] := List.eq_nil_of_length_eq_zero h
  subst this
  rfl
theorem str_ne0 {t : ByteArray} (h : t.size ≠ 0) : t.toList.isEmpty = false := by
  rw [ByteArray.toList_eq]
  rcases hl : t.data.toList with _ | ⟨x, r⟩
  · exact absurd (by rw [← dlen, hl]; rfl) h
  · rfl
theorem e0_empty : e0.toList.isEmpty = true := by
  rw [ByteArray.toList_eq]
  rfl
/-- copy(dst, s), s a string, at the operation. -/
theorem wpList_copy_str {P : Program} {w : World} {ops : Array Oper} {rest : List Oper} {o : Oper} {a : Act} {Q : Exit → Act → World → Prop} (hgd : o.guard = none) (d s : Operand) (dT sT : TypeId)
    (ho : o.op = .call { callee := .builtin .copy, args := #[d, s], argTypes := #[dT, sT] }) (elem : TypeId) (hu : P.underlying dT = some (.slice elem)) (hsz : (P.info? elem).map (·.size) = some 1)
    (g off dLen dCap : Nat) (hd : a.eval d = .slice (some ⟨g, off, none⟩) dLen dCap) (x : ByteArray) (hs : a.eval s = .string x)
    (cur : Array Value) (t : TypeId) (hg : w.heap[g]? = some (.cells cur t (0, 0))) (hle : x.size ≤ dLen) (hfit : off + x.size ≤ cur.size)
    (new : List Value) (hnew : cur.toList.take off ++ Lib.byteCells x.data.toList ++ cur.toList.drop (off + x.size) = new)
    (h : ∀ w2, w2.heap[g]? = some (.cells new.toArray t (0, 0)) → w.grownBy w2 (some g) → wpList P ops Q rest (a.put o.dst (goInt x.size)) w2) : wpList P ops Q (o :: rest) a w := by
  subst hnew
  refine wpList_plain hgd fun K hK => ?_
  have hrun := Lib.run_copy_row_string (P := P) w dT sT o.type elem g off dLen dCap x cur t hu hsz hg hle hfit
  unfold Oper.wp
  simp [execOp, ho, resolve, invoke, builtin, hd, hs, hrun, Result.andThen]
  refine hK _ _ ?_
  have h2 := h (w.setRow g (cur.toList.take off ++ Lib.byteCells x.data.toList ++ cur.toList.drop (off + x.size)).toArray) (setRow_heap w g cur _ t _ hg) ⟨rfl, rfl, rfl, by simp, fun k _ hk => setRow_other w g k _ (fun e => hk (by rw [e]))⟩
  simpa using h2
/-- string(b), b a whole row of bytes. -/
theorem wpList_conv_str {P : Program} {w : World} {ops : Array Oper} {rest : List Oper} {o : Oper} {a : Act} {Q : Exit → Act → World → Prop} (hgd : o.guard = none) (x : Operand) (src dst e : TypeId)
    (ho : o.op = .convert src dst x) (hs : P.underlying src = some (.slice e)) (he : P.underlying e = some (.int .u8)) (hd : P.underlying dst = some .string)
    (g n c : Nat) (hx : a.eval x = .slice (some ⟨g, 0, none⟩) n c) (l : List UInt8) (hn : n = l.length) (t : TypeId) (fr : Nat × Nat) (more : List Value) (hg : w.heap[g]? = some (.cells (Lib.byteCells l ++ more).toArray t fr))
    (h : wpList P ops Q rest (a.put o.dst (.string ⟨l.toArray⟩)) w) : wpList P ops Q (o :: rest) a w := by
  subst hn
  refine wpList_plain hgd fun K hK => ?_
  have hrun := run_convert_bytes_back (P := P) w src dst e ⟨g, 0, none⟩ c l hs he hd (fun j hj => by
    have h1 : (⟨g, 0, none⟩ : Addr).add j = ⟨g, j, none⟩ := by unfold Addr.add; split <;> simp_all
    rw [h1]
    unfold World.cell?
    simp only [hg]
    rw [List.getElem?_toArray, List.getElem?_append_left (by simpa [Lib.byteCells] using hj)]
    simp [Lib.byteCells, hj])
  unfold Oper.wp
  simp [execOp, ho, hx, hrun, Result.andThen]
  exact hK _ _ h
def zcells (n : Nat) : List Value := List.replicate n (.int .u8 0)
theorem byteCells_pad (s : ByteArray) (n : Nat) : Lib.byteCells (padL s.data.toList n) = Lib.byteCells s.data.toList ++ zcells (n - s.size) := by
  simp [Lib.byteCells, padL, zcells, -Array.length_toList, dlen]
theorem infoU8 : ∃ i, Tryz.prog.info? 5 = some i ∧ i.zero = some (.int .u8 0) ∧ i.size = 1 ∧ i.bytes = 1 := by
  refine info_parts ?_
  kernel_rfl
theorem sizeU8 : (Tryz.prog.info? 5).map (·.size) = some 1 := by kernel_rfl
theorem madeU8 (n : Nat) : (madeCells (Value.int .u8 0).cells (n * 1)).toList = zcells n := by
  rw [Nat.mul_one]
  exact toList_madeCells_one _ n
/-- The row behind the first copy. -/
theorem row1 (s : ByteArray) (n : Nat) : (((zcells (max s.size n)).toArray.toList.take 0 ++ Lib.byteCells s.data.toList ++ (zcells (max s.size n)).toArray.toList.drop (0 + s.size))) = Lib.byteCells (padL s.data.toList n) := by
  rw [byteCells_pad]
  simp [zcells]
  omega
theorem row2 (s t : ByteArray) (a : Nat) : ((Lib.byteCells (padL s.data.toList (a + t.size))).toArray.toList.take a ++ Lib.byteCells t.data.toList ++ (Lib.byteCells (padL s.data.toList (a + t.size))).toArray.toList.drop (a + t.size)) = Lib.byteCells (putL s.data.toList a t.data.toList) := by
  simp [Lib.byteCells, putL, -Array.length_toList, dlen]

theorem made_row {w1 : World} {base g n : Nat} {e : TypeId} (h : w1.ownsRow base e 1 (.slice (some ⟨g, 0, none⟩) n n) n (madeCells (Value.int .u8 0).cells (n * 1)).toList) : w1.heap[g]? = some (.cells (zcells n).toArray e (0, 0)) := by
  rcases h.2 with ⟨hv, _⟩ | ⟨g', cap, cur, hv, _, hg, _, _, hs, ht⟩
  · cases hv
  · injection hv with e1 e2 e3
    injection e1 with e1
    injection e1 with e1
    subst e1 e3
    rw [madeU8, List.take_of_length_le (by rw [Array.length_toList]; omega)] at ht
    rw [hg, ← ht]

set_option maxRecDepth 100000 in
set_option maxHeartbeats 1000000 in
theorem dput_any (s t : ByteArray) (a : Int) (w : World) (ha : 0 ≤ a) (hs : s.size ≤ 1073741824) (ht : a + t.size ≤ 1073741824) :
    Calls Tryz.prog 67 #[.string s, .int .i64 a, .string t] w fun e w' => e = .returned (.string (putB s a.toNat t)) ∧ Below w.heap.size w w' := by
  obtain ⟨i, hi1, hi2, hi3, hi4⟩ := infoU8
  by_cases h0 : t.size = 0
  · obtain rfl := str_eq0 h0
    have hem := e0_empty
    go_enter Tryz.func67, Tryz.ntmps67
    go_wp2
    go_ret
    exact ⟨rfl, Below.refl _ _⟩
  · have hne := str_ne0 h0
    have hd0 : t.toList.length = t.size := by rw [ByteArray.toList_eq, dlen]
    go_enter Tryz.func67, Tryz.ntmps67
    go_wp2_with (first
      | (at_make; refine wpList_make_full _ rfl _ _ _ rfl w.heap.size 5 i _ 1 Tryz.underlying117 hi1 hi2 hi3 .i64 .i64 _ _ (max s.size (a.toNat + t.size)) rfl rfl (by omega) (by omega) (by rw [hi4]; omega) (by simp [maxLen]; omega) (Nat.le_refl _) ?_; intro w1 hown hg1; have HR1 := Lib.hid (made_row hown); clear hown)
      | ((with_reducible show wpList _ _ _ (Oper.mk (some 21) _ _ _ _ _ :: _) _ _); refine wpList_copy_str rfl _ _ _ _ rfl 5 Tryz.underlying117 sizeU8 w.heap.size 0 _ _ rfl s rfl _ _ HR1.out (by omega) (by simp [zcells]; omega) _ (row1 s (a.toNat + t.size)) ?_; intro w2 hr2 hg2; have HR2 := Lib.hid hr2; clear hr2)
      | ((with_reducible show wpList _ _ _ (Oper.mk (some 26) _ _ _ _ _ :: _) _ _); refine wpList_copy_str rfl _ _ _ _ rfl 5 Tryz.underlying117 sizeU8 w.heap.size a.toNat _ _ rfl t rfl _ _ HR2.out (by omega) (by simp [Lib.byteCells, padL_len, -Array.length_toList, dlen]; omega) _ (row2 s t a.toNat) ?_; intro w3 hr3 hg3; have HR3 := Lib.hid hr3; clear hr3)
      | ((with_reducible show wpList _ _ _ (Oper.mk (some 28) _ _ _ _ _ :: _) _ _); refine wpList_conv_str rfl _ _ _ 5 rfl Tryz.underlying117 Tryz.underlying5 Tryz.underlying9 w.heap.size _ _ rfl (putL s.data.toList a.toNat t.data.toList) (by rw [putL_len, dlen, dlen]) _ _ [] (by simpa using HR3.out) ?_))
    all_goals go_ret
    all_goals exact ⟨by rw [putB, if_neg h0]; rfl, (((Below.refl _ _).grown hg1 (Nat.le_refl _) (fun k hk => by cases hk)).grown hg2 hg1.size (fun k hk => by cases hk; exact Nat.le_refl _)).grown hg3 (Nat.le_trans hg1.size hg2.size) (fun k hk => by cases hk; exact Nat.le_refl _)⟩
end Go.Proofs.YtjmkodkechahdaaGreatDoor
/- Where a disk lies in memory, and the contracts of its small methods. -/
set_option linter.unusedSimpArgs false
set_option linter.unusedVariables false
namespace Go.Proofs.YtjmkodkechahdaaGreatDoor
open Go.RowKit
set_option maxRecDepth 100000

def okI (x : Int) : Prop := inI64 x
def kvI (x : Int) : Value := .int .i64 x
def fileV (x : FileT) : Value := .agg #[.string x.1, .string x.2]
def okS (p : Int × Int) : Prop := inI64 p.1 ∧ inI64 p.2
def secV (p : Int × Int) : Value := .agg #[.int .i64 p.1, .int .i64 p.2]
def secC (p : Int × Int) : List Value := [.int .i64 p.1, .int .i64 p.2]
def intC (x : Int) : List Value := [.int .i64 x]
theorem secLay : Lay 2 secC := ⟨fun _ => rfl, fun x u h => by simp [secC] at h; rcases h with rfl | rfl <;> rfl⟩
theorem intLayC : Lay 1 intC := ⟨fun _ => rfl, fun x u h => by simp [intC] at h; subst h; rfl⟩
theorem slSec : SlTy Tryz.prog 55 93 2 16 := by
  obtain ⟨i, hi, h0, h1, h2⟩ := info_parts (show (Tryz.prog.info? 93).map (fun i => (i.zero, i.size, i.bytes)) = some (some (.agg #[.int .i64 0, .int .i64 0]), 2, 16) by kernel_rfl)
  exact ⟨Tryz.underlying55, ⟨i, _, hi, h0, h1, h2, rfl⟩, by decide, by decide⟩
theorem slIntC : SlTy Tryz.prog 31 3 1 8 := by
  obtain ⟨i, hi, h0, h1, h2⟩ := info_parts (show (Tryz.prog.info? 3).map (fun i => (i.zero, i.size, i.bytes)) = some (some (.int .i64 0), 1, 8) by kernel_rfl)
  exact ⟨Tryz.underlying31, ⟨i, _, hi, h0, h1, h2, rfl⟩, by decide, by decide⟩
theorem wfI {a : Int} (h : inI64 a) : (Lit.int .i64 a).wf = true := by
  unfold inI64 at h
  simp [Lit.wf, IntKind.min, IntKind.max, IntKind.bits, IntKind.signed]
  omega
theorem keyI : KeyTy Tryz.prog 3 okI kvI where
  K := Maps.int_keyed Tryz.underlying3
  lit := fun a h => by
    refine ⟨.int .i64 a, ?_⟩
    simp [keyOf, kvI, Tryz.underlying3, mapKey, wfI h]
  inj := fun a b h => by injection h
theorem laidOut : laidOutB Tryz.prog = true := by kernel_rfl
theorem cells2 : Tryz.prog.cellsOf 93 = 2 := by kernel_rfl
theorem cells1 : Tryz.prog.cellsOf 3 = 1 := by kernel_rfl
theorem keyS : KeyTy Tryz.prog 93 okS secV where
  K := Maps.Keyed.of_law (deep_law_laid laidOut (m := 2) (by omega) (of_decide_eq_true (by kernel_rfl)) (by kernel_rfl) (by kernel_rfl))
  lit := fun a h => by
    obtain ⟨h1, h2⟩ := h
    have h1 := wfI h1
    have h2 := wfI h2
    have hk : Tryz.prog.keyType 93 = true := by kernel_rfl
    have hl : ∀ d, Tryz.prog.keyLits (d + 2) 93 [.int .i64 a.1, .int .i64 a.2] = some [.int .i64 a.1, .int .i64 a.2] := by
      intro d
      simp [Program.keyLits, Tryz.underlying93, Tryz.underlying3, cells2, cells1, h1, h2]
    refine ⟨.string (keyBytes [.int .i64 a.1, .int .i64 a.2]), ?_⟩
    simp [keyOf, secV, Tryz.underlying93, hk, Value.formed, cells2, Value.cells, hl]
  inj := fun a b h => by
    simp only [secV, Value.agg.injEq, Array.mk.injEq, List.cons.injEq, Value.int.injEq, and_true, true_and] at h
    exact Prod.ext h.1 h.2
theorem zeroFile (w : World) : (zeroValue 70).run Tryz.prog w = .ok (fileV (e0, e0)) w := by kernel_rfl
theorem zeroBool (w : World) : (zeroValue 4).run Tryz.prog w = .ok (.bool false) w := by kernel_rfl

/-- Where the parts of a disk lie. -/
structure DL where
  bf : Nat
  bs : Nat
  qA : Option Addr
  qc : Nat
  kA : Option Addr
  kc : Nat
def diskV (S : DS) (L : DL) : Array Value := #[.map (some L.bf), .slice L.qA S.queue.length L.qc, .map (some L.bs), .int .i64 S.lost, .bool S.down, .int .i64 S.armed, .slice L.kA S.keep.length L.kc]
def setF (q : List (Int × Int)) : Int × Int → Option Bool := fun x => if x ∈ q then some true else none
def DL.own (L : DL) (p : Nat) : Nat → Prop := fun i => i = p ∨ i = L.bf ∨ i = L.bs ∨ slBlk L.qA = some i
/-- The disk at p is S, and lies at L. -/
structure DK (w : World) (p : Nat) (S : DS) (L : DL) : Prop where
  wf : S.wf
  box : w.heap[p]? = some (.cells (diskV S L) 57 (0, 0))
  files : ∃ m, MapF w L.bf okI kvI fileV m ∧ S.files = fun f => (m f).getD (e0, e0)
  queue : OwnL w 0 93 2 secC L.qA L.qc S.queue
  set : MapF w L.bs okS secV Value.bool (setF S.queue)
  keep : RdL 1 intC w w.heap.size L.kA S.keep
  pf : p ≠ L.bf
  ps : p ≠ L.bs
  fs : L.bf ≠ L.bs
  qp : ∀ i, slBlk L.qA = some i → i ≠ p ∧ i ≠ L.bf ∧ i ≠ L.bs
  kp : ∀ i, slBlk L.kA = some i → ¬ L.own p i
  kl : ∀ i, slBlk L.kA = some i → i < w.heap.size
/-- The disk at p, which lay at L, is S now; nothing else that was there turned. -/
def Upd (p : Nat) (S : DS) (L : DL) (w w' : World) : Prop :=
  ∃ L', DK w' p S L' ∧ Turn (L.own p) w w' ∧ (∀ i, L'.own p i → L.own p i ∨ w.heap.size ≤ i) ∧ (∀ i, slBlk L'.kA = some i → slBlk L.kA = some i ∨ w.heap.size ≤ i)

section
variable {w w' : World} {p : Nat} {S : DS} {L : DL}
theorem DK.lt (h : DK w p S L) : ∀ i, L.own p i → i < w.heap.size := by
  obtain ⟨m, hm, _⟩ := h.files
  rintro i (rfl | rfl | rfl | hi)
  · exact box_lt h.box
  · exact hm.lt
  · exact h.set.lt
  · exact (h.queue.blk_lt hi).2
/-- The blocks of the disk stand: so does the disk. -/
theorem DK.turn (h : DK w p S L) (hb : ∀ i, L.own p i ∨ slBlk L.kA = some i → w'.heap[i]? = w.heap[i]?) (hs : w.heap.size ≤ w'.heap.size) : DK w' p S L := by
  obtain ⟨m, hm, hf⟩ := h.files
  exact ⟨h.wf, (hb p (.inl (.inl rfl))).trans h.box, ⟨m, hm.of_block (hb _ (.inl (.inr (.inl rfl)))), hf⟩, h.queue.turn (fun i hi _ => hb i (.inl (.inr (.inr (.inr hi))))), h.set.of_block (hb _ (.inl (.inr (.inr (.inl rfl))))),
    h.keep.turn (fun i hi _ => hb i (.inr hi)) hs, h.pf, h.ps, h.fs, h.qp, h.kp, fun i hi => Nat.lt_of_lt_of_le (h.kl i hi) hs⟩
theorem DK.frame {F : Nat → Prop} (h : DK w p S L) (ht : Turn F w w') (hF : ∀ i, L.own p i ∨ slBlk L.kA = some i → ¬ F i) : DK w' p S L := by
  refine h.turn (fun i hi => ht.block i ?_ (hF i hi)) ht.size
  rcases hi with hi | hi
  · exact h.lt i hi
  · exact h.kl i hi
theorem DK.below (h : DK w p S L) (hb : Below w.heap.size w w') : DK w' p S L := h.frame (F := fun _ => False) (Turn.below hb) (fun _ _ hf => hf)
theorem Upd.refl (h : DK w p S L) : Upd p S L w w := ⟨L, h, Turn.refl _ _, fun _ hi => .inl hi, fun _ hi => .inl hi⟩
theorem Upd.of_below (h : DK w p S L) (hb : Below w.heap.size w w') : Upd p S L w w' := ⟨L, h.below hb, Turn.below hb, fun _ hi => .inl hi, fun _ hi => .inl hi⟩
theorem Upd.trans {S2 : DS} {L1 : DL} {w1 w2 : World} (h1 : Turn (L.own p) w w1) (h2 : ∀ i, L1.own p i → L.own p i ∨ w.heap.size ≤ i) (h3 : ∀ i, slBlk L1.kA = some i → slBlk L.kA = some i ∨ w.heap.size ≤ i) (h : Upd p S2 L1 w1 w2) : Upd p S2 L w w2 := by
  obtain ⟨L2, d, t, o, k⟩ := h
  refine ⟨L2, d, h1.trans t h2, fun i hi => ?_, fun i hi => ?_⟩
  · rcases o i hi with h4 | h4
    · exact h2 i h4
    · exact .inr (Nat.le_trans h1.size h4)
  · rcases k i hi with h4 | h4
    · exact h3 i h4
    · exact .inr (Nat.le_trans h1.size h4)
/-- Only the box turned, and in it only the numbers. -/
theorem DK.scal (h : DK w p S L) (a : Int) (b : Bool) (c : Int) (hw : (DS.mk S.files S.queue a b c S.keep).wf) (hbox : w'.heap[p]? = some (.cells (diskV (DS.mk S.files S.queue a b c S.keep) L) 57 (0, 0))) (hg : w.grownBy w' (some p)) :
    DK w' p (DS.mk S.files S.queue a b c S.keep) L := by
  obtain ⟨m, hm, hf⟩ := h.files
  have hne : ∀ i, i < w.heap.size → i ≠ p → w'.heap[i]? = w.heap[i]? := fun i hi hn => hg.block i hi (fun e => hn (by injection e))
  exact ⟨hw, hbox, ⟨m, hm.of_block (hne _ hm.lt (fun e => h.pf e.symm)), hf⟩, h.queue.turn (fun i hi hl => hne i hl (h.qp i hi).1), h.set.of_block (hne _ h.set.lt (fun e => h.ps e.symm)),
    h.keep.turn (fun i hi hl => hne i hl (fun e => h.kp i hi (.inl e))) hg.size, h.pf, h.ps, h.fs, h.qp, h.kp, fun i hi => Nat.lt_of_lt_of_le (h.kl i hi) hg.size⟩
theorem Upd.scal (h : DK w p S L) (a : Int) (b : Bool) (c : Int) (hw : (DS.mk S.files S.queue a b c S.keep).wf) (hbox : w'.heap[p]? = some (.cells (diskV (DS.mk S.files S.queue a b c S.keep) L) 57 (0, 0))) (hg : w.grownBy w' (some p)) :
    Upd p (DS.mk S.files S.queue a b c S.keep) L w w' := ⟨L, h.scal a b c hw hbox hg, Turn.grown hg (fun k hk => by cases hk; exact .inl rfl), fun _ hi => .inl hi, fun _ hi => .inl hi⟩
end
section
variable {w : World} {p : Nat} {S : DS} {L : DL}
theorem DK.c0 (h : DK w p S L) : w.cell? ⟨p, 0, none⟩ = some (.map (some L.bf)) := box_cell h.box 0 _ rfl
theorem DK.c1 (h : DK w p S L) : w.cell? ⟨p, 1, none⟩ = some (.slice L.qA S.queue.length L.qc) := box_cell h.box 1 _ rfl
theorem DK.c2 (h : DK w p S L) : w.cell? ⟨p, 2, none⟩ = some (.map (some L.bs)) := box_cell h.box 2 _ rfl
theorem DK.c3 (h : DK w p S L) : w.cell? ⟨p, 3, none⟩ = some (.int .i64 S.lost) := box_cell h.box 3 _ rfl
theorem DK.c4 (h : DK w p S L) : w.cell? ⟨p, 4, none⟩ = some (.bool S.down) := box_cell h.box 4 _ rfl
theorem DK.c5 (h : DK w p S L) : w.cell? ⟨p, 5, none⟩ = some (.int .i64 S.armed) := box_cell h.box 5 _ rfl
theorem DK.c6 (h : DK w p S L) : w.cell? ⟨p, 6, none⟩ = some (.slice L.kA S.keep.length L.kc) := box_cell h.box 6 _ rfl
end

theorem dDown_any (p : Nat) (S : DS) (L : DL) (w : World) (h : DK w p S L) : Calls Tryz.prog 12 #[.pointer (some ⟨p, 0, none⟩)] w fun e w' => e = .returned (.bool S.down) ∧ w' = w := by
  have c4 := h.c4
  clear h
  go_enter Tryz.func12, Tryz.ntmps12
  go_wp2
  go_ret
  exact ⟨rfl, rfl⟩
theorem dStart_any (p : Nat) (S : DS) (L : DL) (w : World) (h : DK w p S L) : Calls Tryz.prog 29 #[.pointer (some ⟨p, 0, none⟩)] w fun e w' => e = .returned (.tuple #[]) ∧ Upd p S.start L w w' := by
  have c4 := h.c4
  have cz := fun j => box_free h.box j
  have H := Lib.hid h
  clear h
  go_enter Tryz.func29, Tryz.ntmps29
  go_wp2
  go_end0
  exact ⟨rfl, Upd.scal H.out S.lost false S.armed (DS.start_wf H.out.wf) (heap_setCell_same _ _ _ _ _ _ H.out.box) (grown_set _ _ _ _)⟩
theorem dLose_any (p : Nat) (S : DS) (L : DL) (w : World) (n : Int) (hn : inI64 n) (h : DK w p S L) : Calls Tryz.prog 26 #[.pointer (some ⟨p, 0, none⟩), .int .i64 n] w fun e w' => e = .returned (.tuple #[]) ∧ Upd p (S.lose n) L w w' := by
  have c3 := h.c3
  have cz := fun j => box_free h.box j
  have H := Lib.hid h
  have HW := Lib.hid (DS.lose_wf h.wf n hn)
  clear h
  rcases Int.lt_or_le n 0 with h0 | h0
  · have HT : Hid (S.lose n = ⟨S.files, S.queue, 0, S.down, S.armed, S.keep⟩) := Lib.hid (by unfold DS.lose; rw [Int.max_eq_right (by omega)])
    rw [HT.out] at HW
    go_enter Tryz.func26, Tryz.ntmps26
    go_wp2
    all_goals go_end0
    all_goals exact ⟨rfl, by rw [HT.out]; exact Upd.scal H.out 0 S.down S.armed HW.out (heap_setCell_same _ _ _ _ _ _ H.out.box) (grown_set _ _ _ _)⟩
  · have HT : Hid (S.lose n = ⟨S.files, S.queue, n, S.down, S.armed, S.keep⟩) := Lib.hid (by unfold DS.lose; rw [Int.max_eq_left h0])
    rw [HT.out] at HW
    go_enter Tryz.func26, Tryz.ntmps26
    go_wp2
    all_goals first
      | (exfalso; omega)
      | (go_end0; exact ⟨rfl, by rw [HT.out]; exact Upd.scal H.out n S.down S.armed HW.out (heap_setCell_same _ _ _ _ _ _ H.out.box) (grown_set _ _ _ _)⟩)
theorem dMay_any (p : Nat) (S : DS) (L : DL) (w : World) (f : Int) (h : DK w p S L) : Calls Tryz.prog 37 #[.pointer (some ⟨p, 0, none⟩), .int .i64 f] w fun e w' => e = .returned (.int .i64 (S.may f)) ∧ w' = w := by
  have c4 := h.c4
  clear h
  go_enter Tryz.func37, Tryz.ntmps37
  go_wp2
  all_goals go_ret
  all_goals refine ⟨ret_int ?_, rfl⟩
  all_goals unfold DS.may
  all_goals first
    | (rw [if_pos (by assumption)]; done)
    | (rw [if_neg (by simp_all), if_pos (by omega)]; done)
    | (rw [if_neg (by simp_all), if_neg (by omega)]; done)
theorem dEnds_any (p : Nat) (S : DS) (L : DL) (w : World) (h : DK w p S L) : Calls Tryz.prog 64 #[.pointer (some ⟨p, 0, none⟩)] w fun e w' => e = .returned (.bool S.endsB) ∧ Upd p S.tick L w w' := by
  have c4 := h.c4
  have c5 := h.c5
  have cz := fun j => box_free h.box j
  have H := Lib.hid h
  have HW := Lib.hid (DS.tick_wf h.wf)
  have h0 := h.wf.armed0
  have h1 := h.wf.armed1
  unfold inI64 at h1
  clear h
  by_cases hd : S.down = true ∨ S.armed = 0
  · have he : S.endsB = false := by
      unfold DS.endsB
      rcases hd with h | h <;> simp [h]
    have HT : Hid (S.tick = S) := Lib.hid (by unfold DS.tick; rw [if_pos hd])
    rw [he]
    go_enter Tryz.func64, Tryz.ntmps64
    rcases hd with h | h
    · rw [h] at c4
      go_wp2
      go_ret
      exact ⟨rfl, by rw [HT.out]; exact Upd.refl H.out⟩
    · rw [h] at c5
      go_wp2
      all_goals go_ret
      all_goals exact ⟨rfl, by rw [HT.out]; exact Upd.refl H.out⟩
  · have hd1 : S.down = false := by cases hq : S.down <;> simp_all
    have hd2 : (S.armed == 0) = false := by simp_all
    have he : S.endsB = (S.armed - 1 == 0) := by
      unfold DS.endsB
      rw [hd1, Bool.eq_iff_iff]
      simp
      omega
    have HT : Hid (S.tick = ⟨S.files, S.queue, S.lost, S.down, S.armed - 1, S.keep⟩) := Lib.hid (by unfold DS.tick; rw [if_neg hd])
    rw [HT.out] at HW
    rw [hd1] at c4
    rw [he]
    clear he hd
    go_enter Tryz.func64, Tryz.ntmps64
    go_wp2
    all_goals go_ret
    all_goals exact ⟨rfl, by rw [HT.out]; exact Upd.scal H.out S.lost S.down (S.armed - 1) HW.out (heap_setCell_same _ _ _ _ _ _ H.out.box) (grown_set _ _ _ _)⟩
end Go.Proofs.YtjmkodkechahdaaGreatDoor
/- Contracts of Size, Read and Arm of a disk, and of slices.Clone at ints and sectors. -/
set_option linter.unusedSimpArgs false
set_option linter.unusedVariables false
namespace Go.Proofs.YtjmkodkechahdaaGreatDoor
open Go.RowKit
set_option maxRecDepth 100000

section
variable {w : World} {p : Nat} {S : DS} {L : DL}
theorem DK.look (h : DK w p S L) (f : Int) (hf : inI64 f) : (Instr.lookup 53 (.map (some L.bf)) (.int .i64 f) false).run Tryz.prog w = .ok (.agg #[.string (S.files f).1, .string (S.files f).2]) w := by
  obtain ⟨m, hm, hS⟩ := h.files
  have := hm.look keyI Tryz.underlying53 (zeroFile w) f hf false
  unfold kvI at this
  have hSf : S.files f = (m f).getD (e0, e0) := by rw [hS]
  rw [this, hSf]
  rcases m f with _ | x <;> rfl
theorem DK.lookS (h : DK w p S L) (x : Int × Int) (hx : okS x) : (Instr.lookup 54 (.map (some L.bs)) (.agg #[.int .i64 x.1, .int .i64 x.2]) false).run Tryz.prog w = .ok (.bool (decide (x ∈ S.queue))) w := by
  have := h.set.look keyS Tryz.underlying54 (zeroBool w) x hx false
  unfold secV at this
  rw [this]
  unfold setF
  by_cases hq : x ∈ S.queue <;> simp [hq]
end
theorem fieldFile0 (a b : ByteArray) (w : World) : (Instr.field 70 (.agg #[.string a, .string b]) 0).run Tryz.prog w = .ok (.string a) w := by kernel_rfl
theorem dSize_any (p : Nat) (S : DS) (L : DL) (w : World) (f : Int) (hf : inI64 f) (h : DK w p S L) : Calls Tryz.prog 15 #[.pointer (some ⟨p, 0, none⟩), .int .i64 f] w fun e w' => e = .returned (.int .i64 (S.files f).1.size) ∧ w' = w := by
  have c0 := h.c0
  have q := h.look f hf
  have q2 := fun a b => fieldFile0 a b w
  clear h
  go_enter Tryz.func15, Tryz.ntmps15
  go_wp2
  go_ret
  exact ⟨rfl, rfl⟩
theorem extract_all (s : ByteArray) (n : Nat) (h : s.size ≤ n) : s.extract 0 n = s := by
  apply ByteArray.ext
  rw [ByteArray.data_extract, Array.extract_eq_self_of_le (show s.data.size ≤ n from h)]
theorem extract_size (s : ByteArray) (i j : Nat) : (s.extract i j).size = min j s.size - i := ByteArray.size_extract
def readX (x : ByteArray) (a n : Int) : ByteArray := (x.extract (min a x.size).toNat x.size).extract 0 (min n (x.extract (min a x.size).toNat x.size).size).toNat
theorem readX_out (x : ByteArray) (a n : Int) (h : (x.size : Int) ≤ a) : readX x a n = ByteArray.empty := by
  have h1 : (readX x a n).size = 0 := by
    unfold readX
    rw [extract_size, extract_size]
    omega
  exact str_eq0 h1
theorem readX_end (x : ByteArray) (a n : Int) (h : a ≤ x.size) (hn : ((x.size - a.toNat : Nat) : Int) ≤ n) : readX x a n = (x.extract a.toNat x.size).extract 0 (x.size - a.toNat) := by
  unfold readX
  rw [Int.min_eq_left h, extract_size, Nat.min_self, Int.min_eq_right hn]
  rfl
theorem readX_part (x : ByteArray) (a n : Int) (h : a ≤ x.size) (hn : n ≤ ((x.size - a.toNat : Nat) : Int)) : readX x a n = (x.extract a.toNat x.size).extract 0 n.toNat := by
  unfold readX
  rw [Int.min_eq_left h, extract_size, Nat.min_self, Int.min_eq_left hn]
theorem ret_str2 {a b : ByteArray} {c : Int} (h : a = b) : Ending.returned (.tuple #[.string a, .int .i64 c]) = .returned (.tuple #[.string b, .int .i64 c]) := by rw [h]
theorem empty_extract (i j : Nat) : ByteArray.empty.extract i j = ByteArray.empty := by
  refine str_eq0 ?_
  rw [extract_size]
  show min j 0 - i = 0
  omega
theorem dRead_any (p : Nat) (S : DS) (L : DL) (w : World) (f a n : Int) (hf : inI64 f) (h : DK w p S L) :
    Calls Tryz.prog 14 #[.pointer (some ⟨p, 0, none⟩), .int .i64 f, .int .i64 a, .int .i64 n] w fun e w' => e = .returned (.tuple #[.string (S.readS f a n), .int .i64 (S.readC f a n)]) ∧ w' = w := by
  have c0 := h.c0
  have q := h.look f hf
  have q2 := fun a b => fieldFile0 a b w
  have H := Lib.hid h
  have hnow := h.wf.now f
  clear h
  generalize hc : S.may f = c
  have HM := Lib.hid hc
  clear hc
  by_cases h0 : c = 0
  · subst h0
    by_cases h1 : a < 0 ∨ n < 0
    · have hC : S.readC f a n = 1 := by unfold DS.readC; rw [HM.out, if_neg (by omega), if_pos h1]
      have hS : S.readS f a n = e0 := by unfold DS.readS; rw [hC]; rfl
      rw [hS, hC]
      clear hS hC
      go_enter Tryz.func14, Tryz.ntmps14
      go_wp2_with (go_at_call 37; refine (dMay_any p S L w f H.out).mono ?_; rintro e w1 ⟨rfl, rfl⟩; rw [HM.out])
      all_goals first
        | (exfalso; omega)
        | (go_ret2; exact ⟨rfl, rfl⟩)
    · have hC : S.readC f a n = 0 := by unfold DS.readC; rw [HM.out, if_neg (by omega), if_neg h1]
      have HS : Hid (S.readS f a n = ((S.files f).1.extract (min a (S.files f).1.size).toNat (S.files f).1.size).extract 0 (min n ((S.files f).1.extract (min a (S.files f).1.size).toNat (S.files f).1.size).size).toNat) := Lib.hid (by unfold DS.readS; rw [hC, if_neg (by omega)])
      rw [hC]
      clear hC
      generalize hx : (S.files f).1 = x at *
      have hsz := fun i j => extract_size x i j
      go_enter Tryz.func14, Tryz.ntmps14
      go_wp2_with (go_at_call 37; refine (dMay_any p S L w f H.out).mono ?_; rintro e w1 ⟨rfl, rfl⟩; rw [HM.out])
      all_goals go_ret2
      all_goals refine ⟨?_, rfl⟩
      all_goals rw [HS.out]
      all_goals refine ret_str2 (Eq.trans ?_ (show readX x a n = _ from rfl))
      all_goals first
        | (rw [readX_out x a n (by omega)]; first | done | exact empty_extract _ _)
        | (rw [readX_end x a n (by omega) (by omega)]; done)
        | (rw [readX_part x a n (by omega) (by omega)]; done)
        | done
  · have hC : S.readC f a n = c := by unfold DS.readC; rw [HM.out, if_pos h0]
    have hS : S.readS f a n = e0 := by unfold DS.readS; rw [hC, if_pos h0]
    have h2 : (c == 0) = false := by simpa using h0
    rw [hS, hC]
    clear hS hC
    go_enter Tryz.func14, Tryz.ntmps14
    go_wp2_with (go_at_call 37; refine (dMay_any p S L w f H.out).mono ?_; rintro e w1 ⟨rfl, rfl⟩; rw [HM.out])
    all_goals go_ret2
    all_goals exact ⟨rfl, rfl⟩

/-! slices.Clone -/
theorem equalIn_slice_nil {P : Program} (w : World) (d : Nat) (t e : TypeId) (a : Option Addr) (l c : Nat) (h : P.underlying t = some (.slice e)) : (Op.equalIn (d + 1) t (.slice a l c) (.slice none 0 0)).run P w = .ok a.isNone w := by
  cases a <;> simp [Op.equalIn, run_underlying h]
theorem run_eql_slice_nil_at {P : Program} (w : World) (t e : TypeId) (a : Option Addr) (l c : Nat) (h : P.underlying t = some (.slice e)) : (binOp .eql t (.slice a l c) (.slice none 0 0)).run P w = .ok (.bool a.isNone) w := by
  simp [binOp, show Op.equal t (.slice a l c) (.slice none 0 0) = Op.equalIn (9999 + 1) t (.slice a l c) (.slice none 0 0) from rfl, equalIn_slice_nil w 9999 t e a l c h]
set_option maxHeartbeats 1000000 in
theorem cloneI_any (xs : List (Int)) (A : Option Addr) (n c : Nat) (w : World) (hn : n = xs.length) (hr : RdL 1 intC w w.heap.size A xs) (hm : xs.length ≤ 4194320) :
    Calls Tryz.prog 66 #[.slice A n c] w fun e w' => ∃ A' c', e = .returned (.slice A' xs.length c') ∧ OwnL w' w.heap.size 3 1 intC A' c' xs ∧ Below w.heap.size w w' := by
  subst hn
  have hq := @run_eql_slice_nil_at Tryz.prog
  rcases A with _ | a
  · obtain rfl : xs = [] := by
      rcases xs with _ | ⟨x, r⟩
      · rfl
      · obtain ⟨b, off, h, _⟩ := hr 0 x rfl
        cases h
    have q := hq w 31 3 none 0 c Tryz.underlying31
    clear hq
    go_enter Tryz.func66, Tryz.ntmps66
    go_wp2
    go_ret
    exact ⟨none, 0, rfl, OwnL.nil_, Below.refl _ _⟩
  · have q := hq w 31 3 (some a) xs.length c Tryz.underlying31
    clear hq
    have HO := Lib.hid (OwnL.empty (T := (Int)) (sz := 1) (enc := intC) w 3 w.heap.size (Nat.le_refl _) _ rfl)
    have HR := Lib.hid (hr.now ((Below.refl _ _).alloc (Nat.le_refl _) (.cells #[] 3)))
    go_enter Tryz.func66, Tryz.ntmps66
    go_wp2_with (at_builtin; refine wp_append_l rfl (.tmp 5) (.tmp 6) rfl slIntC intLayC w.heap.size (xs := ([] : List (Int))) (ys := xs) rfl rfl HO.out rfl rfl HR.out (by simp; omega) (by simp) ?_; intro A2 c2 w2 hown hg hb hat; have HO2 := Lib.hid hown; have HB2 := Lib.hid hb; clear hown hg hb hat)
    go_ret
    exact ⟨A2, c2, rfl, HO2.out, ((Below.refl _ _).alloc (Nat.le_refl _) _).trans HB2.out⟩
theorem DK.rekeep {w w' : World} {p : Nat} {S : DS} {L : DL} (h : DK w p S L) (ht : Turn (fun i => i = p) w w') (a : Int) (b : Bool) (c : Int) (keep : List Int) (kA : Option Addr) (kc : Nat) (hw : (DS.mk S.files S.queue a b c keep).wf)
    (hbox : w'.heap[p]? = some (.cells (diskV (DS.mk S.files S.queue a b c keep) ⟨L.bf, L.bs, L.qA, L.qc, kA, kc⟩) 57 (0, 0))) (hk : RdL 1 intC w' w'.heap.size kA keep) (hn : ∀ i, slBlk kA = some i → w.heap.size ≤ i ∧ i < w'.heap.size) :
    Upd p (DS.mk S.files S.queue a b c keep) L w w' := by
  obtain ⟨m, hm, hf⟩ := h.files
  refine ⟨⟨L.bf, L.bs, L.qA, L.qc, kA, kc⟩, ⟨hw, hbox, ⟨m, hm.of_block (ht.block _ hm.lt (fun e => h.pf e.symm)), hf⟩, h.queue.turn (fun i hi hl => ht.block i hl (h.qp i hi).1), h.set.of_block (ht.block _ h.set.lt (fun e => h.ps e.symm)),
    hk, h.pf, h.ps, h.fs, h.qp, fun i hi ho => ?_, fun i hi => (hn i hi).2⟩, ht.mono (fun i hi => by subst hi; exact .inl (.inl rfl)), fun i hi => .inl hi, fun i hi => .inr (hn i hi).1⟩
  have := h.lt i ho
  have := (hn i hi).1
  omega
set_option maxHeartbeats 1000000 in
theorem dArm_any (p : Nat) (S : DS) (L : DL) (w : World) (n : Int) (hn : inI64 n) (keep : List Int) (A : Option Addr) (k c : Nat) (hk : k = keep.length) (hr : RdL 1 intC w w.heap.size A keep) (hm : keep.length ≤ 4194320) (hki : ∀ x ∈ keep, inI64 x) (h : DK w p S L) :
    Calls Tryz.prog 27 #[.pointer (some ⟨p, 0, none⟩), .int .i64 n, .slice A k c] w fun e w' => e = .returned (.tuple #[]) ∧ Upd p (S.arm n keep) L w w' := by
  subst hk
  have H := Lib.hid h
  have HR := Lib.hid hr
  have HW := Lib.hid (DS.arm_wf h.wf n keep hn hki)
  clear h hr hki
  obtain ⟨N, HN⟩ : ∃ N, Hid (max n 0 = N) := ⟨_, rfl⟩
  have HT : Hid (S.arm n keep = ⟨S.files, S.queue, S.lost, S.down, N, keep⟩) := Lib.hid (by unfold DS.arm; rw [HN.out])
  rw [HT.out] at HW
  have HE : Hid ((0 ≤ n ∧ N = n) ∨ (n ≤ 0 ∧ N = 0)) := Lib.hid (by have := HN.out; omega)
  go_enter Tryz.func27, Tryz.ntmps27
  go_wp2_with (go_at_call 66; refine (cloneI_any keep A keep.length c w rfl HR.out hm).mono ?_; rintro e w1 ⟨A1, c1, rfl, hown, hb⟩; have hbox := (H.out.below hb).box; have cz := fun j => box_free hbox j; have c5 := (H.out.below hb).c5; have c6 := (H.out.below hb).c6; have HO := Lib.hid hown; have HB := Lib.hid hb; have HX := Lib.hid hbox; clear hown hb hbox)
  all_goals go_end0
  all_goals refine ⟨rfl, ?_⟩
  all_goals rw [HT.out]
  all_goals refine DK.rekeep H.out (((Turn.below (F := fun i => i = p) HB.out).set p 5 _ (.inl rfl)).set p 6 _ (.inl rfl)) S.lost S.down N keep A1 c1 HW.out ((heap_setCell_same _ p 6 _ _ _ (heap_setCell_same _ p 5 _ _ _ HX.out)).trans ?_) ((HO.out.rd intLayC).turn (fun i hi hl => ?_) (by simp [World.setCell])) (fun i hi => ⟨(HO.out.blk_lt hi).1, by have := (HO.out.blk_lt hi).2; simpa [World.setCell] using this⟩)
  all_goals first
    | (have e : N = n := by have := HE.out; omega
       rw [e]
       rfl)
    | (have e : N = 0 := by have := HE.out; omega
       rw [e]
       rfl)
    | (have hp := box_lt H.out.box
       have h1 := (HO.out.blk_lt hi).1
       rw [heap_setCell_other _ _ _ _ (by show i ≠ p; omega), heap_setCell_other _ _ _ _ (by show i ≠ p; omega)])
end Go.Proofs.YtjmkodkechahdaaGreatDoor
/- Contracts of slices.IndexFunc and slices.DeleteFunc at sectors, and of the closures of settle. -/
set_option linter.unusedSimpArgs false
set_option linter.unusedVariables false
namespace Go.Proofs.YtjmkodkechahdaaGreatDoor
open Go.RowKit
set_option maxRecDepth 100000

theorem clo1_any (p : Int × Int) (f : Int) (b : Nat) (w : World) (hb : w.cell? ⟨b, 0, none⟩ = some (.int .i64 f)) (hl : b < w.heap.size) :
    Calls Tryz.prog 104 #[.agg #[.int .i64 p.1, .int .i64 p.2], .pointer (some ⟨b, 0, none⟩)] w fun e w' => e = .returned (.bool (p.1 == f)) ∧ Below w.heap.size w w' := by
  go_enter Tryz.func104, Tryz.ntmps104
  go_wp2
  go_ret
  exact ⟨rfl, by repeat (first | with_reducible exact Below.refl _ _ | with_reducible assumption | with_reducible refine Below.drew ?_ | with_reducible refine Below.alloc ?_ (by first | omega | (simp; done) | (simp; omega)) _)⟩
theorem clo2_any (p : Int × Int) (x : Bool) (f : Int) (b : Nat) (w : World) (hb : w.cell? ⟨b, 0, none⟩ = some (.int .i64 f)) (hl : b < w.heap.size) :
    Calls Tryz.prog 106 #[.agg #[.int .i64 p.1, .int .i64 p.2], .bool x, .pointer (some ⟨b, 0, none⟩)] w fun e w' => e = .returned (.bool (p.1 == f)) ∧ Below w.heap.size w w' := by
  go_enter Tryz.func106, Tryz.ntmps106
  go_wp2
  go_ret
  exact ⟨rfl, by repeat (first | with_reducible exact Below.refl _ _ | with_reducible assumption | with_reducible refine Below.drew ?_ | with_reducible refine Below.alloc ?_ (by first | omega | (simp; done) | (simp; omega)) _)⟩
theorem RdL.sec {w : World} {B : Nat} {A : Option Addr} {xs : List (Int × Int)} (h : RdL 2 secC w B A xs) {k : Nat} (hk : k < xs.length) : ∃ b off, A = some ⟨b, off, none⟩ ∧ b < B ∧ w.cell? ⟨b, off + k * 2, none⟩ = some (.int .i64 xs[k].1) ∧ w.cell? ⟨b, off + k * 2 + 1, none⟩ = some (.int .i64 xs[k].2) := by
  obtain ⟨b, off, e, hb, hc⟩ := h.at_ hk
  exact ⟨b, off, e, hb, hc 0 _ rfl, hc 1 _ rfl⟩
def idxOf (f : Int) (q : List (Int × Int)) : Int := match q.findIdx? (fun p => p.1 == f) with
  | some i => (i : Int)
  | none => -1
theorem idxOf_hit (f : Int) (q : List (Int × Int)) (k : Nat) (hk : k < q.length) (hn : ∀ p ∈ q.take k, (p.1 == f) = false) (h : (q[k].1 == f) = true) : idxOf f q = k := by
  unfold idxOf
  rw [List.findIdx?_eq_some_iff_getElem.2 ⟨hk, h, fun j hj => ?_⟩]
  have := hn q[j] (List.mem_take_iff_getElem.2 ⟨j, by omega, rfl⟩)
  simpa using this
theorem idxOf_none (f : Int) (q : List (Int × Int)) (hn : ∀ p ∈ q, (p.1 == f) = false) : idxOf f q = -1 := by
  unfold idxOf
  rw [List.findIdx?_eq_none_iff.2 hn]
theorem take_step {T : Type} (P : T → Prop) (q : List T) (k : Nat) (hk : k < q.length) (h : ∀ p ∈ q.take k, P p) (h1 : P q[k]) : ∀ p ∈ q.take (k + 1), P p := by
  intro p hp
  rw [List.take_succ_eq_append_getElem hk, List.mem_append, List.mem_singleton] at hp
  rcases hp with hp | rfl
  · exact h p hp
  · exact h1
set_option maxHeartbeats 1000000 in
theorem idxFn_any (q : List (Int × Int)) (A : Option Addr) (c : Nat) (f : Int) (b : Nat) (w : World) (hr : RdL 2 secC w w.heap.size A q) (hm : q.length ≤ 4194320) (hb : w.cell? ⟨b, 0, none⟩ = some (.int .i64 f)) (hl : b < w.heap.size) :
    Calls Tryz.prog 116 #[.slice A q.length c, .func (.func 104) #[] #[.pointer (some ⟨b, 0, none⟩)]] w fun e w' => e = .returned (.int .i64 (idxOf f q)) ∧ Below w.heap.size w w' := by
  have HR := Lib.hid hr
  have HB := Lib.hid hb
  clear hr hb
  go_enter Tryz.func116, Tryz.ntmps116
  go_wp2
  go_loopw [5, 8] (fun _ i wr => ∃ k : Nat, k ≤ q.length ∧ i = .int .i64 k ∧ (∀ p ∈ q.take k, (p.1 == f) = false) ∧ Below w.heap.size w wr) (fun _ i _ => q.length - (intOf i).toNat)
  case atStart => exact ⟨0, Nat.zero_le _, rfl, fun p hp => by simp at hp, Below.refl _ _⟩
  case round =>
    obtain ⟨k, hk, rfl, hf, hbw⟩ := hrel
    have HF := Lib.hid hf
    clear hf
    by_cases hlt : k < q.length
    · obtain ⟨g, off, rfl, hg, c0, c1⟩ := (HR.out.below hbw).sec hlt
      have hbc : wr.cell? ⟨b, 0, none⟩ = some (.int .i64 f) := (hbw.cell (p := ⟨b, 0, none⟩) hl).trans HB.out
      have hbl : b < wr.heap.size := Nat.lt_of_lt_of_le hl hbw.size
      have hc := clo1_any q[k] f b wr hbc hbl
      have HC := Lib.hid hc
      clear hc hbc
      cases hv : (q[k].1 == f)
      · rw [hv] at HC
        go_wp2_with fail
        refine HC.out.mono ?_
        rintro e w1 ⟨rfl, hb1⟩
        go_wp2
        go_roundw
        case rel => exact ⟨k + 1, by omega, by go_num, take_step _ q k hlt HF.out hv, hbw.trans (hb1.mono hbw.size)⟩
        case measure => simp [intOf]; omega
      · rw [hv] at HC
        go_wp2_with fail
        refine HC.out.mono ?_
        rintro e w1 ⟨rfl, hb1⟩
        go_wp2
        go_ret
        exact ⟨by rw [idxOf_hit f q k hlt HF.out hv]; rfl, hbw.trans (hb1.mono hbw.size)⟩
    · go_wp2
      go_ret
      refine ⟨?_, hbw⟩
      rw [idxOf_none f q (fun p hp => HF.out p (by rw [List.take_of_length_le (by omega)]; exact hp))]
      rfl

theorem box_new {w w' : World} {o : Obj} (hb : Below (w.alloc o).heap.size (w.alloc o) w') : w'.heap[w.heap.size]? = some o := by
  rw [hb.block w.heap.size (by simp)]
  exact heap_alloc_new w o
def notF (f : Int) : Int × Int → Bool := fun p => !(p.1 == f)
theorem filter_all {T : Type} (P : T → Bool) (l : List T) (h : ∀ x ∈ l, P x = true) : l.filter P = l := List.filter_eq_self.2 h
theorem idx_split (f : Int) (q : List (Int × Int)) : (idxOf f q = -1 ∧ q.filter (notF f) = q) ∨ ∃ k, k < q.length ∧ idxOf f q = (k : Int) ∧ (q.take (k + 1)).filter (notF f) = q.take k := by
  rcases hf : q.findIdx? (fun p => p.1 == f) with _ | k
  · have hn := List.findIdx?_eq_none_iff.1 hf
    exact .inl ⟨idxOf_none f q hn, filter_all _ _ (fun x hx => by have := hn x hx; simp only [notF]; rw [this]; rfl)⟩
  · obtain ⟨hk, h1, h2⟩ := List.findIdx?_eq_some_iff_getElem.1 hf
    refine .inr ⟨k, hk, by unfold idxOf; rw [hf], ?_⟩
    rw [List.take_succ_eq_append_getElem hk, List.filter_append, filter_all, List.filter_cons_of_neg (by simp only [notF]; rw [h1]; simp)]
    · simp
    · intro x hx
      obtain ⟨j, hj, rfl⟩ := List.mem_take_iff_getElem.1 hx
      have := h2 j (by omega)
      simp only [notF]
      simpa using this
theorem filter_step {T : Type} (P : T → Bool) (q : List T) (j : Nat) (hj : j < q.length) : (q.take (j + 1)).filter P = if P q[j] = true then (q.take j).filter P ++ [q[j]] else (q.take j).filter P := by
  rw [List.take_succ_eq_append_getElem hj, List.filter_append]
  by_cases h : P q[j] = true <;> simp [h]
/-- The row under way: i elements kept, j looked at. -/
structure Half (f : Int) (q xs : List (Int × Int)) (i j : Nat) : Prop where
  len : xs.length = q.length
  ij : i < j
  jn : j ≤ q.length
  kept : xs.take i = (q.take j).filter (notF f)
  rest : xs.drop j = q.drop j
theorem Half.at_ {f : Int} {q xs : List (Int × Int)} {i j : Nat} (h : Half f q xs i j) (hj : j < q.length) (hx : j < xs.length) : xs[j] = q[j] := by
  have h1 : (xs.drop j)[0]? = (q.drop j)[0]? := by rw [h.rest]
  rw [List.getElem?_drop, List.getElem?_drop, Nat.add_zero, List.getElem?_eq_getElem hx, List.getElem?_eq_getElem hj] at h1
  exact Option.some.inj h1
theorem Half.skip {f : Int} {q xs : List (Int × Int)} {i j : Nat} (h : Half f q xs i j) (hj : j < q.length) (hv : (q[j].1 == f) = true) : Half f q xs i (j + 1) := by
  refine ⟨h.len, by have := h.ij; omega, hj, ?_, ?_⟩
  · rw [filter_step _ _ _ hj, if_neg (by simp only [notF]; rw [hv]; simp), h.kept]
  · rw [← List.drop_drop, ← List.drop_drop, h.rest]
theorem Half.take {f : Int} {q xs : List (Int × Int)} {i j : Nat} (h : Half f q xs i j) (hj : j < q.length) (hv : (q[j].1 == f) = false) : Half f q (xs.set i q[j]) (i + 1) (j + 1) := by
  have h1 := h.ij
  have h2 := h.len
  refine ⟨by rw [List.length_set, h.len], by omega, hj, ?_, ?_⟩
  · rw [filter_step _ _ _ hj, if_pos (by simp only [notF]; rw [hv]; rfl), ← h.kept, List.take_succ_eq_append_getElem (by rw [List.length_set]; omega), List.take_set_of_le (Nat.le_refl _), List.getElem_set_self]
  · rw [List.drop_set_of_lt (by omega), ← List.drop_drop, ← List.drop_drop, h.rest]
theorem oneSec : ∀ z, (Tryz.prog.info? 93).bind (·.zero) = some z → ∀ u ∈ z.cells.toList, u.oneCell' = true := by
  intro z hz
  have h0 : (Tryz.prog.info? 93).bind (·.zero) = some (.agg #[.int .i64 0, .int .i64 0]) := by kernel_rfl
  rw [h0] at hz
  injection hz with hz
  subst hz
  decide
set_option maxHeartbeats 2000000 in
theorem delFn_any (q : List (Int × Int)) (A : Option Addr) (c : Nat) (f : Int) (b : Nat) (w : World) (hown : OwnL w 0 93 2 secC A c q) (hm : q.length ≤ 4194320) (hb : w.cell? ⟨b, 0, none⟩ = some (.int .i64 f)) (hl : b < w.heap.size) (hne : slBlk A ≠ some b) :
    Calls Tryz.prog 103 #[.slice A q.length c, .func (.func 104) #[] #[.pointer (some ⟨b, 0, none⟩)]] w fun e w' => e = .returned (.slice A (q.filter (notF f)).length c) ∧ OwnL w' 0 93 2 secC A c (q.filter (notF f)) ∧ w.grownBy w' (slBlk A) := by
  have hi := idxFn_any q A c f b w (hown.rd secLay) hm hb hl
  have HO := Lib.hid hown
  have HB := Lib.hid hb
  have HI := Lib.hid hi
  clear hown hb hi
  rcases idx_split f q with ⟨h1, h2⟩ | ⟨k, hk, h1, h2⟩
  · rw [h1] at HI
    rw [h2]
    clear h1 h2
    go_enter Tryz.func103, Tryz.ntmps103
    go_wp2_with (go_at_call 116; refine HI.out.mono ?_; rintro e w1 ⟨rfl, hb1⟩)
    go_ret
    exact ⟨rfl, HO.out.below hb1, grown_of_below hb1 _⟩
  · rw [h1] at HI
    clear h1
    have HS := Lib.hid h2
    clear h2
    obtain ⟨g, rfl⟩ : ∃ g, A = some ⟨g, 0, none⟩ := by
      rcases HO.out.2 with ⟨hv, hn⟩ | ⟨g, cap, cur, hv, _⟩
      · rw [hn] at hk
        omega
      · injection hv with e1
        exact ⟨g, e1⟩
    have hk1 : ((k : Int) == -1) = false := by
      rw [beq_eq_false_iff_ne]
      omega
    go_enter Tryz.func103, Tryz.ntmps103
    go_wp2_with (go_at_call 116; refine HI.out.mono ?_; rintro e w1 ⟨rfl, hb1⟩)
    go_loopw [5, 6, 7] (fun i j _ wr => ∃ (ii jj : Nat) (xs : List (Int × Int)), i = .int .i64 ii ∧ j = .int .i64 jj ∧ Half f q xs ii jj ∧ OwnL wr 0 93 2 secC (some ⟨g, 0, none⟩) c xs ∧ w.grownBy wr (some g)) (fun _ j _ _ => q.length - (intOf j).toNat)
    case atStart => exact ⟨k, k + 1, q, rfl, by go_num, ⟨rfl, by omega, hk, HS.out.symm, rfl⟩, HO.out.below hb1, grown_of_below hb1 _⟩
    case round =>
      obtain ⟨ii, jj, xs, rfl, rfl, hh, hox, hgw⟩ := hrel
      have hij := hh.ij
      have hjn := hh.jn
      have hxl := hh.len
      have HH := Lib.hid hh
      have HX := Lib.hid hox
      clear hh
      by_cases hlt : jj < q.length
      · obtain ⟨g', off, hgo, hg, c0, c1⟩ := (hox.rd secLay).sec (by omega : jj < xs.length)
        injection hgo with hgo
        injection hgo with hgo1 hgo2
        subst hgo1 hgo2
        rw [HH.out.at_ hlt (by omega), Nat.zero_add] at c0 c1
        have hsz := hgw.size
        have hgb : slBlk (some (⟨g, 0, none⟩ : Addr)) ≠ some b := hne
        have hbc : wr.cell? ⟨b, 0, none⟩ = some (.int .i64 f) := (grown_cell hgw hl (fun e => hgb (by rw [e]; rfl)) 0).trans HB.out
        have HBC := Lib.hid hbc
        clear hbc hox
        go_wp2_with fail
        refine (clo1_any q[jj] f b _ ?_ ?_).mono ?_
        · exact (cell_old _ _ _ _ (by omega)).trans HBC.out
        · simp
          omega
        rintro e w2 ⟨rfl, hb2⟩
        have HX2 := Lib.hid ((HX.out.alloc (.cells #[.int .i64 q[jj].1, .int .i64 q[jj].2] 93)).below hb2)
        have HG2 := Lib.hid (hgw.andThen (grown_of_below (((Below.refl wr.heap.size wr).alloc (Nat.le_refl _) _).trans (hb2.mono (by simp))) none) (fun _ h => by cases h))
        have d0 := box_cell (box_new hb2) 0 _ rfl
        have d1 := box_cell (box_new hb2) 1 _ rfl
        clear hb2
        have hix : ii < xs.length := by omega
        cases hv : (q[jj].1 == f)
        · have HT := Lib.hid (HH.out.take hlt hv)
          go_wp2_with ((with_reducible show wpList _ _ _ (Oper.mk none (Op.store 93 _ _) _ _ _ _ :: _) _ _); refine wp_store_l rfl _ _ rfl slSec secLay HX2.out ii hix _ rfl rfl q[jj] _ rfl rfl ?_; intro w3 hown3 hg3; have HX3 := Lib.hid hown3; have HG3 := Lib.hid (HG2.out.andThen hg3 (fun j h => .inr (by rw [h]))); clear hown3 hg3)
          go_roundw
          case rel => exact ⟨ii + 1, jj + 1, _, by go_num, by go_num, HT.out, HX3.out, HG3.out⟩
          case measure => simp [intOf]; omega
        · have HT := Lib.hid (HH.out.skip hlt hv)
          go_wp2
          go_roundw
          case rel => exact ⟨ii, jj + 1, xs, rfl, by go_num, HT.out, HX2.out, HG2.out⟩
          case measure => simp [intOf]; omega
      · have hjq : jj = q.length := by omega
        have hkept : xs.take ii = q.filter (notF f) := by rw [HH.out.kept, hjq, List.take_length]
        have hs0 : ii + (q.length - ii) = xs.length := by omega
        have hcap1 := HX.out.cap_le.1
        have hcap2 := HX.out.cap_le.2
        simp only [maxLen] at hcap2
        go_wp2_with ((with_reducible show wpList _ _ _ (Oper.mk none (Op.call _) _ _ _ _ :: _) _ _); refine wp_clear_l rfl (.tmp 38) rfl slSec secLay oneSec HX.out ii rfl hs0 rfl ?_; intro w2 hown2 hg2)
        go_ret
        rw [hkept] at hown2
        refine ⟨?_, hown2, hgw.andThen hg2 (fun j h => .inr (by rw [h]))⟩
        have hkl := congrArg List.length hkept
        rw [List.length_take] at hkl
        show Ending.returned (.slice (some ⟨g, 0, none⟩) ii c) = _
        congr 2
        omega

/-! maps.DeleteFunc over the set of sectors -/
def dropF (f : Int) (m : Int × Int → Option Bool) : Int × Int → Option Bool := fun x => if (x.1 == f) = true then none else m x
/-- The map under way: what is still to come stands, of the rest those of f are struck. -/
def underway (f : Int) (m : Int × Int → Option Bool) (left : Int × Int → Bool) : Int × Int → Option Bool := fun x => if ((x.1 == f) && !left x) = true then none else m x
theorem underway_start (f : Int) (m : Int × Int → Option Bool) : underway f m (fun a => (m a).isSome) = m := by
  funext x
  unfold underway
  cases hf : (x.1 == f) <;> cases hm : m x <;> simp [hm]
theorem underway_end (f : Int) (m : Int × Int → Option Bool) (left : Int × Int → Bool) (h : ∀ a, left a = false) : underway f m left = dropF f m := by
  funext x
  unfold underway dropF
  rw [h x]
  simp
theorem underway_stay (f : Int) (m : Int × Int → Option Bool) (left : Int × Int → Bool) (a : Int × Int) (ha : (a.1 == f) = false) : underway f m (fun x => left x && !decide (x = a)) = underway f m left := by
  funext x
  unfold underway
  by_cases hx : x = a
  · subst hx
    simp [ha]
  · simp [hx]
theorem underway_strike (f : Int) (m : Int × Int → Option Bool) (left : Int × Int → Bool) (a : Int × Int) (ha : (a.1 == f) = true) : (fun x => if x = a then none else underway f m left x) = underway f m (fun x => left x && !decide (x = a)) := by
  funext x
  unfold underway
  by_cases hx : x = a
  · subst hx
    simp [ha]
  · simp [hx]
theorem wp_range_f {α β : Type} {P : Program} {w : World} {ops : Array Oper} {rest : List Oper} {o : Oper} {a : Act} {Q : Exit → Act → World → Prop} {ok : α → Prop} {kv : α → Value} {vv : β → Value} {f : α → Option β} {b : Nat}
    (hg : o.guard = none) (m : Operand) (t : TypeId) (hop : o.op = Op.range t m) (k e : TypeId) (KT : KeyTy P k ok kv) (ht : P.underlying t = some (.map k e)) (hm : a.eval m = .map (some b)) (h : MapF w b ok kv vv f)
    (hK : ∀ w', MapR w' b w.heap.size ok kv vv f (fun a => (f a).isSome) → w.grownBy w' none → w'.heap.size = w.heap.size + 1 → wpList P ops Q rest (a.put o.dst (.pointer (some ⟨w.heap.size, 0, none⟩))) w') :
    wpList P ops Q (o :: rest) a w := by
  refine wpList_plain hg fun K' hK' => ?_
  obtain ⟨w', hrun, r1, r2, r3⟩ := h.range KT ht
  unfold Oper.wp
  simp [execOp, hop, hm, hrun, Result.andThen]
  exact hK' _ _ (hK w' r1 r2 r3)
theorem wp_next_f {α β : Type} [DecidableEq α] {P : Program} {w : World} {ops : Array Oper} {rest : List Oper} {o : Oper} {a : Act} {Q : Exit → Act → World → Prop} {ok : α → Prop} {kv : α → Value} {vv : β → Value} {f : α → Option β} {b r : Nat} {left : α → Bool} {k : TypeId}
    (hg : o.guard = none) (it : Operand) (hop : o.op = Op.next it false) (KT : KeyTy P k ok kv) (kx : α → Value) (vx : β → Value) (hkx : kv = kx) (hvx : vv = vx) (hit : a.eval it = .pointer (some ⟨r, 0, none⟩)) (h : MapR w b r ok kv vv f left)
    (hDone : Hid (∀ x, left x = false) → wpList P ops Q rest (a.put o.dst (.tuple #[.bool false])) w)
    (hMore : ∀ (x : α) (v : β) (w' : World), Hid (ok x ∧ left x = true ∧ f x = some v) → Hid (MapR w' b r ok kv vv f (fun y => left y && !decide (y = x))) → w'.rangeLeft b r < w.rangeLeft b r → w.grownBy w' (some r) → w'.heap.size = w.heap.size →
      (Instr.entry (.pointer (some ⟨r, 0, none⟩))).run P w' = .ok (.tuple #[kx x, vx v]) w' → wpList P ops Q rest (a.put o.dst (.tuple #[.bool true, kx x, vx v])) w') :
    wpList P ops Q (o :: rest) a w := by
  subst hkx hvx
  refine wpList_plain hg fun K' hK' => ?_
  unfold Oper.wp
  rcases h.next KT o.type with ⟨hl, hrun⟩ | ⟨x, v, w', h1, h2, h3, hrun, h4, h5, h6, h7, h8⟩
  · simp [execOp, hop, hit, hrun, Result.andThen]
    exact hK' _ _ (hDone (Lib.hid hl))
  · simp [execOp, hop, hit, hrun, Result.andThen]
    exact hK' _ _ (hMore x v w' (Lib.hid ⟨h1, h2, h3⟩) (Lib.hid h4) h5 h6 h7 h8)
theorem wp_delete_f {α β : Type} [DecidableEq α] {P : Program} {w : World} {ops : Array Oper} {rest : List Oper} {o : Oper} {a : Act} {Q : Exit → Act → World → Prop} {ok : α → Prop} {kv : α → Value} {vv : β → Value} {f : α → Option β} {b r : Nat} {left : α → Bool} {t k e : TypeId}
    (hg : o.guard = none) (m x : Operand) (hop : o.op = Op.call { callee := Callee.builtin Builtin.delete, args := #[m, x], argTypes := #[t, k] }) (KT : KeyTy P k ok kv) (ht : P.underlying t = some (.map k e)) (hm : a.eval m = .map (some b)) (h : MapR w b r ok kv vv f left)
    (y : α) (hx : a.eval x = kv y) (hok : ok y) (hs : (f y).isSome = true) (hl : left y = false)
    (hK : ∀ w', MapR w' b r ok kv vv (fun x => if x = y then none else f x) left → w'.rangeLeft b r ≤ w.rangeLeft b r → w.grownBy w' (some b) → w'.heap.size = w.heap.size → wpList P ops Q rest (a.put o.dst (.tuple #[])) w') :
    wpList P ops Q (o :: rest) a w := by
  refine wpList_plain hg fun K' hK' => ?_
  obtain ⟨w', hrun, r1, r2, r3, r4⟩ := h.delete KT ht y hok hs hl o.type
  unfold Oper.wp
  simp [execOp, hop, resolve, invoke, builtin, hm, hx, hrun, Result.andThen]
  exact hK' _ _ (hK w' r1 r2 r3 r4)

set_option maxHeartbeats 2000000 in
theorem delMap_any (m : Int × Int → Option Bool) (f : Int) (b bs : Nat) (w : World) (hm : MapF w bs okS secV Value.bool m) (hb : w.cell? ⟨b, 0, none⟩ = some (.int .i64 f)) (hl : b < w.heap.size) (hne : bs ≠ b) :
    Calls Tryz.prog 105 #[.map (some bs), .func (.func 106) #[] #[.pointer (some ⟨b, 0, none⟩)]] w fun e w' => e = .returned (.tuple #[]) ∧ MapF w' bs okS secV Value.bool (dropF f m) ∧ w.grownBy w' (some bs) := by
  have HM := Lib.hid hm
  have HB := Lib.hid hb
  have hml := hm.lt
  clear hm hb
  go_enter Tryz.func105, Tryz.ntmps105
  go_wp2_with (at_range; refine wp_range_f rfl _ 54 rfl 93 4 keyS Tryz.underlying54 rfl HM.out ?_; intro w0 hr0 hg0 hs0)
  go_frame
  go_loopw [4, 5, 8, 9, 10, 11, 12] (fun _ _ _ _ _ _ _ wr => ∃ left : Int × Int → Bool, MapR wr bs w.heap.size okS secV Value.bool (underway f m left) left ∧ w.grownBy wr (some bs)) (fun _ _ _ _ _ _ _ wr => wr.rangeLeft bs w.heap.size)
  case atStart => exact ⟨_, by rw [underway_start]; exact hr0, hg0.but _⟩
  case round =>
    obtain ⟨left, hrg, hgw⟩ := hrel
    go_wp2_with (at_next; refine wp_next_f rfl _ rfl keyS (fun x => .agg #[.int .i64 x.1, .int .i64 x.2]) (fun v => .bool v) rfl rfl rfl hrg (fun HL => ?_) (fun x v w1 HX HR1 hlt hg1 hs1 hen => ?_))
    · go_end0
      exact ⟨rfl, by rw [← underway_end f m left HL.out]; exact hrg.map, hgw⟩
    · have hgw1 : w.grownBy w1 (some bs) := hgw.andThen hg1 (fun j h => by cases h; exact .inl (Nat.le_refl _))
      have hsz := hgw1.size
      have hbs := (HR1.out.lt).1
      have hrs := (HR1.out.lt).2
      have HG1 := Lib.hid hgw1
      have hbc : w1.cell? ⟨b, 0, none⟩ = some (.int .i64 f) := (grown_cell hgw1 hl (fun e => hne e.symm) 0).trans HB.out
      refine (clo2_any x v f b _ ?_ ?_).mono ?_
      · exact (cell_old _ _ _ _ (by omega)).trans hbc
      · simp
        omega
      rintro e w2 ⟨rfl, hb2⟩
      have d0 := box_cell (box_new hb2) 0 _ rfl
      have d1 := box_cell (box_new hb2) 1 _ rfl
      rw [hs1] at d0 d1
      have hg2 := grown_of_below (((Below.refl w1.heap.size w1).alloc (Nat.le_refl _) (.cells #[.int .i64 x.1, .int .i64 x.2] 93)).trans (hb2.mono (by simp))) none
      obtain ⟨hr2, hrl2⟩ := HR1.out.of_block (hg2.block _ hbs (by simp)) (hg2.block _ hrs (by simp))
      have HR2 := Lib.hid hr2
      have HG2 := Lib.hid (HG1.out.andThen hg2 (fun j h => by cases h))
      clear hbc hb2 hr2 hg2 hgw1
      cases hv : (x.1 == f)
      · go_wp2
        go_roundw
        case rel => exact ⟨_, by rw [underway_stay f m left x hv]; exact HR2.out, HG2.out⟩
        case measure => omega
      · go_wp2_with ((with_reducible show wpList _ _ _ (Oper.mk none (Op.call _) _ _ _ _ :: _) _ _); refine wp_delete_f rfl _ _ rfl keyS Tryz.underlying54 rfl HR2.out x rfl HX.out.1 (by rw [HX.out.2.2]; rfl) (by simp) ?_; intro w3 hr3 hrl3 hg3 hs3; have HR3 := Lib.hid hr3; have HG3 := Lib.hid (HG2.out.andThen hg3 (fun j h => by cases h; exact .inr rfl)); clear hr3 hg3)
        go_frame
        go_roundw
        case rel => exact ⟨_, by rw [← underway_strike f m left x hv]; exact HR3.out, HG3.out⟩
        case measure => omega
end Go.Proofs.YtjmkodkechahdaaGreatDoor
