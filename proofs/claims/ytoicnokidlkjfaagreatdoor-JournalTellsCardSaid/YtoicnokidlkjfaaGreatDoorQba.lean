/- Contracts and plain laws, joined: JnI, JnJ, JnO. -/
import Derived.Test.YtoicnokidlkjfaaGreatDoorQay
import Derived.Test.YtoicnokidlkjfaaGreatDoorQav
import Derived.Test.YtoicnokidlkjfaaGreatDoorQaf
import Derived.Test.YtoicnokidlkjfaaGreatDoorQar
import Derived.Test.YtoicnokidlkjfaaGreatDoorQal
/- Disks and journals as objects in memory; contracts of journal.Open. -/
namespace Go.Proofs.YtoicnokidlkjfaaGreatDoor
open Go.RowKit

/-- The disk at p, S, that lies at L. -/
def dOb (p : Nat) (S : DS) (L : DL) : Ob where
  own := L.own p
  see i := slBlk L.kA = some i
  ok w := DK w p S L
  lt w h i hi := hi.elim (h.lt i) (h.kl i)
  frame w w' h hb hs := h.turn hb hs
theorem Upd.ob {p : Nat} {S S' : DS} {L : DL} {w w' : World} (u : Upd p S' L w w') : ∃ L', OUpd (dOb p S L) (dOb p S' L') w w' := by
  obtain ⟨L', d, t, o, k⟩ := u
  exact ⟨L', d, t, o, k⟩
/-- Where the records of a journal lie. -/
structure JL where
  A : Option Addr
  c : Nat
def jBox (p : Nat) (J : JS) (L : JL) : Array Value := #[.pointer (some ⟨p, 0, none⟩), .int .i64 J.file, .slice L.A J.recs.length L.c, .int .i64 J.at_, .bool J.bad]
structure JK (w : World) (q p : Nat) (J : JS) (L : JL) : Prop where
  box : w.heap[q]? = some (.cells (jBox p J L) 70 (0, 0))
  recs : OwnL w 0 9 1 strE L.A L.c J.recs
  qa : ∀ i, slBlk L.A = some i → i ≠ q
/-- The journal at q over the disk at p. -/
def jOb (q p : Nat) (J : JS) (L : JL) : Ob where
  own i := i = q ∨ slBlk L.A = some i
  see _ := False
  ok w := JK w q p J L
  lt w h i hi := by
    rcases hi with (rfl | hi) | hi
    · exact box_lt h.box
    · exact (h.recs.blk_lt hi).2
    · exact hi.elim
  frame w w' h hb hs := ⟨(hb q (.inl (.inl rfl))).trans h.box, h.recs.turn (fun i hi _ => hb i (.inl (.inr hi))), h.qa⟩
/-- What a pointer to a journal, or nil, stands for. -/
def IsJ (p : Nat) (v : Value) (X : Ob) : Option JS → Prop
  | none => v = .pointer none ∧ X = Ob.nil
  | some J => ∃ q M, v = .pointer (some ⟨q, 0, none⟩) ∧ X = jOb q p J M
def OpenPost (p : Nat) (S : DS) (L : DL) (f : Int) (w : World) (e : Ending) (w' : World) : Prop :=
  ∃ L' X v, e = .returned (.tuple #[v, .int .i64 (openC S f)]) ∧ OUpd (dOb p S L) ((dOb p (openS S f) L').sep X) w w' ∧ IsJ p v X (openO S f)
theorem OUpd.with_nil {a b : Ob} {w w' : World} (u : OUpd a b w w') : OUpd a (b.sep Ob.nil) w w' :=
  ⟨⟨⟨u.ok, trivial⟩, fun _ _ h => h.elim, fun _ _ h => h.elim, fun _ h => h.elim⟩, u.turn, fun i hi => hi.elim (u.own i) (fun h => h.elim), fun i hi => hi.elim (u.see i) (fun h => h.elim)⟩
theorem readS_whole {S : DS} {f : Int} (h0 : 0 ≤ f) (h1 : f < 16) (hd : S.down = false) : S.readC f 0 (S.files f).1.size = 0 ∧ S.readS f 0 (S.files f).1.size = bs (S.now f) := by
  have hc : S.readC f 0 (S.files f).1.size = 0 := by
    unfold DS.readC
    rw [may_zero hd h0 h1, if_neg (by omega), if_neg (by omega)]
  refine ⟨hc, ?_⟩
  rw [readS_eq hc, readX_all _ _ (by omega)]
  rfl
/-- A list that the call owns. -/
def slOb (A : Option Addr) (c : Nat) (xs : List (List UInt8)) : Ob where
  own i := slBlk A = some i
  see _ := False
  ok w := OwnL w 0 9 1 strE A c xs
  lt w h i hi := hi.elim (fun hi => (h.blk_lt hi).2) (fun h => h.elim)
  frame w w' h hb _ := h.turn (fun i hi _ => hb i (.inl hi))
/-- A list, and a new box that names it. -/
theorem OUpd.boxed {a d sl j : Ob} {w w5 : World} (u : OUpd a (d.sep sl) w w5) (o : Obj) (hj : j.ok (w5.alloc o)) (ho : ∀ i, j.own i → i = w5.heap.size ∨ sl.own i) (hs : ∀ i, ¬ j.see i) : OUpd a (d.sep j) w (w5.alloc o) := by
  have hb : Below w5.heap.size w5 (w5.alloc o) := (Below.refl _ _).alloc (Nat.le_refl _) _
  obtain ⟨⟨hd, hsl⟩, h1, h2, h3⟩ := u.ok
  refine ⟨⟨⟨Ob.below hd hb, hj⟩, fun i hi hj' => ?_, fun i hi hj' => ?_, fun i hi => (hs i hi).elim⟩, (u.below hb).turn, fun i hi => ?_, fun i hi => ?_⟩
  · rcases ho i hj' with rfl | h
    · have := d.lt w5 hd _ (.inl hi); omega
    · exact h1 i hi h
  · rcases ho i hj' with rfl | h
    · have := d.lt w5 hd _ (.inr hi); omega
    · exact h2 i hi h
  · rcases hi with hi | hi
    · exact u.own i (.inl hi)
    · rcases ho i hi with rfl | h
      · exact .inr u.turn.size
      · exact u.own i (.inr h)
  · rcases hi with hi | hi
    · exact u.see i (.inl hi)
    · exact (hs i hi).elim
/-- The end of Open: the journal's box. -/
theorem open_end {a : Ob} {p : Nat} {T : DS} {L : DL} {A : Option Addr} {c : Nat} {rs : List (List UInt8)} {w w5 : World} {f : Int} {n : Nat} (u : OUpd a ((dOb p T L).sep (slOb A c rs)) w w5) (hn : (formsF rs).length = n) :
    OUpd a ((dOb p T L).sep (jOb w5.heap.size p ⟨f, rs, false⟩ ⟨A, c⟩)) w (w5.alloc (.cells #[.pointer (some ⟨p, 0, none⟩), .int .i64 f, .slice A rs.length c, .int .i64 n, .bool false] 70)) := by
  subst hn
  refine u.boxed _ ⟨?_, ?_, fun i hi e => ?_⟩ (fun i hi => hi) (fun _ h => h)
  · exact heap_alloc_new _ _
  · exact (show OwnL w5 0 9 1 strE A c rs from u.ok.1.2).alloc _
  · have := ((show OwnL w5 0 9 1 strE A c rs from u.ok.1.2).blk_lt hi).2
    omega
set_option maxRecDepth 100000 in
set_option maxHeartbeats 4000000 in
theorem jOpen_any {B : Nat} (p : Nat) (S : DS) (L : DL) (f : Int) (w : World) (hV : Vs B w) (hB : ∀ i, L.own p i → B ≤ i) (hf : inI64 f) (hk : S.keep.length ≤ 4194320) (h : DK w p S L) :
    Calls Tryz.prog 8 #[.pointer (some ⟨p, 0, none⟩), .int .i64 f] w (OpenPost p S L f w) := by
  have HV := Lib.hid hV
  have H := Lib.hid h
  have HF := Lib.hid hf
  have HB := Lib.hid hB
  have HP : Hid (∀ e w', OpenPost p S L f w e w' → OpenPost p S L f w e w') := Lib.hid fun _ _ h => h
  clear h hV hB
  go_enter Tryz.func8, Tryz.ntmps8
  by_cases g1 : f < 0 ∨ 15 < f
  · have hc : openC S f = 1 := by unfold openC; rw [if_pos g1]
    have hs : openS S f = S := by unfold openS; rw [if_pos g1]
    have ho : openO S f = none := by unfold openO; rw [hc]; rfl
    have HQ : Hid (OpenPost p S L f w (.returned (.tuple #[.pointer none, .int .i64 1])) w) := Lib.hid ⟨L, Ob.nil, .pointer none, by rw [hc], by rw [hs]; exact (OUpd.refl (a := dOb p S L) H.out).with_nil, by rw [ho]; exact ⟨rfl, rfl⟩⟩
    clear hc hs ho
    by_cases g2 : f < 0
    · have d1 : decide (f < 0) = true := by simpa using g2
      clear g1 g2
      go_wp2_with fail
      go_ret2
      exact HQ.out
    · have d1 : decide (f < 0) = false := by simpa using g2
      have d2 : decide (15 < f) = true := by simp; omega
      clear g1 g2
      go_wp2_with fail
      go_ret2
      exact HQ.out
  have hf16 : 0 ≤ f ∧ f < 16 := by omega
  have d1 : decide (f < 0) = false := by simp; omega
  have d2 : decide (15 < f) = false := by simp; omega
  have HC : Hid (openC S f = if S.syncC f ≠ 0 then S.syncC f else if (formsF (recs ((S.sync f).now f))).length < ((S.sync f).now f).length then (S.sync f).truncC f (formsF (recs ((S.sync f).now f))).length else 0) := Lib.hid (by unfold openC; rw [if_neg g1])
  have HS : Hid (openS S f = if S.syncC f ≠ 0 then S.sync f else if (formsF (recs ((S.sync f).now f))).length < ((S.sync f).now f).length then (S.sync f).trunc f (formsF (recs ((S.sync f).now f))).length else S.sync f) := Lib.hid (by unfold openS; rw [if_neg g1])
  have HG := Lib.hid hf16
  clear g1
  go_wp2_with fail
  refine (dSync_any p S L w f HF.out hk H.out).mono ?_
  rintro e w1 ⟨rfl, hu⟩
  obtain ⟨L1, u1⟩ := hu.ob (S := S)
  have HU1 := Lib.hid u1
  clear hu u1
  by_cases g2 : S.syncC f = 0
  rotate_left
  · have d3 : (S.syncC f == 0) = false := by simpa using g2
    have hc : openC S f = S.syncC f := by rw [HC.out, if_pos g2]
    have hs : openS S f = S.sync f := by rw [HS.out, if_pos g2]
    have ho : openO S f = none := by unfold openO; rw [if_neg (by rw [hc]; exact g2)]
    have HQ : Hid (OpenPost p S L f w (.returned (.tuple #[.pointer none, .int .i64 (S.syncC f)])) w1) := Lib.hid ⟨L1, Ob.nil, .pointer none, by rw [hc], by rw [hs]; exact HU1.out.with_nil, by rw [ho]; exact ⟨rfl, rfl⟩⟩
    clear hc hs ho g2
    go_wp2_with fail
    go_ret2
    exact HQ.out
  have d3 : (S.syncC f == 0) = true := by simpa using g2
  rw [if_neg (by simpa using g2)] at HC HS
  rw [g2]
  have HSy := Lib.hid (syncC_ok g2)
  have hdn : (S.sync f).down = false := by
    rw [HSy.out.2.2.2.2]
    exact (tick_same S).2.2.1.trans HSy.out.1
  have HRw := Lib.hid (readS_whole (S := S.sync f) HG.out.1 HG.out.2 hdn)
  have HSk : Hid ((S.sync f).keep = S.keep) := Lib.hid (by rw [HSy.out.2.2.2.2]; exact DS.tick_keep S)
  have HWf := Lib.hid ((show DK w1 p (S.sync f) L1 from HU1.out.ok).wf)
  have HD1 := Lib.hid (show DK w1 p (S.sync f) L1 from HU1.out.ok)
  have HV1 : Hid (Vs B w1) := Lib.hid (HV.out.on (HU1.out.to_below HV.out.le HB.out))
  clear d3 HSy
  have HSyC := Lib.hid g2
  clear g2 hdn
  generalize hT : S.sync f = T at *
  have HT := Lib.hid hT
  clear hT
  go_wp2_with fail
  refine (dSize_any p T L1 w1 f HF.out HD1.out).mono ?_
  rintro e w2 ⟨rfl, rfl⟩
  go_wp2_with fail
  refine (dRead_any p T L1 w2 f 0 _ HF.out HD1.out).mono ?_
  rintro e w3 ⟨rfl, rfl⟩
  rw [HRw.out.1, HRw.out.2]
  have hnl : (T.now f).length ≤ 16777216 := by
    have h1 := HWf.out.now f
    have h2 := dlen (T.files f).1
    show (T.files f).1.data.toList.length ≤ _
    omega
  have HNl : Hid ((T.now f).length = (T.files f).1.size) := Lib.hid (dlen _)
  have HPr := Lib.hid (recs_prefix (T.now f)).length_le
  have HJ : Hid (openJ S f = ⟨f, recs (T.now f), false⟩) := Lib.hid (by unfold openJ; rw [HT.out])
  clear HRw
  generalize hs : T.now f = s at *
  have HSn := Lib.hid hs
  clear hs
  have hsz : (bs s).size = s.length := bs_size s
  go_wp2_with fail
  refine (jRead_any s w3 HV1.out (by omega)).mono ?_
  rintro e w4 ⟨A, c, rfl, ho, hb4⟩
  have HO := Lib.hid ho
  have HU4 : Hid (OUpd (dOb p S L) ((dOb p T L1).sep (slOb A c (recs s))) w w4) := Lib.hid (HU1.out.trans (OUpd.more HU1.out.ok hb4 (c := slOb A c (recs s)) (ho.mono (Nat.zero_le _)) (fun i hi => (ho.blk_lt hi).1) (fun _ h => h.elim)))
  clear ho hb4
  have hpl := HPr.out
  have hrl := enc_len formF formF_pos (recs s)
  have HFm : Hid (formsF (recs s) = (recs s).flatMap formF) := Lib.hid rfl
  generalize recs s = rs at *
  rw [← HFm.out] at hrl
  generalize hn : (formsF rs).length = n at *
  have HN := Lib.hid hn
  clear hn
  by_cases g3 : n < s.length
  · have HC2 := Lib.hid (HC.out.trans (if_pos g3))
    have HS2 := Lib.hid (HS.out.trans (if_pos g3))
    clear HC HS
    go_wp2_with fail
    refine (dTrunc_any p T L1 w4 f n HF.out (by unfold inI64; omega) (by rw [HSk.out]; exact hk) HU4.out.ok.1.1).mono ?_
    rintro e w5 ⟨rfl, hu⟩
    obtain ⟨L5, u5⟩ := hu.ob (S := T)
    have HU5 := Lib.hid (HU4.out.trans (OUpd.left HU4.out.ok u5))
    clear hu u5
    by_cases g4 : T.truncC f n = 0
    · have d4 : (T.truncC f n == 0) = true := by simpa using g4
      have hc : openC S f = 0 := HC2.out.trans g4
      have HQ : Hid (OpenPost p S L f w (.returned (.tuple #[.pointer (some ⟨w5.heap.size, 0, none⟩), .int .i64 0])) (w5.alloc (.cells #[.pointer (some ⟨p, 0, none⟩), .int .i64 f, .slice A rs.length c, .int .i64 n, .bool false] 70))) :=
        Lib.hid ⟨L5, jOb w5.heap.size p ⟨f, rs, false⟩ ⟨A, c⟩, _, by rw [hc], by rw [HS2.out]; exact open_end HU5.out HN.out, by rw [openO, if_pos hc, HJ.out]; exact ⟨_, _, rfl, rfl⟩⟩
      clear hc g4
      go_wp2_with fail
      go_ret2
      exact HQ.out
    · have d4 : (T.truncC f n == 0) = false := by simpa using g4
      have HQ : Hid (OpenPost p S L f w (.returned (.tuple #[.pointer none, .int .i64 (T.truncC f n)])) w5) := Lib.hid ⟨L5, Ob.nil, .pointer none, by rw [HC2.out], by rw [HS2.out]; exact HU5.out.forget.with_nil, by rw [openO, if_neg (by rw [HC2.out]; exact g4)]; exact ⟨rfl, rfl⟩⟩
      clear g4
      go_wp2_with fail
      go_ret2
      exact HQ.out
  · have HC2 := Lib.hid (HC.out.trans (if_neg g3))
    have HS2 := Lib.hid (HS.out.trans (if_neg g3))
    have HQ : Hid (OpenPost p S L f w (.returned (.tuple #[.pointer (some ⟨w4.heap.size, 0, none⟩), .int .i64 0])) (w4.alloc (.cells #[.pointer (some ⟨p, 0, none⟩), .int .i64 f, .slice A rs.length c, .int .i64 n, .bool false] 70))) :=
      Lib.hid ⟨L1, jOb w4.heap.size p ⟨f, rs, false⟩ ⟨A, c⟩, _, by rw [HC2.out], by rw [HS2.out]; exact open_end HU4.out HN.out, by rw [openO, if_pos HC2.out, HJ.out]; exact ⟨_, _, rfl, rfl⟩⟩
    clear HC HS
    go_wp2_with fail
    go_ret2
    exact HQ.out
end Go.Proofs.YtoicnokidlkjfaaGreatDoor
/- Journals as objects in memory: what Append and Sync change. -/
namespace Go.Proofs.YtoicnokidlkjfaaGreatDoor
open Go.RowKit

section
variable {w : World} {q p : Nat} {J : JS} {L : JL}
theorem JK.c0 (h : JK w q p J L) : w.cell? ⟨q, 0, none⟩ = some (.pointer (some ⟨p, 0, none⟩)) := box_cell h.box 0 _ rfl
theorem JK.c1 (h : JK w q p J L) : w.cell? ⟨q, 1, none⟩ = some (.int .i64 J.file) := box_cell h.box 1 _ rfl
theorem JK.c2 (h : JK w q p J L) : w.cell? ⟨q, 2, none⟩ = some (.slice L.A J.recs.length L.c) := box_cell h.box 2 _ rfl
theorem JK.c3 (h : JK w q p J L) : w.cell? ⟨q, 3, none⟩ = some (.int .i64 J.at_) := box_cell h.box 3 _ rfl
theorem JK.c4 (h : JK w q p J L) : w.cell? ⟨q, 4, none⟩ = some (.bool J.bad) := box_cell h.box 4 _ rfl
theorem JK.free (h : JK w q p J L) (j : Nat) : w.frozen? ⟨q, j, none⟩ = false := box_free h.box j
/-- Whether it is broken. -/
theorem JK.mark (h : JK w q p J L) (b : Bool) : OUpd (jOb q p J L) (jOb q p { J with bad := b } L) w (w.setCell ⟨q, 4, none⟩ (.bool b)) := by
  refine ⟨⟨heap_setCell_same w q 4 _ _ _ h.box, h.recs.turn (fun i hi _ => heap_setCell_other w ⟨q, 4, none⟩ i _ (h.qa i hi)), h.qa⟩, (Turn.refl _ _).set q 4 _ (.inl (.inl rfl)), fun i hi => .inl hi, fun i hi => .inl hi⟩
/-- One more record. -/
theorem JK.add {w5 : World} (h : JK w q p J L) (s : List UInt8) (o : Obj) {A2 : Option Addr} {c2 : Nat} (hown : OwnL w5 0 9 1 strE A2 c2 (J.recs ++ [s]))
    (hg : (w.alloc o).grownBy w5 (slBlk L.A)) (hat : slBlk A2 = slBlk L.A ∨ slBlk A2 = some (w.alloc o).heap.size) {n : Int} {k : Nat} (hn : n = ({ J with recs := J.recs ++ [s] } : JS).at_) (hk : k = (J.recs ++ [s]).length) :
    OUpd (jOb q p J L) (jOb q p { J with recs := J.recs ++ [s] } ⟨A2, c2⟩) w ((w5.setCell ⟨q, 2, none⟩ (.slice A2 k c2)).setCell ⟨q, 3, none⟩ (.int .i64 n)) := by
  subst hn hk
  have hq := box_lt h.box
  have hsz : (w.alloc o).heap.size = w.heap.size + 1 := by simp
  have hA2 : ∀ i, slBlk A2 = some i → slBlk L.A = some i ∨ w.heap.size ≤ i := fun i hi => by
    rcases hat with e | e
    · exact .inl (by rw [← e, hi])
    · rw [hi, hsz] at e
      have := Option.some.inj e
      exact .inr (by omega)
  have hA3 : ∀ i, slBlk A2 = some i → i ≠ q := fun i hi => by
    rcases hA2 i hi with e | e
    · exact h.qa i e
    · omega
  have hbox : w5.heap[q]? = some (.cells (jBox p J L) 70 (0, 0)) :=
    (hg.block q (by omega) (fun e => h.qa q e.symm rfl)).trans ((Below.heap_alloc w o q hq).trans h.box)
  have hb2 := heap_setCell_same w5 q 2 _ _ (.slice A2 (J.recs ++ [s]).length c2) hbox
  have hb3 := heap_setCell_same _ q 3 _ _ (.int .i64 ({ J with recs := J.recs ++ [s] } : JS).at_) hb2
  refine ⟨⟨hb3, hown.turn (fun i hi _ => (heap_setCell_other _ ⟨q, 3, none⟩ i _ (hA3 i hi)).trans (heap_setCell_other _ ⟨q, 2, none⟩ i _ (hA3 i hi))), hA3⟩, ?_, fun i hi => ?_, fun i hi => .inl hi⟩
  · exact ((((Turn.refl (fun i => i = q ∨ slBlk L.A = some i) w).alloc o).trans (Turn.grown (F := fun i => slBlk L.A = some i) hg (fun k hk => hk)) (fun i hi => .inl (.inr hi))).set q 2 _ (.inl (.inl rfl))).set q 3 _ (.inl (.inl rfl))
  · rcases hi with hi | hi
    · exact .inl (.inl hi)
    · exact (hA2 i hi).imp .inr id
end
end Go.Proofs.YtoicnokidlkjfaaGreatDoor
/- Operations of journals as arguments of a law; few, texts. -/
namespace Go.Proofs.YtoicnokidlkjfaaGreatDoor
open Go.RowKit
set_option maxRecDepth 100000

/-- An operation, and where its list of numbers lies. -/
structure OpM where
  kind : Int
  s : List UInt8
  n : Int
  keep : List Int
  kA : Option Addr
  kc : Nat
def opC (a : OpM) : List Value := [.int .i64 a.kind, .string (bs a.s), .int .i64 a.n, .slice a.kA a.keep.length a.kc]
/-- What a law's argument gives of an operation. -/
structure OpOk (w : World) (a : OpM) : Prop where
  kind : inI64 a.kind
  n : inI64 a.n
  s : a.s.length ≤ 9223372036854775807
  kl : a.keep.length ≤ 9223372036854775807
  k : ∀ x ∈ a.keep, inI64 x
  rd : RdL 1 intC w w.heap.size a.kA a.keep
theorem OpOk.now {w w' : World} {a : OpM} (h : OpOk w a) (hb : Below w.heap.size w w') : OpOk w' a := ⟨h.kind, h.n, h.s, h.kl, h.k, h.rd.now hb⟩
/-- .. within the bounds of few. -/
structure OpFew (a : OpM) : Prop where
  s : a.s.length ≤ 200
  k : a.keep.length ≤ 50
def fewO1 (a : OpM) : Bool := !(decide (200 < (a.s.length : Int)) || decide (50 < (a.keep.length : Int)))
def fewO (l : List OpM) : Bool := l.all fewO1 && decide ((l.length : Int) ≤ 25)
theorem fewO_ok {l : List OpM} (h : fewO l = true) : l.length ≤ 25 ∧ ∀ a ∈ l, OpFew a := by
  unfold fewO at h
  rw [Bool.and_eq_true, List.all_eq_true] at h
  refine ⟨by have := h.2; simp at this; omega, fun a ha => ?_⟩
  have h1 := h.1 a ha
  simp [fewO1] at h1
  exact ⟨by omega, by omega⟩
theorem RdL.op {w : World} {B : Nat} {A : Option Addr} {xs : List OpM} (h : RdL 4 opC w B A xs) {k : Nat} (hk : k < xs.length) : ∃ b off, A = some ⟨b, off, none⟩ ∧ b < B ∧ w.cell? ⟨b, off + k * 4, none⟩ = some (.int .i64 xs[k].kind) ∧
    w.cell? ⟨b, off + k * 4 + 1, none⟩ = some (.string (bs xs[k].s)) ∧ w.cell? ⟨b, off + k * 4 + 2, none⟩ = some (.int .i64 xs[k].n) ∧ w.cell? ⟨b, off + k * 4 + 3, none⟩ = some (.slice xs[k].kA xs[k].keep.length xs[k].kc) := by
  obtain ⟨b, off, e, hb, hc⟩ := h.at_ hk
  exact ⟨b, off, e, hb, hc 0 _ rfl, hc 1 _ rfl, hc 2 _ rfl, hc 3 _ rfl⟩
set_option maxHeartbeats 1000000 in
theorem lFewO_any (l : List OpM) (A : Option Addr) (c : Nat) (w : World) (hr : RdL 4 opC w w.heap.size A l) (hm : l.length ≤ 9223372036854775807) (hl : ∀ a ∈ l, OpOk w a) :
    Calls Tryz.prog 5 #[.slice A l.length c] w fun e w' => e = .returned (.bool (fewO l)) ∧ w = w' := by
  have HL := Lib.hid hl
  clear hl
  go_enter Tryz.func5, Tryz.ntmps5
  go_wp2
  go_loopw [3] (fun i wr => ∃ k : Nat, k ≤ l.length ∧ i = .int .i64 k ∧ (l.take k).all fewO1 = true ∧ w = wr) (fun i _ => l.length - (intOf i).toNat)
  case atStart => exact ⟨0, Nat.zero_le _, rfl, rfl, rfl⟩
  case round =>
    obtain ⟨k, hk, rfl, hf, rfl⟩ := hrel
    have HF := Lib.hid hf
    clear hf
    by_cases hlt : k < l.length
    · obtain ⟨b, off, rfl, hb, c0, c1, c2, c3⟩ := hr.op hlt
      have hok := HL.out l[k] (List.getElem_mem hlt)
      have hs := hok.s
      have hkl := hok.kl
      have hall : l.all fewO1 = true → fewO1 l[k] = true := fun h => List.all_eq_true.1 h _ (List.getElem_mem hlt)
      have hst : fewO1 l[k] = true → (l.take (k + 1)).all fewO1 = true := fun h => by
        rw [List.take_succ_eq_append_getElem hlt, List.all_append, HF.out]
        simp [h]
      have HAll := Lib.hid hall
      have HSt := Lib.hid hst
      have HD : Hid (fewO1 l[k] = !(decide (200 < (l[k].s.length : Int)) || decide (50 < (l[k].keep.length : Int)))) := Lib.hid rfl
      have hsz : (bs l[k].s).size = l[k].s.length := bs_size _
      clear hall hst hok
      generalize l[k] = a at *
      by_cases b1 : (200 : Int) < a.s.length
      · have d1 : decide ((200 : Int) < a.s.length) = true := by simpa using b1
        have HV := Lib.hid (show fewO1 a = false by rw [HD.out]; simp [d1])
        go_wp2
        go_ret
        refine ⟨ret_bool ?_, rfl⟩
        cases hx : l.all fewO1
        · unfold fewO
          rw [hx]
          rfl
        · have := HAll.out hx
          rw [HV.out] at this
          cases this
      have d1 : decide ((200 : Int) < a.s.length) = false := by simpa using b1
      by_cases b2 : (50 : Int) < a.keep.length
      · have d2 : decide ((50 : Int) < a.keep.length) = true := by simpa using b2
        have HV := Lib.hid (show fewO1 a = false by rw [HD.out]; simp [d1, d2])
        go_wp2
        go_ret
        refine ⟨ret_bool ?_, rfl⟩
        cases hx : l.all fewO1
        · unfold fewO
          rw [hx]
          rfl
        · have := HAll.out hx
          rw [HV.out] at this
          cases this
      have d2 : decide ((50 : Int) < a.keep.length) = false := by simpa using b2
      have HV := Lib.hid (show fewO1 a = true by rw [HD.out]; simp [d1, d2])
      go_wp2
      go_roundw
      case rel => exact ⟨k + 1, by omega, by go_num, HSt.out HV.out, by first | rfl | trivial⟩
      case measure => simp [intOf]; omega
    · have hlen : l.take k = l := List.take_of_length_le (by omega)
      have HFew : Hid (fewO l = decide ((l.length : Int) ≤ 25)) := Lib.hid (by
        unfold fewO
        have h1 := HF.out
        rw [hlen] at h1
        rw [h1]
        rfl)
      go_wp2
      go_ret
      exact ⟨ret_bool HFew.out.symm, rfl⟩
/-! texts -/
def textsB (l : List (List UInt8)) : Bool := l.all (fun t => decide ((t.length : Int) ≤ 200)) && decide ((l.length : Int) ≤ 8)
theorem texts_ok {l : List (List UInt8)} (h : textsB l = true) : l.length ≤ 8 ∧ ∀ t ∈ l, t.length ≤ 200 := by
  unfold textsB at h
  rw [Bool.and_eq_true, List.all_eq_true] at h
  refine ⟨by have := h.2; simp at this; omega, fun a ha => ?_⟩
  have h1 := h.1 a ha
  simp at h1
  omega
end Go.Proofs.YtoicnokidlkjfaaGreatDoor
