/- Contracts and plain laws, joined: JnP, ErC, ErD, ErE, ErF, ErG, ErH, ErI, ErJ. -/
import Derived.Test.YtjmkodkechahdaaGreatDoorQbd
import Derived.Test.YtjmkodkechahdaaGreatDoorQaz
import Derived.Test.YtjmkodkechahdaaGreatDoorQbb
import Derived.Test.YtjmkodkechahdaaGreatDoorQbc
import Derived.Test.YtjmkodkechahdaaGreatDoorQah
import Derived.StillTailTactics
import Derived.Test.YtjmkodkechahdaaGreatDoorQau
/- States of a law over disks and journals; contracts of lingualaw03's small functions. -/
set_option linter.unusedSimpArgs false
set_option linter.unusedVariables false
namespace Go.Proofs.YtjmkodkechahdaaGreatDoor
open Go.RowKit
set_option maxRecDepth 100000

/-! The list of the surviving sectors is not touched. -/
theorem sync_keep (S : DS) (f : Int) : (S.sync f).keep = S.keep := by
  have h1 := come_keep S
  unfold DS.sync DS.sync0
  split
  · exact h1
  · split
    · exact h1
    · exact h1
theorem trunc_keep (S : DS) (f n : Int) : (S.trunc f n).keep = S.keep := by
  have h1 := come_keep S
  unfold DS.trunc DS.trunc0
  split
  · exact h1
  · exact h1
theorem write_keep (S : DS) (f a : Int) (s : ByteArray) : (S.write f a s).keep = S.keep := by
  unfold DS.write
  split
  · rw [crash_keep, DS.wr_keep, DS.tick_keep]
  · rw [DS.wr_keep, DS.tick_keep]
theorem openS_keep (S : DS) (f : Int) : (openS S f).keep = S.keep := by
  unfold openS
  split
  · rfl
  · split
    · exact sync_keep S f
    · split
      · rw [trunc_keep]; exact sync_keep S f
      · exact sync_keep S f
theorem appS_keep (S : DS) (J : JS) (s : List UInt8) : (appS S J s).keep = S.keep := by
  unfold appS
  split
  · rfl
  · exact write_keep _ _ _ _
theorem synS_keep (S : DS) (J : JS) : (synS S J).keep = S.keep := by
  unfold synS
  split
  · rfl
  · exact sync_keep _ _
/-- What a law has at a time: objects of its own, above all that was there. -/
structure St (w : World) (O : Ob) (wr : World) : Prop where
  ok : O.ok wr
  bl : Below w.heap.size w wr
  own : ∀ i, O.own i → w.heap.size ≤ i
section
variable {w wr w' : World} {O O2 : Ob}
theorem St.upd (h : St w O wr) (u : OUpd O O2 wr w') : St w O2 w' := ⟨u.ok, h.bl.trans (u.to_below h.bl.size h.own), u.base h.bl.size h.own⟩
theorem St.on (h : St w O wr) (hb : Below wr.heap.size wr w') : St w O w' := ⟨Ob.below h.ok hb, h.bl.trans (hb.mono h.bl.size), h.own⟩
theorem St.assoc {a b c : Ob} (h : St w ((a.sep b).sep c) wr) : St w (a.sep (b.sep c)) wr := ⟨Ob.assoc h.ok, h.bl, fun i hi => h.own i (hi.elim (fun h => .inl (.inl h)) (fun h => h.elim (fun h => .inl (.inr h)) .inr))⟩
theorem St.assoc2 {a b c : Ob} (h : St w (a.sep (b.sep c)) wr) : St w ((a.sep b).sep c) wr := ⟨Ob.assoc2 h.ok, h.bl, fun i hi => h.own i (hi.elim (fun h => h.elim .inl (fun h => .inr (.inl h))) (fun h => .inr (.inr h)))⟩
theorem St.swap {a b : Ob} (h : St w (a.sep b) wr) : St w (b.sep a) wr := ⟨Ob.swap h.ok, h.bl, fun i hi => h.own i hi.symm⟩
theorem St.forget {a b : Ob} (h : St w (a.sep b) wr) : St w a wr := ⟨h.ok.1.1, h.bl, fun i hi => h.own i (.inl hi)⟩
theorem St.nil {a : Ob} (h : St w a wr) : St w (a.sep Ob.nil) wr := h.upd (OUpd.refl h.ok).with_nil
theorem St.more {c : Ob} (h : St w O wr) (hb : Below wr.heap.size wr w') (hc : c.ok w') (ho : ∀ i, c.own i → wr.heap.size ≤ i) (hs : ∀ i, c.see i → wr.heap.size ≤ i) : St w (O.sep c) w' := h.upd (OUpd.more h.ok hb hc ho hs)
theorem St.list {A : Option Addr} {c : Nat} {xs : List (List UInt8)} (h : St w O wr) (hb : Below wr.heap.size wr w') (ho : OwnL w' wr.heap.size 9 1 strE A c xs) : St w (O.sep (slOb A c xs)) w' :=
  h.more hb (show OwnL w' 0 9 1 strE A c xs from ho.mono (Nat.zero_le _)) (fun i hi => (ho.blk_lt hi).1) (fun _ h => h.elim)
theorem slOb.rd {A : Option Addr} {c : Nat} {xs : List (List UInt8)} (h : (slOb A c xs).ok w) : RdL 1 strE w w.heap.size A xs := (show OwnL w 0 9 1 strE A c xs from h).rd strLayJ
theorem St.vs (h : St w O wr) (hV : Vs w.heap.size w) : Vs w.heap.size wr := hV.on h.bl
end
def beginsB (l a : List (List UInt8)) : Bool := decide (a.length ≤ l.length) && (l.take a.length == a)
theorem begins_iff (l a : List (List UInt8)) : beginsB l a = true ↔ ∃ m, m ≤ l.length ∧ a = l.take m := by
  unfold beginsB
  rw [Bool.and_eq_true, decide_eq_true_eq, beq_iff_eq]
  constructor
  · rintro ⟨h1, h2⟩
    exact ⟨a.length, h1, h2.symm⟩
  · rintro ⟨m, hm, rfl⟩
    have e : (l.take m).length = m := by rw [List.length_take]; omega
    rw [e]
    exact ⟨hm, rfl⟩
section
variable {w wr : World} {p q : Nat} {S : DS} {D : DL} {R : Ob} {f : Int} {J : JS} {M : JL}
theorem St.disk (h : St w ((dOb p S D).sep R) wr) : DK wr p S D := h.ok.1.1
theorem St.disk_own (h : St w ((dOb p S D).sep R) wr) : ∀ i, D.own p i → w.heap.size ≤ i := fun i hi => h.own i (.inl hi)
theorem St.dupd {S2 : DS} {w' : World} (h : St w ((dOb p S D).sep R) wr) (u : Upd p S2 D wr w') : ∃ D2, St w ((dOb p S2 D2).sep R) w' := by
  obtain ⟨D2, v⟩ := u.ob (S := S)
  exact ⟨D2, h.upd (OUpd.left h.ok v)⟩
theorem open_some (h : openC S f = 0) : openO S f = some (openJ S f) := by unfold openO; rw [if_pos h]
theorem open_none (h : openC S f ≠ 0) : openO S f = none := by unfold openO; rw [if_neg h]
end
end Go.Proofs.YtjmkodkechahdaaGreatDoor
/- Contracts of erase: open, sides, settle, the closures of Rewrite. -/
set_option linter.unusedSimpArgs false
set_option linter.unusedVariables false
namespace Go.Proofs.YtjmkodkechahdaaGreatDoor
open Go.RowKit
set_option maxRecDepth 100000

theorem enter_of {P : Program} {f : FuncId} {fn : Func} {c : Code} (hf : P.funcs[f]? = some fn) (hname : (fn.name == "runtime.NumGoroutine") = false) (hb : fn.body = some c) (args : Array Value) (w : World) :
    (callFunc f args).run P w = .ok (.enter f args) w := by
  unfold callFunc
  simp [hf, hb]
  simp at hname
  simp [hname]
/-- The cells of a list of records on a disk. -/
def lsCs (p : Nat) (f : Int) (side : List UInt8) : Array Value := #[.pointer (some ⟨p, 0, none⟩), .int .i64 f, .string (bs side)]
theorem eOpen_nil (f : Int) (w : World) : Calls Tryz.prog 46 #[.pointer none, .int .i64 f] w fun e w' => e = .returned (.tuple #[.pointer none, .int .i64 1]) ∧ w' = w := by
  go_enter Tryz.func46, Tryz.ntmps46
  go_wp2
  go_ret2
  exact ⟨rfl, rfl⟩
theorem str_ne {l m : List UInt8} (h : l ≠ m) : ((bs l).toList == (bs m).toList) = false := by rw [bs_beq]; simpa using h
def OpenOut (p : Nat) (S : DS) (f : Int) (w : World) (e : Ending) (w' : World) : Prop :=
  (openE S f = 0 ∧ PtrOk (sideE S f) ∧ e = .returned (.tuple #[.pointer (some ⟨w.heap.size, 0, none⟩), .int .i64 0]) ∧ w' = w.alloc (.cells (lsCs p f (sideE S f)) 84)) ∨ (openE S f ≠ 0 ∧ e = .returned (.tuple #[.pointer none, .int .i64 (openE S f)]) ∧ w' = w)
theorem eOpen_any (p : Nat) (S : DS) (L : DL) (f : Int) (w : World) (hf : inI64 f) (h : DK w p S L) :
    Calls Tryz.prog 46 #[.pointer (some ⟨p, 0, none⟩), .int .i64 f] w (OpenOut p S f w) := by
  have H := Lib.hid h
  have HF := Lib.hid hf
  have HP : Hid (∀ e w', OpenOut p S f w e w' → OpenOut p S f w e w') := Lib.hid fun _ _ h => h
  have hsd : S.readS f 0 1 = bs (sideE S f) := (bs_eta _).symm
  have HSd := Lib.hid hsd
  clear h hsd
  go_enter Tryz.func46, Tryz.ntmps46
  by_cases g1 : f < 0 ∨ 13 < f
  · have hc : openE S f = 1 := by unfold openE; rw [if_pos g1]
    have HQ : Hid (OpenOut p S f w (.returned (.tuple #[.pointer none, .int .i64 1])) w) := Lib.hid (.inr ⟨by rw [hc]; decide, by rw [hc], rfl⟩)
    clear hc
    by_cases g2 : f < 0
    · have d1 : decide (f < 0) = true := by simpa using g2
      clear g1 g2
      go_wp2_with fail
      go_ret2
      exact HQ.out
    · have d1 : decide (f < 0) = false := by simpa using g2
      have d2 : decide (13 < f) = true := by simp; omega
      clear g1 g2
      go_wp2_with fail
      go_ret2
      exact HQ.out
  · have d1 : decide (f < 0) = false := by simp; omega
    have d2 : decide (13 < f) = false := by simp; omega
    have HC : Hid (openE S f = if S.readC f 0 1 ≠ 0 then S.readC f 0 1 else if sideE S f = [] ∨ sideE S f = [48] ∨ sideE S f = [49] then 0 else 22) := Lib.hid (by unfold openE; rw [if_neg g1])
    clear g1
    go_wp2_with fail
    refine (dRead_any p S L w f 0 1 HF.out H.out).mono ?_
    rintro e w1 ⟨rfl, hw⟩
    obtain rfl : w = w1 := hw.symm
    rw [HSd.out]
    by_cases g2 : S.readC f 0 1 = 0
    rotate_left
    · have d3 : (S.readC f 0 1 != 0) = true := by simpa using g2
      have HQ : Hid (OpenOut p S f w (.returned (.tuple #[.pointer none, .int .i64 (S.readC f 0 1)])) w) := Lib.hid (.inr ⟨by rw [HC.out, if_pos g2]; exact g2, by rw [HC.out, if_pos g2], rfl⟩)
      clear g2
      go_wp2_with fail
      go_ret2
      exact HQ.out
    · rw [if_neg (by simpa using g2)] at HC
      rw [g2]
      obtain ⟨sd, hs⟩ : ∃ x, x = sideE S f := ⟨_, rfl⟩
      rw [← hs] at HC ⊢
      have HS := Lib.hid hs
      clear hs g2
      by_cases g3 : PtrOk sd
      · have hc : openE S f = 0 := by rw [HC.out]; exact if_pos g3
        have HQ : Hid (OpenOut p S f w (.returned (.tuple #[.pointer (some ⟨w.heap.size, 0, none⟩), .int .i64 0])) (w.alloc (.cells #[.pointer (some ⟨p, 0, none⟩), .int .i64 f, .string (bs sd)] 84))) := Lib.hid (.inl ⟨hc, by rw [← HS.out]; exact g3, rfl, by rw [← HS.out]; rfl⟩)
        clear hc HC HS
        rcases g3 with rfl | rfl | rfl
        · rw [show bs [] = ⟨#[]⟩ from rfl] at HQ ⊢
          go_wp2_with fail
          go_ret2
          exact HQ.out
        · rw [show bs [48] = ⟨#[48]⟩ from rfl] at HQ ⊢
          go_wp2_with fail
          go_ret2
          exact HQ.out
        · rw [show bs [49] = ⟨#[49]⟩ from rfl] at HQ ⊢
          go_wp2_with fail
          go_ret2
          exact HQ.out
      · have hc : openE S f = 22 := by rw [HC.out]; exact if_neg g3
        have HQ : Hid (OpenOut p S f w (.returned (.tuple #[.pointer none, .int .i64 22])) w) := Lib.hid (.inr ⟨by rw [hc]; decide, by rw [hc], rfl⟩)
        have q0 : ¬ (bs sd).toList = [] := by rw [bs_toList]; exact fun e => g3 (.inl e)
        have q1 : ¬ (bs sd).toList = [48] := by rw [bs_toList]; exact fun e => g3 (.inr (.inl e))
        have q2 : ¬ (bs sd).toList = [49] := by rw [bs_toList]; exact fun e => g3 (.inr (.inr e))
        have b0 : (bs sd).toList.isEmpty = false := by simpa using q0
        have b1 : ((bs sd).toList == [48]) = false := by simpa using q1
        have b2 : ((bs sd).toList == [49]) = false := by simpa using q2
        clear hc HC g3
        go_wp2_with fail
        go_ret2
        exact HQ.out
end Go.Proofs.YtjmkodkechahdaaGreatDoor
/- Contracts of erase: sides, settle, the closures of Rewrite and the last one of Recover. -/
set_option linter.unusedSimpArgs false
set_option linter.unusedVariables false
namespace Go.Proofs.YtjmkodkechahdaaGreatDoor
open Go.RowKit
set_option maxRecDepth 100000

/-- The list of records lies in block b. -/
def LsAt (b p : Nat) (f : Int) (side : List UInt8) (w : World) : Prop := w.heap[b]? = some (.cells (lsCs p f side) 84 (0, 0))
section
variable {b p : Nat} {f : Int} {side : List UInt8} {w w' : World}
theorem LsAt.lt (h : LsAt b p f side w) : b < w.heap.size := box_lt h
theorem LsAt.c0 (h : LsAt b p f side w) : w.cell? ⟨b, 0, none⟩ = some (.pointer (some ⟨p, 0, none⟩)) := box_cell h 0 _ rfl
theorem LsAt.c1 (h : LsAt b p f side w) : w.cell? ⟨b, 1, none⟩ = some (.int .i64 f) := box_cell h 1 _ rfl
theorem LsAt.c2 (h : LsAt b p f side w) : w.cell? ⟨b, 2, none⟩ = some (.string (bs side)) := box_cell h 2 _ rfl
theorem LsAt.now (h : LsAt b p f side w) (hb : Below w.heap.size w w') : LsAt b p f side w' := (hb.block b h.lt).trans h
end
/-- A test of the side against "0". -/
theorem side_test {side : List UInt8} (h : ¬ side = [48]) : ((bs side).toList == [48]) = false ∧ ¬ (bs side).toList = [48] := by rw [bs_toList]; exact ⟨by simpa using h, h⟩
theorem side_test0 {side : List UInt8} (h : ¬ side = []) : (bs side).toList.isEmpty = false ∧ ¬ (bs side).toList = [] := by rw [bs_toList]; exact ⟨by simpa using h, h⟩
theorem eSides_any (b p : Nat) (f : Int) (side : List UInt8) (w : World) (h : LsAt b p f side w) (hf : 0 ≤ f ∧ f ≤ 13) :
    Calls Tryz.prog 47 #[.pointer (some ⟨b, 0, none⟩)] w fun e w' => e = .returned (.tuple #[.int .i64 (nowF f side), .int .i64 (othF f side)]) ∧ Below w.heap.size w w' := by
  have c1 := h.c1
  have c2 := h.c2
  have hl := h.lt
  have w1 : IntKind.i64.wrap (f + 1) = f + 1 := by rw [IntKind.wrap_i64]; omega
  have w2 : IntKind.i64.wrap (f + 2) = f + 2 := by rw [IntKind.wrap_i64]; omega
  clear h
  go_enter Tryz.func47, Tryz.ntmps47
  by_cases g1 : side = [48]
  · subst g1
    rw [show bs [48] = ⟨#[48]⟩ from rfl] at c2
    go_wp2_with fail
    go_quiet (fail)
    go_wp2_with fail
    go_ret2
    exact ⟨by simp [nowF, othF], below_drewN (Below.refl _ _) _⟩
  · have HG := Lib.hid g1
    obtain ⟨q1, q2⟩ := side_test g1
    clear g1
    go_wp2_with fail
    go_quiet (fail)
    go_wp2_with fail
    go_ret2
    exact ⟨by simp [nowF, othF, HG.out], below_drewN (Below.refl _ _) _⟩
theorem eSettle_any (b p : Nat) (f : Int) (side : List UInt8) (S : DS) (L : DL) (w : World) (h : LsAt b p f side w) (hf : inI64 f) (hk : S.keep.length ≤ 4194320) (hd : DK w p S L) :
    Calls Tryz.prog 49 #[.pointer (some ⟨b, 0, none⟩)] w fun e w' => e = .returned (.int .i64 (setR f side S).1) ∧ ∃ L', OUpd (dOb p S L) (dOb p (setR f side S).2 L') w w' := by
  have c0 := h.c0
  have c1 := h.c1
  have c2 := h.c2
  have hl := h.lt
  have HF := Lib.hid hf
  have HD := Lib.hid hd
  clear h hf hd
  go_enter Tryz.func49, Tryz.ntmps49
  by_cases g1 : side = []
  · subst g1
    rw [show bs [] = ⟨#[]⟩ from rfl] at c2
    go_wp2_with fail
    go_ret
    exact ⟨rfl, L, OUpd.refl HD.out⟩
  · have HG := Lib.hid g1
    obtain ⟨q1, q2⟩ := side_test0 g1
    clear g1
    go_wp2_with fail
    go_still_tail 8, (by kernel_rfl)
    change wpList _ _ _ _ _ w.drew
    have HDr := Lib.hid (Below.drew (Below.refl w.heap.size w))
    have H1 := Lib.hid (Ob.below (a := dOb p S L) HD.out HDr.out)
    clear c0 c1 c2
    generalize w.drew = wd at *
    go_wp2_with fail
    refine (dSync_any p S L _ f HF.out hk H1.out).mono ?_
    rintro e w1 ⟨rfl, hu⟩
    obtain ⟨L1, u0⟩ := hu.ob (S := S)
    have HU := Lib.hid ((OUpd.of_below (a := dOb p S L) HD.out HDr.out).trans u0)
    clear hu u0
    go_wp2_with fail
    go_ret
    exact ⟨by simp [setR, HG.out, syR], L1, by simp only [setR, HG.out, if_false, syR]; exact HU.out⟩
-- the closures: HC.. the cells of what they capture
theorem eRw1_any (b3 b12 p : Nat) (o : Int) (S : DS) (L : DL) (w : World) (c3 : w.cell? ⟨b3, 0, none⟩ = some (.pointer (some ⟨p, 0, none⟩))) (l3 : b3 < w.heap.size) (c12 : w.cell? ⟨b12, 0, none⟩ = some (.int .i64 o)) (l12 : b12 < w.heap.size) (ho : inI64 o) (hk : S.keep.length ≤ 4194320) (hd : DK w p S L) :
    Calls Tryz.prog 57 #[.pointer (some ⟨b3, 0, none⟩), .pointer (some ⟨b12, 0, none⟩)] w fun e w' => e = .returned (.int .i64 (trR o S).1) ∧ ∃ L', OUpd (dOb p S L) (dOb p (trR o S).2 L') w w' := by
  have HO := Lib.hid ho
  have HD := Lib.hid hd
  clear ho hd
  go_enter Tryz.func57, Tryz.ntmps57
  go_wp2_with fail
  refine (dTrunc_any p S L _ o 0 HO.out (by unfold inI64; omega) hk HD.out).mono ?_
  rintro e w1 ⟨rfl, hu⟩
  obtain ⟨L1, u0⟩ := hu.ob (S := S)
  have HU := Lib.hid u0
  clear hu u0
  go_wp2_with fail
  go_ret
  exact ⟨rfl, L1, HU.out⟩
theorem eRc2_any (b3 b12 p : Nat) (o : Int) (S : DS) (L : DL) (w : World) (c3 : w.cell? ⟨b3, 0, none⟩ = some (.pointer (some ⟨p, 0, none⟩))) (l3 : b3 < w.heap.size) (c12 : w.cell? ⟨b12, 0, none⟩ = some (.int .i64 o)) (l12 : b12 < w.heap.size) (ho : inI64 o) (hk : S.keep.length ≤ 4194320) (hd : DK w p S L) :
    Calls Tryz.prog 54 #[.pointer (some ⟨b3, 0, none⟩), .pointer (some ⟨b12, 0, none⟩)] w fun e w' => e = .returned (.int .i64 (trR o S).1) ∧ ∃ L', OUpd (dOb p S L) (dOb p (trR o S).2 L') w w' := by
  have HO := Lib.hid ho
  have HD := Lib.hid hd
  clear ho hd
  go_enter Tryz.func54, Tryz.ntmps54
  go_wp2_with fail
  refine (dTrunc_any p S L _ o 0 HO.out (by unfold inI64; omega) hk HD.out).mono ?_
  rintro e w1 ⟨rfl, hu⟩
  obtain ⟨L1, u0⟩ := hu.ob (S := S)
  have HU := Lib.hid u0
  clear hu u0
  go_wp2_with fail
  go_ret
  exact ⟨rfl, L1, HU.out⟩
theorem eRw2_any (b3 b12 b7 p : Nat) (o : Int) (t : List UInt8) (S : DS) (L : DL) (w : World) (c3 : w.cell? ⟨b3, 0, none⟩ = some (.pointer (some ⟨p, 0, none⟩))) (l3 : b3 < w.heap.size) (c12 : w.cell? ⟨b12, 0, none⟩ = some (.int .i64 o)) (l12 : b12 < w.heap.size)
    (c7 : w.cell? ⟨b7, 0, none⟩ = some (.string (bs t))) (l7 : b7 < w.heap.size) (ht : t.length ≤ 1073741824) (ho : inI64 o) (hk : S.keep.length ≤ 4194320) (hd : DK w p S L) :
    Calls Tryz.prog 58 #[.pointer (some ⟨b3, 0, none⟩), .pointer (some ⟨b12, 0, none⟩), .pointer (some ⟨b7, 0, none⟩)] w fun e w' => e = .returned (.int .i64 (wrR o t S).1) ∧ ∃ L', OUpd (dOb p S L) (dOb p (wrR o t S).2 L') w w' := by
  have HO := Lib.hid ho
  have HD := Lib.hid hd
  have hz : (bs t).size = t.length := bs_size t
  clear ho hd
  go_enter Tryz.func58, Tryz.ntmps58
  go_wp2_with fail
  refine (dWrite_any p S L _ o 0 (bs t) HO.out (by unfold inI64; omega) (by omega) hk HD.out).mono ?_
  rintro e w1 ⟨rfl, hu⟩
  obtain ⟨L1, u0⟩ := hu.ob (S := S)
  have HU := Lib.hid u0
  clear hu u0
  go_wp2_with fail
  go_ret
  exact ⟨rfl, L1, HU.out⟩
theorem eRw4_any (b3 b12 b7 p : Nat) (o : Int) (t : List UInt8) (S : DS) (L : DL) (w : World) (c3 : w.cell? ⟨b3, 0, none⟩ = some (.pointer (some ⟨p, 0, none⟩))) (l3 : b3 < w.heap.size) (c12 : w.cell? ⟨b12, 0, none⟩ = some (.int .i64 o)) (l12 : b12 < w.heap.size)
    (c7 : w.cell? ⟨b7, 0, none⟩ = some (.string (bs t))) (l7 : b7 < w.heap.size) (ht : t.length ≤ 1073741824) (ho : inI64 o) (hk : S.keep.length ≤ 4194320) (hd : DK w p S L) :
    Calls Tryz.prog 61 #[.pointer (some ⟨b3, 0, none⟩), .pointer (some ⟨b12, 0, none⟩), .pointer (some ⟨b7, 0, none⟩)] w fun e w' => e = .returned (.int .i64 (wrR o t S).1) ∧ ∃ L', OUpd (dOb p S L) (dOb p (wrR o t S).2 L') w w' := by
  have HO := Lib.hid ho
  have HD := Lib.hid hd
  have hz : (bs t).size = t.length := bs_size t
  clear ho hd
  go_enter Tryz.func61, Tryz.ntmps61
  go_wp2_with fail
  refine (dWrite_any p S L _ o 0 (bs t) HO.out (by unfold inI64; omega) (by omega) hk HD.out).mono ?_
  rintro e w1 ⟨rfl, hu⟩
  obtain ⟨L1, u0⟩ := hu.ob (S := S)
  have HU := Lib.hid u0
  clear hu u0
  go_wp2_with fail
  go_ret
  exact ⟨rfl, L1, HU.out⟩
theorem eRw3_any (b3 b12 p : Nat) (o : Int) (S : DS) (L : DL) (w : World) (c3 : w.cell? ⟨b3, 0, none⟩ = some (.pointer (some ⟨p, 0, none⟩))) (l3 : b3 < w.heap.size) (c12 : w.cell? ⟨b12, 0, none⟩ = some (.int .i64 o)) (l12 : b12 < w.heap.size) (ho : inI64 o) (hk : S.keep.length ≤ 4194320) (hd : DK w p S L) :
    Calls Tryz.prog 59 #[.pointer (some ⟨b3, 0, none⟩), .pointer (some ⟨b12, 0, none⟩)] w fun e w' => e = .returned (.int .i64 (syR o S).1) ∧ ∃ L', OUpd (dOb p S L) (dOb p (syR o S).2 L') w w' := by
  have HO := Lib.hid ho
  have HD := Lib.hid hd
  clear ho hd
  go_enter Tryz.func59, Tryz.ntmps59
  go_wp2_with fail
  refine (dSync_any p S L _ o HO.out hk HD.out).mono ?_
  rintro e w1 ⟨rfl, hu⟩
  obtain ⟨L1, u0⟩ := hu.ob (S := S)
  have HU := Lib.hid u0
  clear hu u0
  go_wp2_with fail
  go_ret
  exact ⟨rfl, L1, HU.out⟩
theorem eRw5_any (b3 b12 p : Nat) (o : Int) (S : DS) (L : DL) (w : World) (c3 : w.cell? ⟨b3, 0, none⟩ = some (.pointer (some ⟨p, 0, none⟩))) (l3 : b3 < w.heap.size) (c12 : w.cell? ⟨b12, 0, none⟩ = some (.int .i64 o)) (l12 : b12 < w.heap.size) (ho : inI64 o) (hk : S.keep.length ≤ 4194320) (hd : DK w p S L) :
    Calls Tryz.prog 62 #[.pointer (some ⟨b3, 0, none⟩), .pointer (some ⟨b12, 0, none⟩)] w fun e w' => e = .returned (.int .i64 (syR o S).1) ∧ ∃ L', OUpd (dOb p S L) (dOb p (syR o S).2 L') w w' := by
  have HO := Lib.hid ho
  have HD := Lib.hid hd
  clear ho hd
  go_enter Tryz.func62, Tryz.ntmps62
  go_wp2_with fail
  refine (dSync_any p S L _ o HO.out hk HD.out).mono ?_
  rintro e w1 ⟨rfl, hu⟩
  obtain ⟨L1, u0⟩ := hu.ob (S := S)
  have HU := Lib.hid u0
  clear hu u0
  go_wp2_with fail
  go_ret
  exact ⟨rfl, L1, HU.out⟩
theorem eRw6_any (b9 b b3 b11 p : Nat) (f o : Int) (side : List UInt8) (S : DS) (L : DL) (w : World) (c9 : w.cell? ⟨b9, 0, none⟩ = some (.pointer (some ⟨b, 0, none⟩))) (l9 : b9 < w.heap.size) (h : LsAt b p f side w) (c3 : w.cell? ⟨b3, 0, none⟩ = some (.pointer (some ⟨p, 0, none⟩))) (l3 : b3 < w.heap.size)
    (c11 : w.cell? ⟨b11, 0, none⟩ = some (.int .i64 o)) (l11 : b11 < w.heap.size) (ho : inI64 o) (hk : S.keep.length ≤ 4194320) (hd : DK w p S L) (heq : o = nowF f side) :
    Calls Tryz.prog 63 #[.pointer (some ⟨b9, 0, none⟩), .pointer (some ⟨b3, 0, none⟩), .pointer (some ⟨b11, 0, none⟩)] w fun e w' => e = .returned (.int .i64 (endR f side S).1) ∧ ∃ L', OUpd (dOb p S L) (dOb p (endR f side S).2 L') w w' := by
  have HO := Lib.hid ho
  have HD := Lib.hid hd
  have HEq := Lib.hid heq
  have c2 := h.c2
  have hl := h.lt
  clear ho hd heq h
  go_enter Tryz.func63, Tryz.ntmps63
  by_cases g1 : side = []
  · subst g1
    rw [show bs [] = ⟨#[]⟩ from rfl] at c2
    go_wp2_with fail
    go_ret
    exact ⟨rfl, L, OUpd.refl HD.out⟩
  · have HG := Lib.hid g1
    obtain ⟨q1, q2⟩ := side_test0 g1
    clear g1
    go_wp2_with fail
    refine (dTrunc_any p S L _ o 0 HO.out (by unfold inI64; omega) hk HD.out).mono ?_
    rintro e w1 ⟨rfl, hu⟩
    obtain ⟨L1, u0⟩ := hu.ob (S := S)
    have HU := Lib.hid u0
    clear hu u0
    go_wp2_with fail
    go_ret
    exact ⟨by simp [endR, HG.out, trR, ← HEq.out], L1, by simp only [endR, HG.out, if_false, trR, ← HEq.out]; exact HU.out⟩
end Go.Proofs.YtjmkodkechahdaaGreatDoor
/- Contract of erase.fits. -/
set_option linter.unusedSimpArgs false
set_option linter.unusedVariables false
namespace Go.Proofs.YtjmkodkechahdaaGreatDoor
open Go.RowKit
set_option maxRecDepth 100000

def longB (l : List (List UInt8)) : Bool := l.any (fun s => decide (20000 < s.length))
theorem eFits1_any (s : List UInt8) (w : World) : Calls Tryz.prog 89 #[.string (bs s)] w fun e w' => e = .returned (.bool (decide (20000 < s.length))) ∧ w = w' := by
  have hz : (bs s).size = s.length := bs_size s
  have hd : decide ((20000 : Int) < (s.length : Int)) = decide (20000 < s.length) := by rw [Bool.eq_iff_iff]; simp; omega
  go_enter Tryz.func89, Tryz.ntmps89
  go_wp2_with fail
  go_ret
  exact ⟨by rw [← hd]; rfl, rfl⟩
theorem fIdxS_any (l : List (List UInt8)) (A : Option Addr) (c : Nat) (w : World) (hr : RdL 1 strE w w.heap.size A l) (hl : l.length ≤ 9223372036854775807) :
    Calls Tryz.prog 107 #[.slice A l.length c, .func (.func 89) #[] #[]] w fun e w' => ∃ i : Int, e = .returned (.int .i64 i) ∧ decide (0 ≤ i) = longB l ∧ w = w' := by
  have HR := Lib.hid hr
  clear hr
  go_enter Tryz.func107, Tryz.ntmps107
  go_wp2_with fail
  go_loopw [5, 8] (fun _ i wr => ∃ k : Nat, k ≤ l.length ∧ i = .int .i64 k ∧ longB (l.take k) = false ∧ w = wr) (fun _ i _ => l.length - (intOf i).toNat)
  case atStart => exact ⟨0, Nat.zero_le _, rfl, rfl, rfl⟩
  case round =>
    obtain ⟨k, hk, rfl, hf, rfl⟩ := hrel
    have HFk := Lib.hid hf
    clear hf
    by_cases hlt : k < l.length
    · have d1 : decide ((k : Int) < (l.length : Int)) = true := by simp; omega
      obtain ⟨b, off, rfl, hc⟩ := rd_str HR.out hlt
      have HTk : Hid (longB (l.take (k + 1)) = decide (20000 < l[k].length)) := Lib.hid (by
        have := HFk.out
        unfold longB at this ⊢
        rw [List.take_succ_eq_append_getElem hlt, List.any_append, this]
        simp)
      have hlg : decide (20000 < l[k].length) = true → longB l = true := fun h => by
        unfold longB
        exact List.any_eq_true.2 ⟨l[k], List.getElem_mem hlt, h⟩
      have HLg := Lib.hid hlg
      clear hlg
      generalize l[k] = s at *
      go_wp2_with fail
      refine (eFits1_any s w).mono ?_
      rintro e w1 ⟨rfl, hw⟩
      obtain rfl := hw
      cases hs : decide (20000 < s.length) with
      | true =>
        have HL2 := Lib.hid (HLg.out hs)
        clear HLg HTk
        go_wp2_with fail
        go_ret
        exact ⟨k, rfl, by rw [HL2.out]; simp, rfl⟩
      | false =>
        rw [hs] at HTk
        go_wp2_with fail
        go_roundw
        case rel => exact ⟨k + 1, by omega, by go_num, HTk.out, by trivial⟩
        case measure => simp [intOf]; omega
    · obtain rfl : k = l.length := by omega
      have d1 : decide ((l.length : Int) < (l.length : Int)) = false := by simp
      have hF := HFk.out
      rw [List.take_length] at hF
      have HF := Lib.hid hF
      clear hF
      go_wp2_with fail
      go_ret
      exact ⟨-1, rfl, by rw [HF.out]; rfl, rfl⟩
theorem fConS_any (l : List (List UInt8)) (A : Option Addr) (c : Nat) (w : World) (hr : RdL 1 strE w w.heap.size A l) (hl : l.length ≤ 9223372036854775807) :
    Calls Tryz.prog 88 #[.slice A l.length c, .func (.func 89) #[] #[]] w fun e w' => e = .returned (.bool (longB l)) ∧ w = w' := by
  go_enter Tryz.func88, Tryz.ntmps88
  go_wp2_with fail
  refine (fIdxS_any l A c w hr hl).mono ?_
  rintro e w1 ⟨i, rfl, hi, hw⟩
  obtain rfl := hw
  have HI := Lib.hid hi
  clear hi
  go_wp2_with fail
  go_ret
  exact ⟨by rw [← HI.out]; rfl, rfl⟩
theorem fits_of (l : List (List UInt8)) : fitsE l = (decide (l.length ≤ 1000) && (!longB l && decide ((textsL l).length ≤ 1048576))) := by
  have h : l.all (fun s => decide (s.length ≤ 20000)) = !longB l := by
    unfold longB
    rw [Bool.eq_iff_iff]
    simp
  unfold fitsE
  rw [h]
theorem tot_boundE (m : Nat) : ∀ l : List (List UInt8), (∀ s ∈ l, s.length ≤ m) → tot l ≤ l.length * m
  | [], _ => by simp [tot]
  | s :: r, h => by
    have h1 := tot_boundE m r (fun x hx => h x (by simp [hx]))
    have h2 := h s (by simp)
    simp only [tot, List.map_cons, List.sum_cons, List.length_cons, Nat.add_mul] at *
    omega
def FitsOut (l : List (List UInt8)) (w : World) (e : Ending) (w' : World) : Prop := ∃ t, e = .returned (.tuple #[.string (bs t), .bool (fitsE l)]) ∧ (fitsE l = true → t = textsL l) ∧ Below w.heap.size w w'
theorem eFits_any {B : Nat} (l : List (List UInt8)) (A : Option Addr) (c : Nat) (w : World) (hV : Vs B w) (hr : RdL 1 strE w w.heap.size A l) (hl : l.length ≤ 9223372036854775807) :
    Calls Tryz.prog 56 #[.slice A l.length c] w (FitsOut l w) := by
  have HR := Lib.hid hr
  have HV := Lib.hid hV
  have HE := Lib.hid (fits_of l)
  clear hr hV
  go_enter Tryz.func56, Tryz.ntmps56
  by_cases g1 : 1000 < l.length
  · have d1 : decide ((1000 : Int) < (l.length : Int)) = true := by simp; omega
    have hf : fitsE l = false := by rw [HE.out]; have : decide (l.length ≤ 1000) = false := by simp; omega
                                    rw [this]; rfl
    have HQ : Hid (FitsOut l w (.returned (.tuple #[.string ⟨#[]⟩, .bool false])) w) := Lib.hid ⟨[], by rw [hf]; rfl, fun h => absurd h (by rw [hf]; decide), Below.refl _ _⟩
    clear hf g1
    go_wp2_with fail
    go_ret2
    exact HQ.out
  · have d1 : decide ((1000 : Int) < (l.length : Int)) = false := by simp; omega
    go_wp2_with fail
    refine (fConS_any l A c w HR.out hl).mono ?_
    rintro e w1 ⟨rfl, hw⟩
    obtain rfl := hw
    cases hlg : longB l with
    | true =>
      have hf : fitsE l = false := by rw [HE.out, hlg]; simp
      have HQ : Hid (FitsOut l w (.returned (.tuple #[.string ⟨#[]⟩, .bool false])) w) := Lib.hid ⟨[], by rw [hf]; rfl, fun h => absurd h (by rw [hf]; decide), Below.refl _ _⟩
      clear hf hlg
      go_wp2_with fail
      go_ret2
      exact HQ.out
    | false =>
      have hall : ∀ s ∈ l, s.length ≤ 20000 := fun s hs => by
        have := hlg
        unfold longB at this
        rw [List.any_eq_false] at this
        have := this s hs
        simpa using this
      have htot := tot_boundE 20000 l hall
      have hf : fitsE l = decide ((textsL l).length ≤ 1048576) := by
        rw [HE.out, hlg]
        have : decide (l.length ≤ 1000) = true := by simp; omega
        rw [this]
        simp
      have HF := Lib.hid hf
      clear hf hlg hall
      go_wp2_with fail
      refine (wTexts_any l A c w HV.out HR.out (by omega) (by omega)).mono ?_
      rintro e w1 ⟨rfl, hb⟩
      have HB := Lib.hid hb
      obtain ⟨t, ht⟩ : ∃ t, t = textsL l := ⟨_, rfl⟩
      rw [show encL encT l = t from ht.symm]
      have hz : (bs t).size = t.length := bs_size t
      have hd : decide ((t.length : Int) ≤ 1048576) = fitsE l := by rw [HF.out, ← ht, Bool.eq_iff_iff]; simp; omega
      have HT := Lib.hid ht
      have HD := Lib.hid hd
      clear hb ht hd
      go_wp2_with fail
      go_ret2
      exact ⟨t, by rw [← HD.out]; rfl, fun _ => HT.out, HB.out⟩
end Go.Proofs.YtjmkodkechahdaaGreatDoor
/- Contract of erase.Rewrite. -/
set_option linter.unusedSimpArgs false
set_option linter.unusedVariables false
namespace Go.Proofs.YtjmkodkechahdaaGreatDoor
open Go.RowKit
set_option maxRecDepth 100000

theorem OUpd.cellD {p : Nat} {S T : DS} {L L' : DL} {W wx : World} (u : OUpd (dOb p S L) (dOb p T L') W wx) {b : Nat} (hb : b < W.heap.size) (hn : ¬ L.own p b) (o : Nat) : wx.cell? ⟨b, o, none⟩ = W.cell? ⟨b, o, none⟩ :=
  World.cell?_of_block (u.turn.block b hb hn)
theorem stepsD_any (p : Nat) (S : DS) (L : DL) (ks : List (DS → Res)) (fs : List FV) (A : Option Addr) (c : Nat) (W : World) (hln : fs.length = ks.length) (h100 : fs.length ≤ 100) (hent : ∀ f ∈ fs, ∀ args w, (callFunc f.n args).run Tryz.prog w = .ok (.enter f.n args) w)
    (hd : DK W p S L) (hrd : RdL 1 fvE W W.heap.size A fs) (hA : ∀ i, slBlk A = some i → ¬ L.own p i)
    (hstep : ∀ (i : Nat) (f : FV) (k : DS → Res), fs[i]? = some f → ks[i]? = some k → ∀ (T : DS) (L' : DL) (wx : World), T.keep = S.keep → OUpd (dOb p S L) (dOb p T L') W wx → Calls Tryz.prog f.n (f.bnd ++ f.cap) wx fun e w' => e = .returned (.int .i64 (k T).1) ∧ ∃ L'', OUpd (dOb p T L') (dOb p (k T).2 L'') wx w')
    (hkeep : ∀ k ∈ ks, ∀ T : DS, (k T).2.keep = T.keep) :
    Calls Tryz.prog 48 #[.slice A fs.length c] W fun e w' => e = .returned (.int .i64 (runL ks S).1) ∧ ∃ L', OUpd (dOb p S L) (dOb p (runL ks S).2 L') W w' := by
  refine (steps_any fs A c W (fun i wx => ∃ (T : DS) (L' : DL), runL ks S = runL (ks.drop i) T ∧ T.keep = S.keep ∧ OUpd (dOb p S L) (dOb p T L') W wx) (fun x wx => x = (runL ks S).1 ∧ ∃ L', OUpd (dOb p S L) (dOb p (runL ks S).2 L') W wx) h100 hent ?_ ?_ ⟨S, L, by rw [List.drop_zero], rfl, OUpd.refl hd⟩).mono ?_
  · rintro i wx ⟨T, L', _, _, u⟩
    exact hrd.turn (fun i hi hl => u.turn.block i hl (hA i hi)) u.turn.size
  · rintro i f wx hi ⟨T, L', hrun, hkp, u⟩
    have hlt : i < ks.length := by have := (List.getElem?_eq_some_iff.1 hi).1; omega
    have hki : ks[i]? = some ks[i] := List.getElem?_eq_getElem hlt
    refine (hstep i f ks[i] hi hki T L' wx hkp u).mono ?_
    rintro e w' ⟨rfl, L2, u2⟩
    rw [List.drop_eq_getElem_cons hlt] at hrun
    refine ⟨(ks[i] T).1, rfl, fun h0 => ?_, fun h0 => ?_⟩
    · rw [runL, if_pos h0] at hrun
      exact ⟨(ks[i] T).2, L2, hrun, (hkeep _ (List.getElem_mem hlt) T).trans hkp, u.trans u2⟩
    · rw [runL, if_neg h0] at hrun
      rw [hrun]
      exact ⟨rfl, L2, u.trans u2⟩
  · rintro e w' ⟨x, rfl, h0, h1⟩
    by_cases hx : x = 0
    · obtain ⟨T, L', hrun, _, u⟩ := h0 hx
      rw [hln, List.drop_length] at hrun
      rw [hrun]
      exact ⟨by rw [hx]; rfl, L', u⟩
    · obtain ⟨h2, h3⟩ := h1 hx
      exact ⟨by rw [h2], h3⟩
theorem rew_keeps (f : Int) (p t : List UInt8) : ∀ k ∈ rewL f p t, ∀ T : DS, (k T).2.keep = T.keep := by
  intro k hk T
  unfold rewL at hk
  simp only [List.mem_cons, List.not_mem_nil, or_false] at hk
  rcases hk with rfl | rfl | rfl | rfl | rfl | rfl | rfl
  · unfold setR
    split
    · rfl
    · exact sync_keep _ _
  · exact trunc_keep _ _ _
  · exact write_keep _ _ _ _
  · exact sync_keep _ _
  · exact write_keep _ _ _ _
  · exact sync_keep _ _
  · unfold endR
    split
    · rfl
    · exact trunc_keep _ _ _
-- rwTail sd : the last statement of Rewrite, in the world w7
theorem rdBlockE {T : Type} {sz : Nat} {enc : T → List Value} (L : Lay sz enc) (w : World) (xs : List T) (cs : Array Value) (t : TypeId) (h : cs.toList = xs.flatMap enc) (b : Nat) (hb : b = w.heap.size) :
    RdL sz enc (w.alloc (.cells cs t)) (w.alloc (.cells cs t)).heap.size (some ⟨b, 0, none⟩) xs := by
  subst hb
  intro k x hx
  refine ⟨_, _, rfl, by simp, fun j v hj => ?_⟩
  have hg := flat_get L xs k j x v hx hj
  rw [← h] at hg
  unfold World.cell?
  simp only [heap_alloc_new]
  simpa using hg
theorem fvLay : Lay 1 fvE := ⟨fun _ => rfl, fun x u hu => by simp only [fvE, List.mem_singleton] at hu; subst hu; rfl⟩
def RewPost (p : Nat) (S : DS) (L : DL) (f : Int) (l : List (List UInt8)) (w : World) (e : Ending) (w' : World) : Prop := e = .returned (.int .i64 (rewE S f l).1) ∧ ∃ L', OUpd (dOb p S L) (dOb p (rewE S f l).2 L') w w'
set_option maxHeartbeats 4000000 in
theorem eRewrite_any {B : Nat} (p : Nat) (S : DS) (L : DL) (f : Int) (l : List (List UInt8)) (A : Option Addr) (c : Nat) (w : World) (hV : Vs B w) (hr : RdL 1 strE w w.heap.size A l) (hl : l.length ≤ 9223372036854775807) (hf : inI64 f) (hk : S.keep.length ≤ 4194320) (hd : DK w p S L) :
    Calls Tryz.prog 22 #[.pointer (some ⟨p, 0, none⟩), .int .i64 f, .slice A l.length c] w (RewPost p S L f l w) := by
  have HR := Lib.hid hr
  have HV := Lib.hid hV
  have HF := Lib.hid hf
  have HD := Lib.hid hd
  have HP : Hid (∀ e w', RewPost p S L f l w e w' → RewPost p S L f l w e w') := Lib.hid fun _ _ h => h
  clear hr hV hf hd
  go_enter Tryz.func22, Tryz.ntmps22
  have hb0 : Below w.heap.size w ((w.alloc (.cells #[.pointer (some ⟨p, 0, none⟩)] 27)).alloc (.cells #[.int .i64 f] 3)) := by repeat (first | with_reducible exact Below.refl _ _ | with_reducible assumption | with_reducible refine Below.drew ?_ | with_reducible refine Below.alloc ?_ (by first | omega | (simp; done) | (simp; omega)) _)
  by_cases g1 : f < 0 ∨ 13 < f
  · have hc : rewE S f l = (1, S) := by unfold rewE; rw [if_pos g1]
    by_cases g2 : f < 0
    · have d1 : decide (f < 0) = true := by simpa using g2
      clear g1 g2
      go_wp2_with fail
      go_ret
      exact ⟨by rw [hc]; rfl, L, by rw [hc]; exact OUpd.of_below HD.out hb0⟩
    · have d1 : decide (f < 0) = false := by simpa using g2
      have d2 : decide (13 < f) = true := by simp; omega
      clear g1 g2
      go_wp2_with fail
      go_ret
      exact ⟨by rw [hc]; rfl, L, by rw [hc]; exact OUpd.of_below HD.out hb0⟩
  have hf13 : 0 ≤ f ∧ f ≤ 13 := by omega
  have d1 : decide (f < 0) = false := by simp; omega
  have d2 : decide (13 < f) = false := by simp; omega
  have HG := Lib.hid g1
  clear g1
  go_wp2_with fail
  have c3 : ((w.alloc (.cells #[.pointer (some ⟨p, 0, none⟩)] 27)).alloc (.cells #[.int .i64 f] 3)).cell? ⟨w.heap.size, 0, none⟩ = some (.pointer (some ⟨p, 0, none⟩)) := by simp
  have c4 : ((w.alloc (.cells #[.pointer (some ⟨p, 0, none⟩)] 27)).alloc (.cells #[.int .i64 f] 3)).cell? ⟨w.heap.size + 1, 0, none⟩ = some (.int .i64 f) := by simp
  refine (eFits_any l A c _ (HV.out.now hb0) (HR.out.now hb0) hl).mono ?_
  rintro e w1 ⟨t, rfl, ht, hb1⟩
  have HT := Lib.hid ht
  have c31 := ((bcell hb1).1 w.heap.size 0 (by simp; omega)).trans c3
  have c41 := ((bcell hb1).1 (w.heap.size + 1) 0 (by simp)).trans c4
  have hB1 := hb0.trans (hb1.mono hb0.size)
  have hs1 : w.heap.size + 2 ≤ w1.heap.size := by have := hb1.size; simp at this; omega
  clear c3 c4 hb0 hb1 ht
  go_upto_region 4 with fail
  have hnL : ∀ b, w.heap.size ≤ b → ¬ L.own p b := fun b hb ho => by have := (show DK w p S L from HD.out).lt b ho; omega
  obtain ⟨w2, hw2⟩ : ∃ x, x = w1.alloc (.cells #[.string (bs t)] 9) := ⟨_, rfl⟩
  have hB2 : Below w.heap.size w w2 := by rw [hw2]; exact hB1.alloc (by omega) _
  have c32 : w2.cell? ⟨w.heap.size, 0, none⟩ = some (.pointer (some ⟨p, 0, none⟩)) := by rw [hw2]; exact (cell_old _ _ _ _ (by omega)).trans c31
  have c42 : w2.cell? ⟨w.heap.size + 1, 0, none⟩ = some (.int .i64 f) := by rw [hw2]; exact (cell_old _ _ _ _ (by omega)).trans c41
  have c72 : w2.cell? ⟨w1.heap.size, 0, none⟩ = some (.string (bs t)) := by rw [hw2]; exact cell_new1 _ _ _ _ rfl
  have hs2 : w1.heap.size < w2.heap.size := by rw [hw2]; simp
  rw [← hw2]
  clear hw2 c31 c41 hB1
  cases hfit : fitsE l with
  | false =>
    have HC : Hid (rewE S f l = (6, S)) := Lib.hid (by unfold rewE; rw [if_neg HG.out, if_pos hfit])
    clear hfit
    go_wp2_with fail
    go_ret
    exact ⟨by rw [HC.out]; rfl, L, by rw [HC.out]; exact OUpd.of_below HD.out hB2⟩
  | true =>
    have ht := HT.out hfit
    have htl : t.length ≤ 1048576 := by rw [ht]; exact (fits_parts hfit).2.2
    have HR2 : Hid (rewE S f l = if openE S f ≠ 0 then (openE S f, S) else runL (rewL f (sideE S f) t) S) := Lib.hid (by rw [ht]; unfold rewE; rw [if_neg HG.out, hfit, if_neg (by decide)])
    have HD2 := Lib.hid (Ob.below (a := dOb p S L) HD.out hB2)
    clear hfit ht HT
    go_wp2_with fail
    refine (eOpen_any p S L f _ HF.out HD2.out).mono ?_
    rintro e w3 (⟨hc, hp, rfl, hw3⟩ | ⟨hc, rfl, hw3⟩)
    rotate_left
    · obtain rfl : w2 = w3 := hw3.symm
      have HC : Hid (rewE S f l = (openE S f, S)) := Lib.hid (by rw [HR2.out, if_pos hc])
      have d5 : (openE S f != 0) = true := by simpa using hc
      have HU := Lib.hid (OUpd.of_below (a := dOb p S L) HD.out (hB2.alloc hB2.size (.cells #[.pointer none] 76)))
      clear hc
      go_wp2_with fail
      go_ret
      exact ⟨by rw [HC.out]; rfl, L, by rw [HC.out]; exact HU.out⟩
    · have HC : Hid (rewE S f l = runL (rewL f (sideE S f) t) S) := Lib.hid (by rw [HR2.out, if_neg (by simpa using hc)])
      have HPk := Lib.hid hp
      clear HR2 hc hp
      generalize sideE S f = sd at *
      have hL3 : LsAt w2.heap.size p f sd w3 := by rw [hw3]; exact (MapKept.heap_alloc w2 _).1
      have hB3 : Below w.heap.size w w3 := by rw [hw3]; exact hB2.alloc hB2.size _
      have hs3 : w2.heap.size < w3.heap.size := by rw [hw3]; simp
      have hk3 : ∀ b, b < w2.heap.size → w3.cell? ⟨b, 0, none⟩ = w2.cell? ⟨b, 0, none⟩ := fun b hb => by rw [hw3]; exact cell_old _ _ _ _ hb
      clear hw3
      go_upto_region 7 with fail
      obtain ⟨w4, hw4⟩ : ∃ x, x = w3.alloc (.cells #[.pointer (some ⟨w2.heap.size, 0, none⟩)] 76) := ⟨_, rfl⟩
      have hL4 : LsAt w2.heap.size p f sd w4 := by rw [hw4]; exact hL3.now ((Below.refl _ _).alloc (Nat.le_refl _) _)
      have hB4 : Below w.heap.size w w4 := by rw [hw4]; exact hB3.alloc hB3.size _
      have hs4 : w3.heap.size < w4.heap.size := by rw [hw4]; simp
      have hk4 : ∀ b, b < w2.heap.size → w4.cell? ⟨b, 0, none⟩ = w2.cell? ⟨b, 0, none⟩ := fun b hb => by rw [hw4]; exact (cell_old _ _ _ _ (by omega)).trans (hk3 b hb)
      have c9 : w4.cell? ⟨w3.heap.size, 0, none⟩ = some (.pointer (some ⟨w2.heap.size, 0, none⟩)) := by rw [hw4]; exact cell_new1 _ _ _ _ rfl
      rw [← hw4]
      clear hw4 hk3 hL3 hB3
      go_wp2_with fail
      refine (eSides_any w2.heap.size p f sd w4 hL4 hf13).mono ?_
      rintro e w5 ⟨rfl, hb5⟩
      have hL5 := hL4.now hb5
      have hB5 := hB4.trans (hb5.mono hB4.size)
      have hk5 : ∀ b, b < w2.heap.size → w5.cell? ⟨b, 0, none⟩ = w2.cell? ⟨b, 0, none⟩ := fun b hb => ((bcell hb5).1 b 0 (by omega)).trans (hk4 b hb)
      have c95 := ((bcell hb5).1 w3.heap.size 0 hs4).trans c9
      have hs5 := hb5.size
      clear hb5 hL4 hB4 hk4 c9
      go_upto_region 11 with fail
      obtain ⟨w6, hw6⟩ : ∃ x, x = ((w5.alloc (.cells #[.int .i64 (nowF f sd)] 3)).alloc (.cells #[.int .i64 (othF f sd)] 3)).alloc (.cells #[.string ⟨#[48]⟩] 9) := ⟨_, rfl⟩
      have hb6 : Below w5.heap.size w5 w6 := by rw [hw6]; exact (((Below.refl _ _).alloc (Nat.le_refl _) _).alloc (by simp) _).alloc (by simp; omega) _
      have c11 : w6.cell? ⟨w5.heap.size, 0, none⟩ = some (.int .i64 (nowF f sd)) := by rw [hw6]; exact (cell_old _ _ _ _ (by simp; omega)).trans ((cell_old _ _ _ _ (by simp)).trans (cell_new1 _ _ _ _ rfl))
      have c12 : w6.cell? ⟨w5.heap.size + 1, 0, none⟩ = some (.int .i64 (othF f sd)) := by rw [hw6]; exact (cell_old _ _ _ _ (by simp)).trans (cell_new1 _ _ _ _ (by simp))
      have b13 : w6.heap[w5.heap.size + 2]? = some (.cells #[.string ⟨#[48]⟩] 9 (0, 0)) := by
        rw [hw6]
        have := (MapKept.heap_alloc ((w5.alloc (.cells #[.int .i64 (nowF f sd)] 3)).alloc (.cells #[.int .i64 (othF f sd)] 3)) (.cells #[.string ⟨#[48]⟩] 9)).1
        simpa using this
      have hs6 : w6.heap.size = w5.heap.size + 3 := by rw [hw6]; simp
      rw [← hw6]
      have hL6 := hL5.now hb6
      have hB6 := hB5.trans (hb6.mono hB5.size)
      have c36 := (((bcell hb6).1 w.heap.size 0 (by omega)).trans (hk5 _ (by omega))).trans c32
      have c46 := (((bcell hb6).1 (w.heap.size + 1) 0 (by omega)).trans (hk5 _ (by omega))).trans c42
      have c76 := (((bcell hb6).1 w1.heap.size 0 (by omega)).trans (hk5 _ (by omega))).trans c72
      have c96 := ((bcell hb6).1 w3.heap.size 0 (by omega)).trans c95
      clear hw6 hb6 hL5 hB5 hk5 c95 c32 c42 c72
      have cl2 := hL6.c2
      have cl1 := hL6.lt
      by_cases g3 : sd = [48]
      · subst g3
        rw [show bs [48] = ⟨#[48]⟩ from rfl] at cl2
        have c13 := box_cell b13 0 _ rfl
        have f13 := box_free b13 0
        go_upto_region 13 with fail
        have c13w := heap_setCell_same w6 (w5.heap.size + 2) 0 _ _ (.string ⟨#[49]⟩) b13
        have hoth : ∀ b, b ≠ w5.heap.size + 2 → (w6.setCell ⟨w5.heap.size + 2, 0, none⟩ (.string ⟨#[49]⟩)).heap[b]? = w6.heap[b]? := fun b hb => heap_setCell_other w6 ⟨w5.heap.size + 2, 0, none⟩ b _ hb
        have hB7 : Below w.heap.size w (w6.setCell ⟨w5.heap.size + 2, 0, none⟩ (.string ⟨#[49]⟩)) := hB6.setCell (p := ⟨w5.heap.size + 2, 0, none⟩) (by simp; omega) _
        have hs7 : (w6.setCell ⟨w5.heap.size + 2, 0, none⟩ (.string ⟨#[49]⟩)).heap.size = w6.heap.size := by simp [World.setCell]
        clear c13 f13 cl2
        generalize w6.setCell ⟨w5.heap.size + 2, 0, none⟩ (.string ⟨#[49]⟩) = w7 at *
        have hL7 : LsAt w2.heap.size p f [48] w7 := (hoth _ (by omega)).trans hL6
        have hk7 : ∀ b, b ≠ w5.heap.size + 2 → w7.cell? ⟨b, 0, none⟩ = w6.cell? ⟨b, 0, none⟩ := fun b hb => World.cell?_of_block (hoth b hb)
        have c37 := (hk7 (w.heap.size) (by omega)).trans c36
        have c47 := (hk7 (w.heap.size + 1) (by omega)).trans c46
        have c77 := (hk7 (w1.heap.size) (by omega)).trans c76
        have c97 := (hk7 (w3.heap.size) (by omega)).trans c96
        have c117 := (hk7 (w5.heap.size) (by omega)).trans c11
        have c127 := (hk7 (w5.heap.size + 1) (by omega)).trans c12
        have c137 : w7.cell? ⟨w5.heap.size + 2, 0, none⟩ = some (.string (bs (nextP [48]))) := box_cell c13w 0 _ rfl
        clear hoth hk7 c13w hL6 hB6 c36 c46 c76 c96 c11 c12 b13
        have HSz := Lib.hid (And.intro hs6 hs7)
        have HSx := Lib.hid (And.intro (And.intro hs1 hs2) (And.intro hs3 (And.intro hs4 hs5)))
        clear hs1 hs2 hs3 hs4 hs5 hs6 hs7
        go_wp2_with fail
        obtain ⟨hs6, hs7⟩ := HSz.out
        obtain ⟨⟨hs1, hs2⟩, hs3, hs4, hs5⟩ := HSx.out
        refine (stepsD_any p S L (rewL f [48] t) [⟨49, #[.pointer (some ⟨w2.heap.size, 0, none⟩)], #[]⟩, ⟨57, #[], #[.pointer (some ⟨w.heap.size, 0, none⟩), .pointer (some ⟨w5.heap.size + 1, 0, none⟩)]⟩, ⟨58, #[], #[.pointer (some ⟨w.heap.size, 0, none⟩), .pointer (some ⟨w5.heap.size + 1, 0, none⟩), .pointer (some ⟨w1.heap.size, 0, none⟩)]⟩, ⟨59, #[], #[.pointer (some ⟨w.heap.size, 0, none⟩), .pointer (some ⟨w5.heap.size + 1, 0, none⟩)]⟩, ⟨61, #[], #[.pointer (some ⟨w.heap.size, 0, none⟩), .pointer (some ⟨w.heap.size + 1, 0, none⟩), .pointer (some ⟨w5.heap.size + 2, 0, none⟩)]⟩, ⟨62, #[], #[.pointer (some ⟨w.heap.size, 0, none⟩), .pointer (some ⟨w.heap.size + 1, 0, none⟩)]⟩, ⟨63, #[], #[.pointer (some ⟨w3.heap.size, 0, none⟩), .pointer (some ⟨w.heap.size, 0, none⟩), .pointer (some ⟨w5.heap.size, 0, none⟩)]⟩]
          (some ⟨w7.heap.size, 0, none⟩) 7 _ rfl (by simp) ?_ (Ob.below (a := dOb p S L) HD.out (hB7.alloc hB7.size _)) (rdBlockE fvLay w7 _ _ _ rfl _ rfl) (fun i hi => hnL i (by have h := Option.some.inj hi; simp only at h; omega)) ?_ (rew_keeps f [48] t)).mono ?_
        · intro fv hfv args wz
          simp only [List.mem_cons, List.not_mem_nil, or_false] at hfv
          rcases hfv with rfl | rfl | rfl | rfl | rfl | rfl | rfl
          · exact enter_of Tryz.func49 (by kernel_rfl) rfl _ _
          · exact enter_of Tryz.func57 (by kernel_rfl) rfl _ _
          · exact enter_of Tryz.func58 (by kernel_rfl) rfl _ _
          · exact enter_of Tryz.func59 (by kernel_rfl) rfl _ _
          · exact enter_of Tryz.func61 (by kernel_rfl) rfl _ _
          · exact enter_of Tryz.func62 (by kernel_rfl) rfl _ _
          · exact enter_of Tryz.func63 (by kernel_rfl) rfl _ _
        · intro i fv k hi hki T L' wx hkp u
          have hlt : i < 7 := (List.getElem?_eq_some_iff.1 hi).1
          have key : ∀ b v, b < w7.heap.size → w.heap.size ≤ b → w7.cell? ⟨b, 0, none⟩ = some v → wx.cell? ⟨b, 0, none⟩ = some v ∧ b < wx.heap.size := fun b v h1 h2 h3 => ⟨(u.cellD (by simp; omega) (hnL b h2) 0).trans ((cell_old _ _ _ _ h1).trans h3), by have := u.turn.size; simp at this; omega⟩
          obtain ⟨e3, l3⟩ := key _ _ (by omega) (by omega) c37
          obtain ⟨e4, l4⟩ := key _ _ (by omega) (by omega) c47
          obtain ⟨e7, l7⟩ := key _ _ (by omega) (by omega) c77
          obtain ⟨e9, l9⟩ := key _ _ (by omega) (by omega) c97
          obtain ⟨e11, l11⟩ := key _ _ (by omega) (by omega) c117
          obtain ⟨e12, l12⟩ := key _ _ (by omega) (by omega) c127
          obtain ⟨e13, l13⟩ := key _ _ (by omega) (by omega) c137
          have hLx : LsAt w2.heap.size p f [48] wx := (u.turn.block w2.heap.size (by simp; omega) (hnL _ (by omega))).trans (hL7.now ((Below.refl _ _).alloc (Nat.le_refl _) _))
          have hdT : DK wx p T L' := u.ok
          have hkT : T.keep.length ≤ 4194320 := by rw [hkp]; exact hk
          have ho : inI64 (othF f [48]) := by have := (side_ne f [48]).2.2.2.2; unfold inI64; omega
          have hn : inI64 (nowF f [48]) := by have := (side_ne f [48]).2.2.2.1; unfold inI64; omega
          rcases i with _ | _ | _ | _ | _ | _ | _ | i
          · injection hi with hi; injection hki with hki; subst hi hki
            exact eSettle_any _ p f _ T L' wx hLx HF.out hkT hdT
          · injection hi with hi; injection hki with hki; subst hi hki
            exact eRw1_any _ _ p _ T L' wx e3 l3 e12 l12 ho hkT hdT
          · injection hi with hi; injection hki with hki; subst hi hki
            exact eRw2_any _ _ _ p _ t T L' wx e3 l3 e12 l12 e7 l7 (by omega) ho hkT hdT
          · injection hi with hi; injection hki with hki; subst hi hki
            exact eRw3_any _ _ p _ T L' wx e3 l3 e12 l12 ho hkT hdT
          · injection hi with hi; injection hki with hki; subst hi hki
            exact eRw4_any _ _ _ p _ _ T L' wx e3 l3 e4 l4 e13 l13 (by rw [next_len]; omega) HF.out hkT hdT
          · injection hi with hi; injection hki with hki; subst hi hki
            exact eRw5_any _ _ p _ T L' wx e3 l3 e4 l4 HF.out hkT hdT
          · injection hi with hi; injection hki with hki; subst hi hki
            exact eRw6_any _ _ _ _ p f _ _ T L' wx e9 l9 hLx e3 l3 e11 l11 hn hkT hdT rfl
          · omega
        · rintro e wz ⟨rfl, Lz, uz⟩
          have HU := Lib.hid ((OUpd.of_below (a := dOb p S L) HD.out (hB7.alloc hB7.size _)).trans uz)
          clear uz
          go_wp2_with fail
          go_ret
          exact ⟨by rw [HC.out]; rfl, Lz, by rw [HC.out]; exact HU.out⟩
      · obtain ⟨q1, q2⟩ := side_test g3
        go_upto_region 13 with fail
        obtain ⟨w7, hw7⟩ : ∃ x, x = w6 := ⟨_, rfl⟩
        rw [← hw7] at hL6 hB6 c36 c46 c76 c96 c11 c12 b13 ⊢
        have hs7 : w7.heap.size = w6.heap.size := by rw [hw7]
        have c137 : w7.cell? ⟨w5.heap.size + 2, 0, none⟩ = some (.string (bs (nextP sd))) := by rw [show nextP sd = [48] from if_neg g3]; exact box_cell b13 0 _ rfl
        have hL7 := hL6
        have hB7 := hB6
        have c37 := c36
        have c47 := c46
        have c77 := c76
        have c97 := c96
        have c117 := c11
        have c127 := c12
        clear hw7 hL6 hB6 c36 c46 c76 c96 c11 c12 b13 q1 q2 cl2 g3
        have HSz := Lib.hid (And.intro hs6 hs7)
        have HSx := Lib.hid (And.intro (And.intro hs1 hs2) (And.intro hs3 (And.intro hs4 hs5)))
        clear hs1 hs2 hs3 hs4 hs5 hs6 hs7
        go_wp2_with fail
        obtain ⟨hs6, hs7⟩ := HSz.out
        obtain ⟨⟨hs1, hs2⟩, hs3, hs4, hs5⟩ := HSx.out
        refine (stepsD_any p S L (rewL f sd t) [⟨49, #[.pointer (some ⟨w2.heap.size, 0, none⟩)], #[]⟩, ⟨57, #[], #[.pointer (some ⟨w.heap.size, 0, none⟩), .pointer (some ⟨w5.heap.size + 1, 0, none⟩)]⟩, ⟨58, #[], #[.pointer (some ⟨w.heap.size, 0, none⟩), .pointer (some ⟨w5.heap.size + 1, 0, none⟩), .pointer (some ⟨w1.heap.size, 0, none⟩)]⟩, ⟨59, #[], #[.pointer (some ⟨w.heap.size, 0, none⟩), .pointer (some ⟨w5.heap.size + 1, 0, none⟩)]⟩, ⟨61, #[], #[.pointer (some ⟨w.heap.size, 0, none⟩), .pointer (some ⟨w.heap.size + 1, 0, none⟩), .pointer (some ⟨w5.heap.size + 2, 0, none⟩)]⟩, ⟨62, #[], #[.pointer (some ⟨w.heap.size, 0, none⟩), .pointer (some ⟨w.heap.size + 1, 0, none⟩)]⟩, ⟨63, #[], #[.pointer (some ⟨w3.heap.size, 0, none⟩), .pointer (some ⟨w.heap.size, 0, none⟩), .pointer (some ⟨w5.heap.size, 0, none⟩)]⟩]
          (some ⟨w7.heap.size, 0, none⟩) 7 _ rfl (by simp) ?_ (Ob.below (a := dOb p S L) HD.out (hB7.alloc hB7.size _)) (rdBlockE fvLay w7 _ _ _ rfl _ rfl) (fun i hi => hnL i (by have h := Option.some.inj hi; simp only at h; omega)) ?_ (rew_keeps f sd t)).mono ?_
        · intro fv hfv args wz
          simp only [List.mem_cons, List.not_mem_nil, or_false] at hfv
          rcases hfv with rfl | rfl | rfl | rfl | rfl | rfl | rfl
          · exact enter_of Tryz.func49 (by kernel_rfl) rfl _ _
          · exact enter_of Tryz.func57 (by kernel_rfl) rfl _ _
          · exact enter_of Tryz.func58 (by kernel_rfl) rfl _ _
          · exact enter_of Tryz.func59 (by kernel_rfl) rfl _ _
          · exact enter_of Tryz.func61 (by kernel_rfl) rfl _ _
          · exact enter_of Tryz.func62 (by kernel_rfl) rfl _ _
          · exact enter_of Tryz.func63 (by kernel_rfl) rfl _ _
        · intro i fv k hi hki T L' wx hkp u
          have hlt : i < 7 := (List.getElem?_eq_some_iff.1 hi).1
          have key : ∀ b v, b < w7.heap.size → w.heap.size ≤ b → w7.cell? ⟨b, 0, none⟩ = some v → wx.cell? ⟨b, 0, none⟩ = some v ∧ b < wx.heap.size := fun b v h1 h2 h3 => ⟨(u.cellD (by simp; omega) (hnL b h2) 0).trans ((cell_old _ _ _ _ h1).trans h3), by have := u.turn.size; simp at this; omega⟩
          obtain ⟨e3, l3⟩ := key _ _ (by omega) (by omega) c37
          obtain ⟨e4, l4⟩ := key _ _ (by omega) (by omega) c47
          obtain ⟨e7, l7⟩ := key _ _ (by omega) (by omega) c77
          obtain ⟨e9, l9⟩ := key _ _ (by omega) (by omega) c97
          obtain ⟨e11, l11⟩ := key _ _ (by omega) (by omega) c117
          obtain ⟨e12, l12⟩ := key _ _ (by omega) (by omega) c127
          obtain ⟨e13, l13⟩ := key _ _ (by omega) (by omega) c137
          have hLx : LsAt w2.heap.size p f sd wx := (u.turn.block w2.heap.size (by simp; omega) (hnL _ (by omega))).trans (hL7.now ((Below.refl _ _).alloc (Nat.le_refl _) _))
          have hdT : DK wx p T L' := u.ok
          have hkT : T.keep.length ≤ 4194320 := by rw [hkp]; exact hk
          have ho : inI64 (othF f sd) := by have := (side_ne f sd).2.2.2.2; unfold inI64; omega
          have hn : inI64 (nowF f sd) := by have := (side_ne f sd).2.2.2.1; unfold inI64; omega
          rcases i with _ | _ | _ | _ | _ | _ | _ | i
          · injection hi with hi; injection hki with hki; subst hi hki
            exact eSettle_any _ p f _ T L' wx hLx HF.out hkT hdT
          · injection hi with hi; injection hki with hki; subst hi hki
            exact eRw1_any _ _ p _ T L' wx e3 l3 e12 l12 ho hkT hdT
          · injection hi with hi; injection hki with hki; subst hi hki
            exact eRw2_any _ _ _ p _ t T L' wx e3 l3 e12 l12 e7 l7 (by omega) ho hkT hdT
          · injection hi with hi; injection hki with hki; subst hi hki
            exact eRw3_any _ _ p _ T L' wx e3 l3 e12 l12 ho hkT hdT
          · injection hi with hi; injection hki with hki; subst hi hki
            exact eRw4_any _ _ _ p _ _ T L' wx e3 l3 e4 l4 e13 l13 (by rw [next_len]; omega) HF.out hkT hdT
          · injection hi with hi; injection hki with hki; subst hi hki
            exact eRw5_any _ _ p _ T L' wx e3 l3 e4 l4 HF.out hkT hdT
          · injection hi with hi; injection hki with hki; subst hi hki
            exact eRw6_any _ _ _ _ p f _ _ T L' wx e9 l9 hLx e3 l3 e11 l11 hn hkT hdT rfl
          · omega
        · rintro e wz ⟨rfl, Lz, uz⟩
          have HU := Lib.hid ((OUpd.of_below (a := dOb p S L) HD.out (hB7.alloc hB7.size _)).trans uz)
          clear uz
          go_wp2_with fail
          go_ret
          exact ⟨by rw [HC.out]; rfl, Lz, by rw [HC.out]; exact HU.out⟩
end Go.Proofs.YtjmkodkechahdaaGreatDoor
/- Contract of the reading closure of erase.Recover. -/
set_option linter.unusedSimpArgs false
set_option linter.unusedVariables false
namespace Go.Proofs.YtjmkodkechahdaaGreatDoor
open Go.RowKit
set_option maxRecDepth 100000

theorem file_short {S : DS} (h : S.wf) (f : Int) : (fileE S f).length ≤ 16777216 := by
  have h1 := h.now f
  unfold fileE
  by_cases hc : S.readC f 0 (S.files f).1.size = 0
  · rw [readS_eq hc, readX_all _ _ (Int.le_refl _)]
    rw [dlen]
    exact h1
  · unfold DS.readS
    rw [if_pos hc]
    decide
/-- A box that holds a list of strings of the call's own. -/
def bxOb (b : Nat) (A : Option Addr) (c : Nat) (xs : List (List UInt8)) : Ob where
  own i := i = b ∨ slBlk A = some i
  see _ := False
  ok w := w.heap[b]? = some (.cells #[.slice A xs.length c] 32 (0, 0)) ∧ OwnL w 0 9 1 strE A c xs ∧ ∀ i, slBlk A = some i → i ≠ b
  lt w h i hi := by
    rcases hi with (rfl | hi) | hi
    · exact box_lt h.1
    · exact (h.2.1.blk_lt hi).2
    · exact hi.elim
  frame w w' h hb hs := ⟨(hb b (.inl (.inl rfl))).trans h.1, h.2.1.turn (fun i hi _ => hb i (.inl (.inr hi))), h.2.2⟩
theorem bx_put {b : Nat} {w w1 : World} {A : Option Addr} {c : Nat} {xs : List (List UInt8)} (h : (bxOb b none 0 []).ok w) (hb : Below w.heap.size w w1) (ho : OwnL w1 w.heap.size 9 1 strE A c xs) :
    OUpd (bxOb b none 0 []) (bxOb b A c xs) w (w1.setCell ⟨b, 0, none⟩ (.slice A xs.length c)) := by
  have hbl : b < w.heap.size := box_lt h.1
  have hA : ∀ i, slBlk A = some i → w.heap.size ≤ i := fun i hi => (ho.blk_lt hi).1
  have hbox := (hb.block b hbl).trans h.1
  have h2 := heap_setCell_same w1 b 0 _ _ (.slice A xs.length c) hbox
  have hne : ∀ i, slBlk A = some i → i ≠ b := fun i hi e => by have := hA i hi; omega
  refine ⟨⟨h2, (ho.mono (Nat.zero_le _)).turn (fun i hi _ => heap_setCell_other _ ⟨b, 0, none⟩ i _ (hne i hi)), hne⟩, (Turn.below hb).set b 0 _ (.inl (.inl rfl)), fun i hi => ?_, fun i hi => hi.elim⟩
  rcases hi with hi | hi
  · exact .inl (.inl hi)
  · exact .inr (hA i hi)
set_option maxHeartbeats 4000000 in
theorem eRc1_any {B : Nat} (b6 b b2 b9 b8 p : Nat) (f : Int) (sd : List UInt8) (S : DS) (L : DL) (w : World) (hV : Vs B w) (c6 : w.cell? ⟨b6, 0, none⟩ = some (.pointer (some ⟨b, 0, none⟩))) (l6 : b6 < w.heap.size) (h : LsAt b p f sd w)
    (c2 : w.cell? ⟨b2, 0, none⟩ = some (.pointer (some ⟨p, 0, none⟩))) (l2 : b2 < w.heap.size) (c9 : w.cell? ⟨b9, 0, none⟩ = some (.int .i64 (nowF f sd))) (l9 : b9 < w.heap.size) (h8 : (bxOb b8 none 0 []).ok w) (hf : inI64 (nowF f sd)) (hd : DK w p S L) :
    Calls Tryz.prog 50 #[.pointer (some ⟨b6, 0, none⟩), .pointer (some ⟨b2, 0, none⟩), .pointer (some ⟨b9, 0, none⟩), .pointer (some ⟨b8, 0, none⟩)] w fun e w' => e = .returned (.int .i64 (readE S f sd)) ∧ ∃ A c, OUpd (bxOb b8 none 0 []) (bxOb b8 A c (listE S f sd)) w w' := by
  have H8 := Lib.hid h8
  have HV := Lib.hid hV
  have HF := Lib.hid hf
  have HD := Lib.hid hd
  have cs := h.c2
  have hl := h.lt
  clear h8 hV hf hd h
  go_enter Tryz.func50, Tryz.ntmps50
  by_cases g1 : sd = []
  · subst g1
    rw [show bs [] = ⟨#[]⟩ from rfl] at cs
    go_wp2_with fail
    go_ret
    exact ⟨rfl, none, 0, OUpd.refl H8.out⟩
  · have HG := Lib.hid g1
    obtain ⟨q1, q2⟩ := side_test0 g1
    have HC : Hid (readE S f sd = (if fileC S (nowF f sd) = 0 ∧ rDone (parseE (fileE S (nowF f sd))).2 = false then 22 else fileC S (nowF f sd)) ∧ listE S f sd = (parseE (fileE S (nowF f sd))).1) := Lib.hid (by unfold readE listE; rw [if_neg g1, if_neg g1]; exact ⟨rfl, rfl⟩)
    have hsz := (show DK w p S L from HD.out).wf.now (nowF f sd)
    have Z1 := Lib.hid (fun n => dSize_any p S L (w.drewN n) (nowF f sd) HF.out (HD.out.turn (fun i _ => rfl) (Nat.le_refl _)))
    have Z2 := Lib.hid (fun n => dRead_any p S L (w.drewN n) (nowF f sd) 0 (S.files (nowF f sd)).1.size HF.out (HD.out.turn (fun i _ => rfl) (Nat.le_refl _)))
    have hfl : (fileE S (nowF f sd)).length ≤ 16777216 := file_short (show DK w p S L from HD.out).wf _
    rw [show S.readC (nowF f sd) 0 (S.files (nowF f sd)).1.size = fileC S (nowF f sd) from rfl, show S.readS (nowF f sd) 0 (S.files (nowF f sd)).1.size = bs (fileE S (nowF f sd)) from (bs_eta _).symm] at Z2
    clear g1 hsz
    generalize (S.files (nowF f sd)).1.size = fz at *
    generalize fileC S (nowF f sd) = fc at *
    generalize fileE S (nowF f sd) = ft at *
    go_wp2_with fail
    go_quiet (first | (with_reducible exact Calls.quiet_of_same (Z1.out _)) | (with_reducible exact Calls.quiet_of_same (Z2.out _)))
    have HBq := Lib.hid (below_drewN (Below.refl w.heap.size w) nq)
    have H8q := Lib.hid (Ob.below H8.out HBq.out)
    have HVq := Lib.hid (HV.out.now HBq.out)
    have HU0 := Lib.hid (OUpd.of_below H8.out HBq.out)
    clear Z1 Z2 cs c6 c2 c9 q1 q2
    generalize w.drewN nq = wq at *
    go_wp2_with fail
    refine (open_any ft wq).mono ?_
    rintro x w1 ⟨rfl, hr1, hb1⟩
    have HR1 := Lib.hid hr1
    have HB1 := Lib.hid hb1
    have HV1 := Lib.hid (HVq.out.now hb1)
    clear hr1 hb1
    go_wp2_with fail
    refine (rdTexts_any (B := B) wq.heap.size ⟨ft, false⟩ w1 HV1.out HVq.out.le HR1.out (by simp only; omega)).mono ?_
    rintro x w2 ⟨A, c, rfl, ho, hr2, ht2⟩
    have HR2 := Lib.hid hr2
    have hb2 : Below wq.heap.size wq w2 := HB1.out.trans (ht2.to_below HB1.out.size (fun i hi => by unfold One at hi; omega))
    have hput := bx_put H8q.out hb2 (ho.mono HB1.out.size)
    have HPut := Lib.hid hput
    have hbx := (Ob.below H8q.out hb2).1
    have c8 := box_cell hbx 0 _ rfl
    have f8 := box_free hbx 0
    have hl8 := box_lt hbx
    have hrl : wq.heap.size < w2.heap.size := HR2.out.lt
    have hne : b8 ≠ wq.heap.size := by have := (show b8 < wq.heap.size from box_lt H8q.out.1); omega
    have hr3 : RdAt wq.heap.size (parseE ft).2 (w2.setCell ⟨b8, 0, none⟩ (.slice A (parseE ft).1.length c)) := (heap_setCell_other w2 ⟨b8, 0, none⟩ wq.heap.size _ (fun e => hne e.symm)).trans HR2.out
    have HR3 := Lib.hid hr3
    clear hr2 ht2 hb2 ho hput hbx hr3 hne
    go_upto_region 6 with fail
    have HU : Hid (OUpd (bxOb b8 none 0 []) (bxOb b8 A c (parseE ft).1) w (w2.setCell ⟨b8, 0, none⟩ (.slice A (parseE ft).1.length c))) := Lib.hid (HU0.out.trans HPut.out)
    clear c8 f8 hl8 hrl HPut HU0 H8q HVq HV1 HR1 HB1 HR2
    first | rw [show (rItems rText ⟨ft, false⟩).1.length = (parseE ft).1.length from rfl] | skip
    generalize w2.setCell ⟨b8, 0, none⟩ (.slice A (parseE ft).1.length c) = w3 at *
    by_cases g2 : fc = 0
    · subst g2
      go_wp2_with fail
      refine (done_any wq.heap.size (parseE ft).2 w3 HR3.out).mono ?_
      rintro x w4 ⟨rfl, hw⟩
      obtain rfl := hw
      cases hdn : rDone (parseE ft).2 with
      | true =>
        have HC2 : Hid (readE S f sd = 0 ∧ listE S f sd = (parseE ft).1) := Lib.hid ⟨by rw [HC.out.1, hdn]; rfl, HC.out.2⟩
        clear hdn
        go_wp2_with fail
        go_ret
        exact ⟨by rw [HC2.out.1]; rfl, A, c, by rw [HC2.out.2]; exact HU.out⟩
      | false =>
        have HC2 : Hid (readE S f sd = 22 ∧ listE S f sd = (parseE ft).1) := Lib.hid ⟨by rw [HC.out.1, hdn]; rfl, HC.out.2⟩
        clear hdn
        go_wp2_with fail
        go_ret
        exact ⟨by rw [HC2.out.1]; rfl, A, c, by rw [HC2.out.2]; exact HU.out⟩
    · have d5 : (fc == 0) = false := by simpa using g2
      have HC2 : Hid (readE S f sd = fc ∧ listE S f sd = (parseE ft).1) := Lib.hid ⟨by rw [HC.out.1, if_neg (fun h => g2 h.1)], HC.out.2⟩
      clear g2
      go_wp2_with fail
      go_ret
      exact ⟨by rw [HC2.out.1]; rfl, A, c, by rw [HC2.out.2]; exact HU.out⟩
end Go.Proofs.YtjmkodkechahdaaGreatDoor
/- Contract of erase.Recover. -/
set_option linter.unusedSimpArgs false
set_option linter.unusedVariables false
namespace Go.Proofs.YtjmkodkechahdaaGreatDoor
open Go.RowKit
set_option maxRecDepth 100000

def RecPost (p : Nat) (S : DS) (L : DL) (f : Int) (w : World) (e : Ending) (w' : World) : Prop :=
  ∃ L' A c, e = .returned (.tuple #[.slice A (recL S f).length c, .int .i64 (recC S f)]) ∧ OUpd (dOb p S L) ((dOb p (recS S f) L').sep (slOb A c (recL S f))) w w'
theorem bx_new {w' : World} {b : Nat} (h : w'.heap[b]? = some (.cells #[.slice none 0 0] 32 (0, 0))) : (bxOb b none 0 []).ok w' := ⟨h, OwnL.nil_, fun _ h => by cases h⟩
/-- The box is forgotten, its list stays. -/
theorem bx_list {a : Ob} {b : Nat} {A : Option Addr} {c : Nat} {xs : List (List UInt8)} {O : Ob} {w w' : World} (u : OUpd O (a.sep (bxOb b A c xs)) w w') : OUpd O (a.sep (slOb A c xs)) w w' := by
  obtain ⟨⟨ha, hb⟩, h1, h2, h3⟩ := u.ok
  refine u.weak ⟨⟨ha, hb.2.1⟩, fun i hi ho => h1 i hi (.inr ho), fun i hi ho => h2 i hi (.inr ho), fun i hi => hi.elim⟩ (fun i hi => ?_) (fun i hi => ?_)
  · rcases hi with hi | hi
    · exact .inl (.inl hi)
    · exact .inl (.inr (.inr hi))
  · rcases hi with hi | hi
    · exact .inl (.inl hi)
    · exact hi.elim
theorem slOb_nil {a : Ob} {O : Ob} {w w' : World} (u : OUpd O a w w') : OUpd O (a.sep (slOb none 0 [])) w w' :=
  ⟨⟨⟨u.ok, OwnL.nil_⟩, fun _ _ h => (by cases h), fun _ _ h => (by cases h), fun _ h => h.elim⟩, u.turn, fun i hi => hi.elim (u.own i) (fun h => (by cases h)), fun i hi => hi.elim (u.see i) (fun h => h.elim)⟩
/-- What the steps of Recover have at a time. -/
def RcI (p : Nat) (S : DS) (L : DL) (b8 : Nat) (W : World) (T : DS) (A : Option Addr) (c : Nat) (xs : List (List UInt8)) (wx : World) : Prop :=
  ∃ L', OUpd ((dOb p S L).sep (bxOb b8 none 0 [])) ((dOb p T L').sep (bxOb b8 A c xs)) W wx
def rcI (p : Nat) (S : DS) (L : DL) (f : Int) (sd : List UInt8) (b8 : Nat) (W : World) : Nat → World → Prop
  | 0, wx => RcI p S L b8 W S none 0 [] wx
  | 1, wx => (setR f sd S).1 = 0 ∧ RcI p S L b8 W (setR f sd S).2 none 0 [] wx
  | 2, wx => (setR f sd S).1 = 0 ∧ readE (setR f sd S).2 f sd = 0 ∧ ∃ A c, RcI p S L b8 W (setR f sd S).2 A c (listE (setR f sd S).2 f sd) wx
  | _, wx => (setR f sd S).1 = 0 ∧ readE (setR f sd S).2 f sd = 0 ∧ (trR (othF f sd) (setR f sd S).2).1 = 0 ∧ ∃ A c, RcI p S L b8 W (trR (othF f sd) (setR f sd S).2).2 A c (listE (setR f sd S).2 f sd) wx
def rcZ (p : Nat) (S : DS) (L : DL) (f : Int) (b8 : Nat) (W : World) (x : Int) (wx : World) : Prop := x = recC S f ∧ ∃ A c xs, RcI p S L b8 W (recS S f) A c xs wx
section
variable {p : Nat} {S T T2 : DS} {L L' : DL} {b8 : Nat} {W wx w' : World} {xs : List (List UInt8)} {A : Option Addr} {c : Nat}
theorem RcI.turn (h : RcI p S L b8 W T A c xs wx) : Turn ((dOb p S L).sep (bxOb b8 none 0 [])).own W wx := by
  obtain ⟨_, u⟩ := h
  exact u.turn
/-- The disk alone changes. -/
theorem rc_disk (u : OUpd ((dOb p S L).sep (bxOb b8 none 0 [])) ((dOb p T L').sep (bxOb b8 A c xs)) W wx) (h : ∃ L2, OUpd (dOb p T L') (dOb p T2 L2) wx w') : RcI p S L b8 W T2 A c xs w' := by
  obtain ⟨L2, u2⟩ := h
  exact ⟨L2, u.trans (OUpd.left u.ok u2)⟩
theorem rc_box (u : OUpd ((dOb p S L).sep (bxOb b8 none 0 [])) ((dOb p T L').sep (bxOb b8 none 0 [])) W wx) (h : ∃ A c, OUpd (bxOb b8 none 0 []) (bxOb b8 A c xs) wx w') : ∃ A c, RcI p S L b8 W T A c xs w' := by
  obtain ⟨A, c, u2⟩ := h
  exact ⟨A, c, L', u.trans (OUpd.right u.ok u2)⟩
end
/-- The steps of Recover. -/
theorem rcSteps_any {B : Nat} (p : Nat) (S : DS) (L : DL) (f : Int) (sd : List UInt8) (b bd b6 b9 b10 b8 : Nat) (fs : List FV) (A0 : Option Addr) (c0 : Nat) (W : World) (hV : Vs B W) (hB : ∀ i, L.own p i → B ≤ i) (hB8 : B ≤ b8)
    (hfs : fs = [⟨49, #[.pointer (some ⟨b, 0, none⟩)], #[]⟩, ⟨50, #[], #[.pointer (some ⟨b6, 0, none⟩), .pointer (some ⟨bd, 0, none⟩), .pointer (some ⟨b9, 0, none⟩), .pointer (some ⟨b8, 0, none⟩)]⟩, ⟨54, #[], #[.pointer (some ⟨bd, 0, none⟩), .pointer (some ⟨b10, 0, none⟩)]⟩])
    (hrd : RdL 1 fvE W W.heap.size A0 fs) (hA : ∀ i, slBlk A0 = some i → ¬ L.own p i ∧ i ≠ b8) (hop : openE S f = 0) (hsd : sideE S f = sd) (hf : 0 ≤ f ∧ f ≤ 13) (hk : S.keep.length ≤ 4194320)
    (hd : DK W p S L) (h8 : (bxOb b8 none 0 []).ok W) (n8 : ¬ L.own p b8) (s8 : ¬ slBlk L.kA = some b8)
    (hL : LsAt b p f sd W) (nL : ¬ L.own p b ∧ b ≠ b8) (e6 : W.cell? ⟨b6, 0, none⟩ = some (.pointer (some ⟨b, 0, none⟩))) (n6 : ¬ L.own p b6 ∧ b6 ≠ b8 ∧ b6 < W.heap.size) (ed : W.cell? ⟨bd, 0, none⟩ = some (.pointer (some ⟨p, 0, none⟩))) (nd : ¬ L.own p bd ∧ bd ≠ b8 ∧ bd < W.heap.size)
    (e9 : W.cell? ⟨b9, 0, none⟩ = some (.int .i64 (nowF f sd))) (n9 : ¬ L.own p b9 ∧ b9 ≠ b8 ∧ b9 < W.heap.size) (e10 : W.cell? ⟨b10, 0, none⟩ = some (.int .i64 (othF f sd))) (n10 : ¬ L.own p b10 ∧ b10 ≠ b8 ∧ b10 < W.heap.size) :
    Calls Tryz.prog 48 #[.slice A0 fs.length c0] W fun e w' => e = .returned (.int .i64 (recC S f)) ∧ ∃ A c xs, RcI p S L b8 W (recS S f) A c xs w' ∧ (recC S f = 0 → xs = recL S f) := by
  have hC : recC S f = if (setR f sd S).1 ≠ 0 then (setR f sd S).1 else if readE (setR f sd S).2 f sd ≠ 0 then readE (setR f sd S).2 f sd else (trR (othF f sd) (setR f sd S).2).1 := by unfold recC; rw [hop, if_neg (by decide), hsd]
  have hS : recS S f = if (setR f sd S).1 ≠ 0 then (setR f sd S).2 else if readE (setR f sd S).2 f sd ≠ 0 then (setR f sd S).2 else (trR (othF f sd) (setR f sd S).2).2 := by unfold recS; rw [hop, if_neg (by decide), hsd]
  have hLi : recL S f = if recC S f = 0 then listE (setR f sd S).2 f sd else [] := by unfold recL; rw [hsd]
  have ho : inI64 (othF f sd) := by have := (side_ne f sd).2.2.2.2; unfold inI64; omega
  have hn : inI64 (nowF f sd) := by have := (side_ne f sd).2.2.2.1; unfold inI64; omega
  have hf64 : inI64 f := by unfold inI64; omega
  have hown : ∀ i, ((dOb p S L).sep (bxOb b8 none 0 [])).own i → L.own p i ∨ i = b8 := fun i hi => hi.elim .inl (fun h => h.elim .inr (fun h => (by cases h)))
  have hblk : ∀ {T : DS} {A : Option Addr} {c : Nat} {xs : List (List UInt8)} {wx : World}, RcI p S L b8 W T A c xs wx → ∀ i, i < W.heap.size → ¬ L.own p i ∧ i ≠ b8 → wx.heap[i]? = W.heap[i]? := fun h i hi hn => h.turn.block i hi (fun ho => (hown i ho).elim hn.1 hn.2)
  have hcell : ∀ {T : DS} {A : Option Addr} {c : Nat} {xs : List (List UInt8)} {wx : World}, RcI p S L b8 W T A c xs wx → ∀ i v, (¬ L.own p i ∧ i ≠ b8 ∧ i < W.heap.size) → W.cell? ⟨i, 0, none⟩ = some v → wx.cell? ⟨i, 0, none⟩ = some v ∧ i < wx.heap.size := fun h i v hi hv =>
    ⟨(World.cell?_of_block (hblk h i hi.2.2 ⟨hi.1, hi.2.1⟩)).trans hv, by have := h.turn.size; omega⟩
  have hvs : ∀ {T : DS} {A : Option Addr} {c : Nat} {xs : List (List UInt8)} {wx : World}, RcI p S L b8 W T A c xs wx → Vs B wx := fun h => hV.on (h.turn.to_below hV.le (fun i hi => (hown i hi).elim (hB i) (fun e => e ▸ hB8)))
  have hst : ∀ i wx, rcI p S L f sd b8 W i wx → ∃ T A c xs, RcI p S L b8 W T A c xs wx := by
    intro i wx h
    rcases i with _ | _ | _ | i
    · exact ⟨_, _, _, _, h⟩
    · exact ⟨_, _, _, _, h.2⟩
    · obtain ⟨_, _, A, c, h⟩ := h; exact ⟨_, A, c, _, h⟩
    · obtain ⟨_, _, _, A, c, h⟩ := h; exact ⟨_, A, c, _, h⟩
  have hset_keep : (setR f sd S).2.keep = S.keep := by
    unfold setR
    split
    · rfl
    · exact sync_keep _ _
  have h0 : RcI p S L b8 W S none 0 [] W := ⟨L, OUpd.refl ⟨⟨hd, h8⟩, fun i hi h => h.elim (fun e => n8 (e ▸ hi)) (fun h => (by cases h)), fun i hi h => h.elim (fun e => s8 (e ▸ hi)) (fun h => (by cases h)), fun _ h => h.elim⟩⟩
  refine (steps_any fs A0 c0 W (rcI p S L f sd b8 W) (rcZ p S L f b8 W) (by rw [hfs]; simp) ?_ (fun i wx h => ?_) ?_ h0).mono ?_
  · intro fv hfv args wz
    rw [hfs] at hfv
    simp only [List.mem_cons, List.not_mem_nil, or_false] at hfv
    rcases hfv with rfl | rfl | rfl
    · exact enter_of Tryz.func49 (by kernel_rfl) rfl _ _
    · exact enter_of Tryz.func50 (by kernel_rfl) rfl _ _
    · exact enter_of Tryz.func54 (by kernel_rfl) rfl _ _
  · obtain ⟨T, A, c, xs, h⟩ := hst i wx h
    exact hrd.turn (fun j hj hl => hblk h j hl (hA j hj)) h.turn.size
  · intro i fv wx hi h
    rw [hfs] at hi
    have hlt : i < 3 := (List.getElem?_eq_some_iff.1 hi).1
    rcases i with _ | _ | _ | i
    · injection hi with hi
      subst hi
      have hR : RcI p S L b8 W S none 0 [] wx := h
      have hLx : LsAt b p f sd wx := (hblk hR b hL.lt nL).trans hL
      obtain ⟨L', u⟩ := hR
      refine (eSettle_any b p f sd S L' wx hLx hf64 hk u.ok.1.1).mono ?_
      rintro e w' ⟨rfl, hu⟩
      have hR2 := rc_disk u hu
      refine ⟨_, rfl, fun hc => ⟨hc, hR2⟩, fun hc => ⟨by rw [hC, if_pos hc], none, 0, [], by rw [hS, if_pos hc]; exact hR2⟩⟩
    · injection hi with hi
      subst hi
      obtain ⟨hc0, hR⟩ : (setR f sd S).1 = 0 ∧ RcI p S L b8 W (setR f sd S).2 none 0 [] wx := h
      have hLx : LsAt b p f sd wx := (hblk hR b hL.lt nL).trans hL
      obtain ⟨x6, l6⟩ := hcell hR _ _ n6 e6
      obtain ⟨xd, ld⟩ := hcell hR _ _ nd ed
      obtain ⟨x9, l9⟩ := hcell hR _ _ n9 e9
      have hvx := hvs hR
      obtain ⟨L', u⟩ := hR
      refine (eRc1_any b6 b bd b9 b8 p f sd _ L' wx hvx x6 l6 hLx xd ld x9 l9 u.ok.1.2 hn u.ok.1.1).mono ?_
      rintro e w' ⟨rfl, hu⟩
      obtain ⟨A, c, hR2⟩ := rc_box u hu
      refine ⟨_, rfl, fun hc => ⟨hc0, hc, A, c, hR2⟩, fun hc => ⟨by rw [hC, if_neg (by simpa using hc0), if_pos hc], A, c, _, by rw [hS, if_neg (by simpa using hc0), if_pos hc]; exact hR2⟩⟩
    · injection hi with hi
      subst hi
      obtain ⟨hc0, hc1, A, c, hR⟩ : (setR f sd S).1 = 0 ∧ readE (setR f sd S).2 f sd = 0 ∧ ∃ A c, RcI p S L b8 W (setR f sd S).2 A c (listE (setR f sd S).2 f sd) wx := h
      obtain ⟨xd, ld⟩ := hcell hR _ _ nd ed
      obtain ⟨x10, l10⟩ := hcell hR _ _ n10 e10
      obtain ⟨L', u⟩ := hR
      refine (eRc2_any bd b10 p _ _ L' wx xd ld x10 l10 ho (by rw [hset_keep]; exact hk) u.ok.1.1).mono ?_
      rintro e w' ⟨rfl, hu⟩
      have hR2 := rc_disk u hu
      refine ⟨_, rfl, fun hc => ⟨hc0, hc1, hc, A, c, hR2⟩, fun hc => ⟨by rw [hC, if_neg (by simpa using hc0), if_neg (by simpa using hc1)], A, c, _, by rw [hS, if_neg (by simpa using hc0), if_neg (by simpa using hc1)]; exact hR2⟩⟩
    · omega
  · rintro e w' ⟨x, rfl, h1, h2⟩
    by_cases hx : x = 0
    · have h3 := h1 hx
      rw [hfs] at h3
      obtain ⟨hc0, hc1, hc2, A, c, hR⟩ : (setR f sd S).1 = 0 ∧ readE (setR f sd S).2 f sd = 0 ∧ (trR (othF f sd) (setR f sd S).2).1 = 0 ∧ ∃ A c, RcI p S L b8 W (trR (othF f sd) (setR f sd S).2).2 A c (listE (setR f sd S).2 f sd) w' := h3
      have hC0 : recC S f = 0 := by rw [hC, if_neg (by simpa using hc0), if_neg (by simpa using hc1)]; exact hc2
      refine ⟨by rw [hx, hC0], A, c, _, by rw [hS, if_neg (by simpa using hc0), if_neg (by simpa using hc1)]; exact hR, fun _ => by rw [hLi, if_pos hC0]⟩
    · obtain ⟨h3, A, c, xs, hR⟩ := h2 hx
      exact ⟨by rw [h3], A, c, xs, hR, fun h => absurd (h3.trans h) hx⟩
end Go.Proofs.YtjmkodkechahdaaGreatDoor
/- Contract of erase.Recover: the walk. -/
set_option linter.unusedSimpArgs false
set_option linter.unusedVariables false
namespace Go.Proofs.YtjmkodkechahdaaGreatDoor
open Go.RowKit
set_option maxRecDepth 100000

theorem eRewrite_nil (f : Int) (l : List (List UInt8)) (A : Option Addr) (c : Nat) (w : World) :
    Calls Tryz.prog 22 #[.pointer none, .int .i64 f, .slice A l.length c] w fun e w' => e = .returned (.int .i64 1) ∧ Below w.heap.size w w' := by
  go_enter Tryz.func22, Tryz.ntmps22
  go_wp2_with fail
  go_ret
  exact ⟨rfl, by repeat (first | with_reducible exact Below.refl _ _ | with_reducible assumption | with_reducible refine Below.drew ?_ | with_reducible refine Below.alloc ?_ (by first | omega | (simp; done) | (simp; omega)) _)⟩
theorem eRecover_nil (f : Int) (w : World) : Calls Tryz.prog 21 #[.pointer none, .int .i64 f] w fun e w' => e = .returned (.tuple #[.slice none 0 0, .int .i64 1]) ∧ Below w.heap.size w w' := by
  go_enter Tryz.func21, Tryz.ntmps21
  go_wp2_with fail
  refine (eOpen_nil f _).mono ?_
  rintro e w1 ⟨rfl, rfl⟩
  go_wp2_with fail
  go_ret2
  exact ⟨rfl, by repeat (first | with_reducible exact Below.refl _ _ | with_reducible assumption | with_reducible refine Below.drew ?_ | with_reducible refine Below.alloc ?_ (by first | omega | (simp; done) | (simp; omega)) _)⟩
set_option maxHeartbeats 4000000 in
theorem eRecover_any {B : Nat} (p : Nat) (S : DS) (L : DL) (f : Int) (w : World) (hV : Vs B w) (hB : ∀ i, L.own p i → B ≤ i) (hf : inI64 f) (hk : S.keep.length ≤ 4194320) (hd : DK w p S L) :
    Calls Tryz.prog 21 #[.pointer (some ⟨p, 0, none⟩), .int .i64 f] w (RecPost p S L f w) := by
  have HV := Lib.hid hV
  have HF := Lib.hid hf
  have HD := Lib.hid hd
  have HB := Lib.hid hB
  have hnL : ∀ b, w.heap.size ≤ b → ¬ L.own p b := fun b hb ho => by have := hd.lt b ho; omega
  have hsL : ∀ b, w.heap.size ≤ b → ¬ slBlk L.kA = some b := fun b hb ho => by have := hd.kl b ho; omega
  have hb0 : Below w.heap.size w (w.alloc (.cells #[.pointer (some ⟨p, 0, none⟩)] 27)) := by repeat (first | with_reducible exact Below.refl _ _ | with_reducible assumption | with_reducible refine Below.drew ?_ | with_reducible refine Below.alloc ?_ (by first | omega | (simp; done) | (simp; omega)) _)
  have HD0 := Lib.hid (Ob.below (a := dOb p S L) hd hb0)
  clear hV hf hd hB
  go_enter Tryz.func21, Tryz.ntmps21
  go_wp2_with fail
  obtain ⟨w2, hw2⟩ : ∃ x, x = w.alloc (.cells #[.pointer (some ⟨p, 0, none⟩)] 27) := ⟨_, rfl⟩
  have c22 : w2.cell? ⟨w.heap.size, 0, none⟩ = some (.pointer (some ⟨p, 0, none⟩)) := by rw [hw2]; exact cell_new1 _ _ _ _ rfl
  have hs2 : w.heap.size < w2.heap.size := by rw [hw2]; simp
  rw [← hw2] at hb0 HD0 ⊢
  clear hw2
  refine (eOpen_any p S L f w2 HF.out HD0.out).mono ?_
  rintro e w3 (⟨hc, hp, rfl, hw3⟩ | ⟨hc, rfl, hw3⟩)
  rotate_left
  · obtain rfl : w2 = w3 := hw3.symm
    have HC : Hid (recC S f = openE S f ∧ recS S f = S ∧ recL S f = []) := Lib.hid (by
      have h1 : recC S f = openE S f := by unfold recC; rw [if_pos hc]
      exact ⟨h1, by unfold recS; rw [if_pos hc], by unfold recL; rw [if_neg (by rw [h1]; exact hc)]⟩)
    have d5 : (openE S f != 0) = true := by simpa using hc
    have HU := Lib.hid (OUpd.of_below (a := dOb p S L) HD.out (hb0.alloc hb0.size (.cells #[.pointer none] 76)))
    clear hc
    go_wp2_with fail
    go_ret2
    exact ⟨L, none, 0, by rw [HC.out.1, HC.out.2.2]; rfl, by rw [HC.out.2.1, HC.out.2.2]; exact slOb_nil HU.out⟩
  have HOp := Lib.hid hc
  have hf13 : 0 ≤ f ∧ f ≤ 13 := by
    unfold openE at hc
    split at hc
    · cases hc
    · omega
  clear hc
  obtain ⟨sd, hsd⟩ : ∃ x, x = sideE S f := ⟨_, rfl⟩
  rw [← hsd] at hp hw3
  have HSd := Lib.hid hsd.symm
  clear hsd
  have hL3 : LsAt w2.heap.size p f sd w3 := by rw [hw3]; exact (MapKept.heap_alloc w2 _).1
  have hB3 : Below w.heap.size w w3 := by rw [hw3]; exact hb0.alloc hb0.size _
  have hs3 : w2.heap.size < w3.heap.size := by rw [hw3]; simp
  have c23 : w3.cell? ⟨w.heap.size, 0, none⟩ = some (.pointer (some ⟨p, 0, none⟩)) := by rw [hw3]; exact (cell_old _ _ _ _ hs2).trans c22
  clear hw3 c22 hb0
  go_upto_region 5 with fail
  obtain ⟨w4, hw4⟩ : ∃ x, x = (w3.alloc (.cells #[.pointer (some ⟨w2.heap.size, 0, none⟩)] 76)).alloc (.cells #[.slice none 0 0] 32) := ⟨_, rfl⟩
  have hb4 : Below w3.heap.size w3 w4 := by rw [hw4]; exact ((Below.refl _ _).alloc (Nat.le_refl _) _).alloc (by simp) _
  have c64 : w4.cell? ⟨w3.heap.size, 0, none⟩ = some (.pointer (some ⟨w2.heap.size, 0, none⟩)) := by rw [hw4]; exact (cell_old _ _ _ _ (by simp)).trans (cell_new1 _ _ _ _ rfl)
  have b84 : w4.heap[w3.heap.size + 1]? = some (.cells #[.slice none 0 0] 32 (0, 0)) := by
    rw [hw4]
    have := (MapKept.heap_alloc (w3.alloc (.cells #[.pointer (some ⟨w2.heap.size, 0, none⟩)] 76)) (.cells #[.slice none 0 0] 32)).1
    simpa using this
  have hs4 : w4.heap.size = w3.heap.size + 2 := by rw [hw4]; simp
  rw [← hw4]
  have hL4 := hL3.now hb4
  have hB4 := hB3.trans (hb4.mono hB3.size)
  have c24 := ((bcell hb4).1 w.heap.size 0 (by omega)).trans c23
  clear hw4 hb4 hL3 hB3 c23
  have HS4 := Lib.hid hs4
  clear hs4
  go_wp2_with fail
  refine (eSides_any w2.heap.size p f sd w4 hL4 hf13).mono ?_
  rintro e w5 ⟨rfl, hb5⟩
  have hs4 := HS4.out
  have hL5 := hL4.now hb5
  have hB5 := hB4.trans (hb5.mono hB4.size)
  have c25 := ((bcell hb5).1 w.heap.size 0 (by omega)).trans c24
  have c65 := ((bcell hb5).1 w3.heap.size 0 (by omega)).trans c64
  have b85 := (hb5.block (w3.heap.size + 1) (by omega)).trans b84
  have hs5 := hb5.size
  have HS5 := Lib.hid (And.intro hs2 (And.intro hs3 (And.intro hs4 hs5)))
  clear hb5 hL4 hB4 c24 c64 b84 hs4 hs5 HS4
  go_upto_region 6 with fail
  obtain ⟨w6, hw6⟩ : ∃ x, x = (w5.alloc (.cells #[.int .i64 (nowF f sd)] 3)).alloc (.cells #[.int .i64 (othF f sd)] 3) := ⟨_, rfl⟩
  have hb6 : Below w5.heap.size w5 w6 := by rw [hw6]; exact ((Below.refl _ _).alloc (Nat.le_refl _) _).alloc (by simp) _
  have c96 : w6.cell? ⟨w5.heap.size, 0, none⟩ = some (.int .i64 (nowF f sd)) := by rw [hw6]; exact (cell_old _ _ _ _ (by simp)).trans (cell_new1 _ _ _ _ rfl)
  have c106 : w6.cell? ⟨w5.heap.size + 1, 0, none⟩ = some (.int .i64 (othF f sd)) := by rw [hw6]; exact cell_new1 _ _ _ _ (by simp)
  have hs6 : w6.heap.size = w5.heap.size + 2 := by rw [hw6]; simp
  rw [← hw6]
  obtain ⟨_, _, hs4, hs5⟩ := HS5.out
  have hL6 := hL5.now hb6
  have hB6 := hB5.trans (hb6.mono hB5.size)
  have c26 := ((bcell hb6).1 w.heap.size 0 (by omega)).trans c25
  have c66 := ((bcell hb6).1 w3.heap.size 0 (by omega)).trans c65
  have b86 := (hb6.block (w3.heap.size + 1) (by omega)).trans b85
  have hll := hL6.lt
  have HS6 := Lib.hid (And.intro hs6 (And.intro hs4 hs5))
  clear hb6 hL5 hB5 c25 c65 b85 hw6 hs4 hs5 hs6 HS5
  go_wp2_with fail
  obtain ⟨hs6, hs4, hs5⟩ := HS6.out
  have hbox : ∀ o : Obj, (bxOb (w3.heap.size + 1) none 0 []).ok (w6.alloc o) := fun o => bx_new ((Below.heap_alloc w6 o _ (by omega)).trans b86)
  have HUW := Lib.hid (fun o : Obj => OUpd.more (a := dOb p S L) HD.out (hB6.alloc hB6.size o) (hbox o) (fun i hi => hi.elim (fun e => by omega) (fun h => (by cases h))) (fun i hi => hi.elim))
  refine (rcSteps_any (B := B) p S L f sd w2.heap.size w.heap.size w3.heap.size w5.heap.size (w5.heap.size + 1) (w3.heap.size + 1)
    [⟨49, #[.pointer (some ⟨w2.heap.size, 0, none⟩)], #[]⟩, ⟨50, #[], #[.pointer (some ⟨w3.heap.size, 0, none⟩), .pointer (some ⟨w.heap.size, 0, none⟩), .pointer (some ⟨w5.heap.size, 0, none⟩), .pointer (some ⟨w3.heap.size + 1, 0, none⟩)]⟩, ⟨54, #[], #[.pointer (some ⟨w.heap.size, 0, none⟩), .pointer (some ⟨w5.heap.size + 1, 0, none⟩)]⟩]
    (some ⟨w6.heap.size, 0, none⟩) 3 _ (HV.out.now (hB6.alloc hB6.size _)) HB.out (by have := HV.out.le; omega) rfl (rdBlockE fvLay w6 _ _ _ rfl _ rfl) (fun i hi => by have h := Option.some.inj hi; simp only at h; exact ⟨hnL i (by omega), by omega⟩) HOp.out HSd.out hf13 hk
    (Ob.below (a := dOb p S L) HD.out (hB6.alloc hB6.size _)) (hbox _) (hnL _ (by omega)) (hsL _ (by omega)) (hL6.now ((Below.refl _ _).alloc (Nat.le_refl _) _)) ⟨hnL _ (by omega), by omega⟩ ((cell_old _ _ _ _ (by omega)).trans c66) ⟨hnL _ (by omega), by omega, by simp; omega⟩
    ((cell_old _ _ _ _ (by omega)).trans c26) ⟨hnL _ (by omega), by omega, by simp; omega⟩ ((cell_old _ _ _ _ (by omega)).trans c96) ⟨hnL _ (by omega), by omega, by simp; omega⟩ ((cell_old _ _ _ _ (by omega)).trans c106) ⟨hnL _ (by omega), by omega, by simp; omega⟩).mono ?_
  rintro e w7 ⟨rfl, A, c, xs, ⟨L', u⟩, hx⟩
  have HU := Lib.hid ((HUW.out _).trans u)
  have hb8 := u.ok.1.2.1
  have c8 := box_cell hb8 0 _ rfl
  have hl8 := box_lt hb8
  have HX := Lib.hid hx
  clear u hb8 hx HUW hbox hs4 hs5 hs6 c26 c66 c96 c106 b86 hL6 hB6
  by_cases hz : recC S f = 0
  · have HZ := Lib.hid hz
    have hxs := HX.out hz
    rw [hz]
    have HXs := Lib.hid hxs
    clear hz hxs HX
    go_wp2_with fail
    go_ret2
    exact ⟨L', A, c, by rw [HZ.out, ← HXs.out]; rfl, by rw [← HXs.out]; exact bx_list HU.out⟩
  · have d5 : (recC S f != 0) = true := by simpa using hz
    have HZ : Hid (recL S f = []) := Lib.hid (by unfold recL; rw [if_neg hz])
    clear hz HX
    go_wp2_with fail
    go_ret2
    exact ⟨L', none, 0, by rw [HZ.out]; rfl, by rw [HZ.out]; exact slOb_nil HU.out.forget⟩
end Go.Proofs.YtjmkodkechahdaaGreatDoor
/- Contracts of lingualaw43.file, kept, and of linguaref43.Strings, FewRecords. -/
set_option linter.unusedSimpArgs false
set_option linter.unusedVariables false
namespace Go.Proofs.YtjmkodkechahdaaGreatDoor
open Go.RowKit
set_option maxRecDepth 100000

-- keptEnd F | S | Z : the last statement of kept
theorem lFile_any (p : Nat) (S : DS) (L : DL) (f : Int) (w : World) (hf : inI64 f) (hd : DK w p S L) : Calls Tryz.prog 23 #[.pointer (some ⟨p, 0, none⟩), .int .i64 f] w fun e w' => e = .returned (.string (bs (fileE S f))) ∧ w' = w := by
  have HF := Lib.hid hf
  have HD := Lib.hid hd
  have HE : Hid (S.readS f 0 (S.files f).1.size = bs (fileE S f)) := Lib.hid (bs_eta _).symm
  clear hf hd
  go_enter Tryz.func23, Tryz.ntmps23
  go_wp2_with fail
  refine (dSize_any p S L w f HF.out HD.out).mono ?_
  rintro e w1 ⟨rfl, hw⟩
  obtain rfl : w = w1 := hw.symm
  go_wp2_with fail
  refine (dRead_any p S L w f 0 (S.files f).1.size HF.out HD.out).mono ?_
  rintro e w1 ⟨rfl, hw⟩
  obtain rfl : w = w1 := hw.symm
  rw [HE.out]
  go_wp2_with fail
  go_ret
  exact ⟨rfl, rfl⟩
end Go.Proofs.YtjmkodkechahdaaGreatDoor
