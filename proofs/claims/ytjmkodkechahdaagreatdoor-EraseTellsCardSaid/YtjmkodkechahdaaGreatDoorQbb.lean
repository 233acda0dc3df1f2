/- Contracts and plain laws, joined: JnI, JnJ, JnO. -/
import Derived.Test.YtjmkodkechahdaaGreatDoorQaz
import Derived.Test.YtjmkodkechahdaaGreatDoorQax
import Derived.Test.YtjmkodkechahdaaGreatDoorQaf
import Derived.Test.YtjmkodkechahdaaGreatDoorQat
import Derived.Test.YtjmkodkechahdaaGreatDoorQam
/- Disks and journals as objects in memory; contracts of journal.Open. -/
set_option linter.unusedSimpArgs false
set_option linter.unusedVariables false
namespace Go.Proofs.YtjmkodkechahdaaGreatDoor
open Go.RowKit

/-- The disk at p, S, that lies at L. -/
def dOb (p : Nat) (S : DS) (L : DL) : Ob where
  own := L.own p
  see i := slBlk L.kA = some i
  ok w := DK w p S L
  lt w h i hi := hi.elim (h.lt i) (h.kl i)
  frame w w' h hb hs := h.turn hb hs
theorem Upd.ob {p : Nat} {S S' : DS} {L : DL} {w w' : World} (u : Upd p S' L w w') : ∃ L', OUpd (dOb p S L) (dOb p S' L') w w' := by
  obtain ⟨L', d, t, o, k⟩ := u
  exact ⟨L', d, t, o, k⟩
/-- Where the records of a journal lie. -/
structure JL where
  A : Option Addr
  c : Nat
def jBox (p : Nat) (J : JS) (L : JL) : Array Value := #[.pointer (some ⟨p, 0, none⟩), .int .i64 J.file, .slice L.A J.recs.length L.c, .int .i64 J.at_, .bool J.bad]
theorem OUpd.with_nil {a b : Ob} {w w' : World} (u : OUpd a b w w') : OUpd a (b.sep Ob.nil) w w' :=
  ⟨⟨⟨u.ok, trivial⟩, fun _ _ h => h.elim, fun _ _ h => h.elim, fun _ h => h.elim⟩, u.turn, fun i hi => hi.elim (u.own i) (fun h => h.elim), fun i hi => hi.elim (u.see i) (fun h => h.elim)⟩
theorem readS_whole {S : DS} {f : Int} (h0 : 0 ≤ f) (h1 : f < 16) (hd : S.down = false) : S.readC f 0 (S.files f).1.size = 0 ∧ S.readS f 0 (S.files f).1.size = bs (S.now f) := by
  have hc : S.readC f 0 (S.files f).1.size = 0 := by
    unfold DS.readC
    rw [may_zero hd h0 h1, if_neg (by omega), if_neg (by omega)]
  refine ⟨hc, ?_⟩
  rw [readS_eq hc, readX_all _ _ (by omega)]
  rfl
/-- A list that the call owns. -/
def slOb (A : Option Addr) (c : Nat) (xs : List (List UInt8)) : Ob where
  own i := slBlk A = some i
  see _ := False
  ok w := OwnL w 0 9 1 strE A c xs
  lt w h i hi := hi.elim (fun hi => (h.blk_lt hi).2) (fun h => h.elim)
  frame w w' h hb _ := h.turn (fun i hi _ => hb i (.inl hi))
/-- A list, and a new box that names it. -/
theorem OUpd.boxed {a d sl j : Ob} {w w5 : World} (u : OUpd a (d.sep sl) w w5) (o : Obj) (hj : j.ok (w5.alloc o)) (ho : ∀ i, j.own i → i = w5.heap.size ∨ sl.own i) (hs : ∀ i, ¬ j.see i) : OUpd a (d.sep j) w (w5.alloc o) := by
  have hb : Below w5.heap.size w5 (w5.alloc o) := (Below.refl _ _).alloc (Nat.le_refl _) _
  obtain ⟨⟨hd, hsl⟩, h1, h2, h3⟩ := u.ok
  refine ⟨⟨⟨Ob.below hd hb, hj⟩, fun i hi hj' => ?_, fun i hi hj' => ?_, fun i hi => (hs i hi).elim⟩, (u.below hb).turn, fun i hi => ?_, fun i hi => ?_⟩
  · rcases ho i hj' with rfl | h
    · have := d.lt w5 hd _ (.inl hi); omega
    · exact h1 i hi h
  · rcases ho i hj' with rfl | h
    · have := d.lt w5 hd _ (.inr hi); omega
    · exact h2 i hi h
  · rcases hi with hi | hi
    · exact u.own i (.inl hi)
    · rcases ho i hi with rfl | h
      · exact .inr u.turn.size
      · exact u.own i (.inr h)
  · rcases hi with hi | hi
    · exact u.see i (.inl hi)
    · exact (hs i hi).elim
end Go.Proofs.YtjmkodkechahdaaGreatDoor
/- Journals as objects in memory: what Append and Sync change. -/
set_option linter.unusedSimpArgs false
set_option linter.unusedVariables false
namespace Go.Proofs.YtjmkodkechahdaaGreatDoor
open Go.RowKit

section
variable {w : World} {q p : Nat} {J : JS} {L : JL}
end
end Go.Proofs.YtjmkodkechahdaaGreatDoor
/- Operations of journals as arguments of a law; few, texts. -/
set_option linter.unusedSimpArgs false
set_option linter.unusedVariables false
namespace Go.Proofs.YtjmkodkechahdaaGreatDoor
open Go.RowKit
set_option maxRecDepth 100000

/-- An operation, and where its list of numbers lies. -/
structure OpM where
  kind : Int
  s : List UInt8
  n : Int
  keep : List Int
  kA : Option Addr
  kc : Nat
def opC (a : OpM) : List Value := [.int .i64 a.kind, .string (bs a.s), .int .i64 a.n, .slice a.kA a.keep.length a.kc]
/-- What a law's argument gives of an operation. -/
structure OpOk (w : World) (a : OpM) : Prop where
  kind : inI64 a.kind
  n : inI64 a.n
  s : a.s.length ≤ 9223372036854775807
  kl : a.keep.length ≤ 9223372036854775807
  k : ∀ x ∈ a.keep, inI64 x
  rd : RdL 1 intC w w.heap.size a.kA a.keep
theorem OpOk.now {w w' : World} {a : OpM} (h : OpOk w a) (hb : Below w.heap.size w w') : OpOk w' a := ⟨h.kind, h.n, h.s, h.kl, h.k, h.rd.now hb⟩
/-- .. within the bounds of few. -/
structure OpFew (a : OpM) : Prop where
  s : a.s.length ≤ 200
  k : a.keep.length ≤ 50
def fewO1 (a : OpM) : Bool := !(decide (200 < (a.s.length : Int)) || decide (50 < (a.keep.length : Int)))
def fewO (l : List OpM) : Bool := l.all fewO1 && decide ((l.length : Int) ≤ 25)
theorem fewO_ok {l : List OpM} (h : fewO l = true) : l.length ≤ 25 ∧ ∀ a ∈ l, OpFew a := by
  unfold fewO at h
  rw [Bool.and_eq_true, List.all_eq_true] at h
  refine ⟨by have := h.2; simp at this; omega, fun a ha => ?_⟩
  have h1 := h.1 a ha
  simp [fewO1] at h1
  exact ⟨by omega, by omega⟩
theorem RdL.op {w : World} {B : Nat} {A : Option Addr} {xs : List OpM} (h : RdL 4 opC w B A xs) {k : Nat} (hk : k < xs.length) : ∃ b off, A = some ⟨b, off, none⟩ ∧ b < B ∧ w.cell? ⟨b, off + k * 4, none⟩ = some (.int .i64 xs[k].kind) ∧
    w.cell? ⟨b, off + k * 4 + 1, none⟩ = some (.string (bs xs[k].s)) ∧ w.cell? ⟨b, off + k * 4 + 2, none⟩ = some (.int .i64 xs[k].n) ∧ w.cell? ⟨b, off + k * 4 + 3, none⟩ = some (.slice xs[k].kA xs[k].keep.length xs[k].kc) := by
  obtain ⟨b, off, e, hb, hc⟩ := h.at_ hk
  exact ⟨b, off, e, hb, hc 0 _ rfl, hc 1 _ rfl, hc 2 _ rfl, hc 3 _ rfl⟩
/-! texts -/
def textsB (l : List (List UInt8)) : Bool := l.all (fun t => decide ((t.length : Int) ≤ 200)) && decide ((l.length : Int) ≤ 8)
theorem texts_ok {l : List (List UInt8)} (h : textsB l = true) : l.length ≤ 8 ∧ ∀ t ∈ l, t.length ≤ 200 := by
  unfold textsB at h
  rw [Bool.and_eq_true, List.all_eq_true] at h
  refine ⟨by have := h.2; simp at this; omega, fun a ha => ?_⟩
  have h1 := h.1 a ha
  simp at h1
  omega
end Go.Proofs.YtjmkodkechahdaaGreatDoor
