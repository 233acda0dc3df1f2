/- Contracts and plain laws, joined: WrB, WrC, ObL. -/
import Derived.Test.YtoicnokidlkjfaaGreatDoorQac
import Derived.Test.YtoicnokidlkjfaaGreatDoorQaf
import Derived.Test.YtoicnokidlkjfaaGreatDoorShelf
import Derived.Test.YtoicnokidlkjfaaGreatDoorChecked
import Derived.Lib.AppendIntMem
import Derived.Lib.ItoaLen
/- Contracts of package wire: the writers. -/
namespace Go.Proofs.YtoicnokidlkjfaaGreatDoor
open Go.RowKit

/-- What the library's variables hold, and hold whatever is done from block B on. -/
def Facts (w : World) : Prop :=
  Lib.TabIs Tryz.prog w "internal/strconv.uint64pow10" .u64 Lib.pow10Tab ∧
  ((Tryz.prog.globalNamed "strconv.ErrSyntax").isSome = true → ∃ tp p, w.var? Tryz.prog "strconv.ErrSyntax" = some #[.iface tp p]) ∧ ((Tryz.prog.globalNamed "strconv.ErrRange").isSome = true → ∃ tp p, w.var? Tryz.prog "strconv.ErrRange" = some #[.iface tp p])
def Vs (B : Nat) (w : World) : Prop := B ≤ w.heap.size ∧ ∀ w', Below B w w' → Facts w'
theorem Vs.le {B : Nat} {w : World} (h : Vs B w) : B ≤ w.heap.size := h.1
theorem Vs.here {B : Nat} {w : World} (h : Vs B w) : Facts w := h.2 w (Below.refl _ _)
theorem Vs.on {B : Nat} {w w' : World} (h : Vs B w) (hb : Below B w w') : Vs B w' := ⟨Nat.le_trans h.1 hb.size, fun x hx => h.2 x (hb.trans hx)⟩
theorem Vs.now {B : Nat} {w w' : World} (h : Vs B w) (hb : Below w.heap.size w w') : Vs B w' := h.on (hb.mono h.1)

/-- An int. -/
def InInt (n : Int) : Prop := -9223372036854775808 ≤ n ∧ n ≤ 9223372036854775807

theorem itoa_any {B : Nat} (n : Int) (w : World) (hV : Vs B w) (hn : InInt n) :
    Calls Tryz.prog 79 #[.int .i64 n] w fun e w' => e = .returned (.string (bs (Lib.itoa n))) ∧ Below w.heap.size w w' :=
  (Tryz.strconv_Itoa n hn.1 hn.2 w hV.here.1).mono fun e w' ⟨he, k, os, hw⟩ => ⟨he, hw ▸ Lib.below_grow _ w (Nat.le_refl _) k os⟩

def encI (n : Int) : List UInt8 := Lib.itoa n ++ [59]
def encN (n : Int) : List UInt8 := if n < 0 then [] else encI n
def encT (l : List UInt8) : List UInt8 := Lib.itoa l.length ++ [58] ++ l ++ [44]
def encL {α : Type} (one : α → List UInt8) (l : List α) : List UInt8 := Lib.itoa l.length ++ [91] ++ l.flatMap one ++ [93]

theorem encI_len (n : Int) (hn : InInt n) : (encI n).length ≤ 22 := by
  have := Lib.itoa_length_le n hn.1 hn.2
  simp [encI]; omega
theorem encT_len (l : List UInt8) (hl : InInt l.length) : (encT l).length ≤ 23 + l.length := by
  have := Lib.itoa_length_le l.length hl.1 hl.2
  simp [encT]; omega

theorem wInt_any {B : Nat} (n : Int) (w : World) (hV : Vs B w) (hn : InInt n) :
    Calls Tryz.prog 80 #[.int .i64 n] w fun e w' => e = .returned (.string (bs (encI n))) ∧ Below w.heap.size w w' := by
  have hlen := Lib.itoa_length_le n hn.1 hn.2
  go_enter Tryz.func80, Tryz.ntmps80
  go_wp2_with fail
  refine (itoa_any n _ hV hn).mono ?_
  rintro e w1 ⟨rfl, hb1⟩
  go_wp2_with (first
      | ((with_reducible show wpList _ _ _ (Oper.mk _ (Op.binOp .add 9 _ _ _) _ _ _ _ :: _) _ _); refine wp_cat rfl rfl Tryz.underlying9 rfl rfl (by first | omega | (simp; done) | (simp; omega)) ?_)
      | fail)
  go_ret
  exact ⟨rfl, hb1⟩

theorem wNum_any {B : Nat} (n : Int) (w : World) (hV : Vs B w) (hn : InInt n) :
    Calls Tryz.prog 62 #[.int .i64 n] w fun e w' => e = .returned (.string (bs (encN n))) ∧ Below w.heap.size w w' := by
  go_enter Tryz.func62, Tryz.ntmps62
  by_cases h : n < 0
  · go_wp2_with fail
    go_ret
    exact ⟨by show Ending.returned (.string ⟨#[]⟩) = _; rw [encN, if_pos (by omega)]; rfl, Below.refl _ _⟩
  · go_wp2_with fail
    refine (wInt_any n _ hV hn).mono ?_
    rintro e w1 ⟨rfl, hb1⟩
    go_wp2_with fail
    go_ret
    exact ⟨by show Ending.returned (.string (bs (encI n))) = _; rw [encN, if_neg (by omega)], hb1⟩

theorem wText_any {B : Nat} (l : List UInt8) (w : World) (hV : Vs B w) (hl : l.length ≤ 1000000000000) :
    Calls Tryz.prog 61 #[.string (bs l)] w fun e w' => e = .returned (.string (bs (encT l))) ∧ Below w.heap.size w w' := by
  have hl' : InInt l.length := ⟨by omega, by omega⟩
  have hlen := Lib.itoa_length_le l.length hl'.1 hl'.2
  go_enter Tryz.func61, Tryz.ntmps61
  go_wp2_with fail
  refine (itoa_any l.length _ hV hl').mono ?_
  rintro e w1 ⟨rfl, hb1⟩
  go_wp2_with (first
      | ((with_reducible show wpList _ _ _ (Oper.mk _ (Op.binOp .add 9 _ _ _) _ _ _ _ :: _) _ _); refine wp_cat rfl rfl Tryz.underlying9 rfl rfl (by first | omega | (simp; done) | (simp; omega)) ?_)
      | fail)
  go_ret
  exact ⟨ret_str (by simp [encT]), hb1⟩

end Go.Proofs.YtoicnokidlkjfaaGreatDoor
/- Contracts of package wire: lists. -/
namespace Go.Proofs.YtoicnokidlkjfaaGreatDoor
open Go.RowKit

def intE (n : Int) : List Value := [.int .i64 n]
def strE (l : List UInt8) : List Value := [.string (bs l)]
theorem rd_int {w : World} {A : Option Addr} {xs : List Int} {k : Nat} (h : RdL 1 intE w w.heap.size A xs) (hk : k < xs.length) : ∃ b off, A = some ⟨b, off, none⟩ ∧ w.cell? ⟨b, off + k, none⟩ = some (.int .i64 xs[k]) := by
  obtain ⟨b, off, e, hb, hc⟩ := h.at_ hk
  exact ⟨b, off, e, by simpa using hc 0 _ rfl⟩
theorem rd_str {w : World} {A : Option Addr} {xs : List (List UInt8)} {k : Nat} (h : RdL 1 strE w w.heap.size A xs) (hk : k < xs.length) : ∃ b off, A = some ⟨b, off, none⟩ ∧ w.cell? ⟨b, off + k, none⟩ = some (.string (bs xs[k])) := by
  obtain ⟨b, off, e, hb, hc⟩ := h.at_ hk
  exact ⟨b, off, e, by simpa using hc 0 _ rfl⟩

theorem strCells_bs (l : List UInt8) : Lib.strCells (bs l) = Lib.byteCells l := by simp [Lib.strCells, Lib.byteCells, bs]
theorem flat_succ {T : Type} (one : T → List UInt8) (xs : List T) (k : Nat) (hk : k < xs.length) : (xs.take (k + 1)).flatMap one = (xs.take k).flatMap one ++ one xs[k] := by
  rw [List.take_succ_eq_append_getElem hk, List.flatMap_append]; simp
theorem flat_le {T : Type} (one : T → List UInt8) (xs : List T) (k : Nat) : ((xs.take k).flatMap one).length ≤ (xs.flatMap one).length := by
  conv => rhs; rw [← List.take_append_drop k xs, List.flatMap_append, List.length_append]
  omega

theorem flat_bound {T : Type} (one : T → List UInt8) (m : Nat) : ∀ xs : List T, (∀ x ∈ xs, (one x).length ≤ m) → (xs.flatMap one).length ≤ xs.length * m
  | [], _ => by simp
  | x :: r, h => by
    have h1 := h x (by simp)
    have h2 := flat_bound one m r (fun y hy => h y (by simp [hy]))
    simp only [List.flatMap_cons, List.length_append, List.length_cons, Nat.add_mul]
    omega

/-- The bytes of a list of strings. -/
def tot (xs : List (List UInt8)) : Nat := (xs.map List.length).sum
theorem tot_le {xs : List (List UInt8)} {x : List UInt8} (h : x ∈ xs) : x.length ≤ tot xs := by
  induction xs with
  | nil => cases h
  | cons y r ih =>
    rcases List.mem_cons.1 h with rfl | h
    · simp [tot]
    · have := ih h
      simp only [tot, List.map_cons, List.sum_cons] at *
      omega
theorem flat_tot : ∀ xs : List (List UInt8), (∀ x ∈ xs, InInt x.length) → (xs.flatMap encT).length ≤ 23 * xs.length + tot xs
  | [], _ => by simp
  | x :: r, h => by
    have h1 := encT_len x (h x (by simp))
    have h2 := flat_tot r (fun y hy => h y (by simp [hy]))
    simp only [List.flatMap_cons, List.length_append, List.length_cons, tot, List.map_cons, List.sum_cons] at *
    omega
end Go.Proofs.YtoicnokidlkjfaaGreatDoor
/- Lists of strings beside objects in memory. -/
namespace Go.Proofs.YtoicnokidlkjfaaGreatDoor
open Go.RowKit

/-- A list that the object does not change. -/
structure RdK (D : Ob) (w : World) (A : Option Addr) (xs : List (List UInt8)) : Prop where
  rd : RdL 1 strE w w.heap.size A xs
  ap : xs ≠ [] → ∀ i, slBlk A = some i → ¬ D.own i
section
variable {D D2 : Ob} {w w' : World} {A : Option Addr} {xs : List (List UInt8)}
theorem rd_blk (h : RdL 1 strE w w.heap.size A xs) (hne : xs ≠ []) {i : Nat} (hi : slBlk A = some i) : i < w.heap.size := by
  have hl : 0 < xs.length := List.length_pos_iff.2 hne
  obtain ⟨b, off, e, hb, _⟩ := h.at_ hl
  rw [e] at hi
  have := Option.some.inj hi
  simp only at this
  omega
theorem RdK.nil_ : RdK D w none [] := ⟨fun k x hx => by simp at hx, fun h => absurd rfl h⟩
theorem RdK.upd (h : RdK D w A xs) (u : OUpd D D2 w w') : RdK D2 w' A xs := by
  by_cases hne : xs = []
  · subst hne
    exact ⟨fun k x hx => by simp at hx, fun h => absurd rfl h⟩
  · refine ⟨h.rd.turn (fun i hi hl => u.turn.block i hl (h.ap hne i hi)) u.turn.size, fun _ i hi ho => ?_⟩
    rcases u.own i ho with h1 | h1
    · exact h.ap hne i hi h1
    · have := rd_blk h.rd hne hi; omega
theorem RdK.now (h : RdK D w A xs) (hb : Below w.heap.size w w') : RdK D w' A xs := ⟨h.rd.now hb, h.ap⟩
theorem RdK.fresh {D : Ob} (hd : D.ok w) (h : RdL 1 strE w' w'.heap.size A xs) (hA : ∀ i, slBlk A = some i → w.heap.size ≤ i) : RdK D w' A xs :=
  ⟨h, fun _ i hi ho => by have := D.lt w hd i (.inl ho); have := hA i hi; omega⟩
/-- Another object that owns no more. -/
theorem RdK.less (h : RdK D w A xs) (hD : ∀ i, D2.own i → D.own i) : RdK D2 w A xs := ⟨h.rd, fun hn i hi ho => h.ap hn i hi (hD i ho)⟩
end
/-! Lists that the call owns, as objects. -/
section
variable {T : Type} {sz : Nat} {enc : T → List Value}
def lsOb (e : TypeId) (sz : Nat) (enc : T → List Value) (A : Option Addr) (c : Nat) (xs : List T) : Ob where
  own i := slBlk A = some i
  see _ := False
  ok w := OwnL w 0 e sz enc A c xs
  lt w h i hi := hi.elim (fun hi => (h.blk_lt hi).2) (fun h => h.elim)
  frame w w' h hb _ := h.turn (fun i hi _ => hb i (.inl hi))
variable {w w5 : World} {e : TypeId} {A A2 : Option Addr} {c c2 : Nat} {xs ys : List T}
/-- What an append does to its list. -/
theorem OUpd.append (o : Obj) (hown : OwnL w5 0 e sz enc A2 c2 ys) (hg : (w.alloc o).grownBy w5 (slBlk A)) (hat : slBlk A2 = slBlk A ∨ slBlk A2 = some (w.alloc o).heap.size) :
    OUpd (lsOb e sz enc A c xs) (lsOb e sz enc A2 c2 ys) w w5 := by
  have hsz : (w.alloc o).heap.size = w.heap.size + 1 := by simp
  refine ⟨hown, ((Turn.refl (fun i => slBlk A = some i) w).alloc o).trans (Turn.grown (F := fun i => slBlk A = some i) hg (fun k hk => hk)) (fun i hi => .inl hi), fun i hi => ?_, fun _ h => h.elim⟩
  have hi' : slBlk A2 = some i := hi
  rcases hat with h | h
  · exact .inl (by show slBlk A = some i; rw [← h]; exact hi')
  · rw [hi', hsz] at h
    exact .inr (by have := Option.some.inj h; omega)
end
end Go.Proofs.YtoicnokidlkjfaaGreatDoor
