/- Contracts and plain laws, joined: WrH, WrI, WrJ, WrK, WrQ, WrR, WrS, WrT, WrU. -/
import Derived.Test.YtjmkodkechahdaaGreatDoorQba
import Derived.Test.YtjmkodkechahdaaGreatDoorQap
import Derived.Test.YtjmkodkechahdaaGreatDoorQau
/- Contracts of lingualaw01's own functions. -/
set_option linter.unusedSimpArgs false
set_option linter.unusedVariables false
namespace Go.Proofs.YtjmkodkechahdaaGreatDoor
open Go.RowKit

theorem eq_take {T : Type} (xs ys : List T) (k : Nat) (hk : k < xs.length) (hk2 : k < ys.length) (h : xs.take k = ys.take k) (he : xs[k] = ys[k]) : xs.take (k + 1) = ys.take (k + 1) := by
  rw [List.take_succ_eq_append_getElem hk, List.take_succ_eq_append_getElem hk2, h, he]
theorem ne_at {T : Type} (xs ys : List T) (k : Nat) (hk : k < xs.length) (hk2 : k < ys.length) (he : ¬ xs[k] = ys[k]) : ¬ xs = ys := fun h => he (by subst h; rfl)
theorem rd_int' {w : World} {A : Option Addr} {xs : List Int} {k : Nat} (h : RdL 1 intE w w.heap.size A xs) (hk : k < xs.length) : ∃ b off, A = some ⟨b, off, none⟩ ∧ b < w.heap.size ∧ w.cell? ⟨b, off + k, none⟩ = some (.int .i64 xs[k]) := by
  obtain ⟨b, off, e, hb, hc⟩ := h.at_ hk
  exact ⟨b, off, e, hb, by simpa using hc 0 _ rfl⟩
theorem rd_str' {w : World} {A : Option Addr} {xs : List (List UInt8)} {k : Nat} (h : RdL 1 strE w w.heap.size A xs) (hk : k < xs.length) : ∃ b off, A = some ⟨b, off, none⟩ ∧ b < w.heap.size ∧ w.cell? ⟨b, off + k, none⟩ = some (.string (bs xs[k])) := by
  obtain ⟨b, off, e, hb, hc⟩ := h.at_ hk
  exact ⟨b, off, e, hb, by simpa using hc 0 _ rfl⟩
/-- The kind of a value. -/
def VM.knd (v : VM) : Int := if v.kind.tmod 5 < 0 then v.kind.tmod 5 + 5 else v.kind.tmod 5
theorem VM.knd_in (v : VM) : 0 ≤ v.knd ∧ v.knd < 5 := by
  unfold VM.knd
  have h := Int.tmod_lt_of_pos v.kind (show (0 : Int) < 5 by decide)
  have h2 := Int.lt_tmod_of_pos v.kind (show (0 : Int) < 5 by decide)
  split <;> omega
def numV (n : Int) : Int := if n < 0 then -(n + 1) else n
theorem numV_in {n : Int} (h : InInt n) : InInt (numV n) ∧ 0 ≤ numV n := by
  unfold numV InInt at *
  split <;> omega
end Go.Proofs.YtjmkodkechahdaaGreatDoor
/- Contracts of lingualaw01: write and equal. -/
set_option linter.unusedSimpArgs false
set_option linter.unusedVariables false
namespace Go.Proofs.YtjmkodkechahdaaGreatDoor
open Go.RowKit

/-- The encoding of a value. -/
def VM.enc (v : VM) : List UInt8 :=
  if v.knd = 0 then encI (numV v.n) else if v.knd = 1 then encI v.n else if v.knd = 2 then encT v.s else if v.knd = 3 then encL encI v.l else encL encT v.t
/-- A value is of a size that can be written. -/
structure VM.Fits (v : VM) : Prop where
  s : v.s.length ≤ 1000000
  l : v.l.length ≤ 1000000
  t : v.t.length ≤ 1000000
  tt : tot v.t ≤ 1000000000
theorem OwnL.len_max {T : Type} {sz : Nat} {enc : T → List Value} {w : World} {base : Nat} {e : TypeId} {A : Option Addr} {c : Nat} {xs : List T} (h : OwnL w base e sz enc A c xs) : xs.length ≤ 9223372036854775807 := by
  rcases h.2 with ⟨hv, hn⟩ | ⟨g, cap, cur, hv, _, _, hn, hc, _⟩
  · omega
  · simp only [maxLen] at hc
    omega
/-- What 'equal' does. -/
def VM.eq (v : VM) (s : RS) : Bool × RS :=
  if v.knd = 0 then ((rNum 59 0 s).1 == numV v.n, (rNum 59 0 s).2)
  else if v.knd = 1 then ((rNum 59 (-9223372036854775808) s).1 == v.n, (rNum 59 (-9223372036854775808) s).2)
  else if v.knd = 2 then ((rText s).1 == v.s, (rText s).2)
  else if v.knd = 3 then ((rItems (rNum 59 (-9223372036854775808)) s).1 == v.l, (rItems (rNum 59 (-9223372036854775808)) s).2)
  else ((rItems rText s).1 == v.t, (rItems rText s).2)
end Go.Proofs.YtjmkodkechahdaaGreatDoor
/- Contracts of lingualaw01: few. -/
set_option linter.unusedSimpArgs false
set_option linter.unusedVariables false
namespace Go.Proofs.YtjmkodkechahdaaGreatDoor
open Go.RowKit

def VM.ok (v : VM) : Bool := decide (v.l.length ≤ 400) && (decide (v.t.length ≤ 400) && (decide (v.s.length ≤ 400) && v.t.all fun x => decide (x.length ≤ 400)))
def VM.sz (v : VM) : Nat := v.s.length + v.l.length + v.t.length + tot v.t
def sumSz (xs : List VM) : Nat := (xs.map VM.sz).sum
def fewV (xs : List VM) : Bool := decide (xs.length ≤ 20) && (xs.all VM.ok && decide (sumSz xs ≤ 400))
theorem sumSz_succ (xs : List VM) (k : Nat) (hk : k < xs.length) : sumSz (xs.take (k + 1)) = sumSz (xs.take k) + xs[k].sz := by
  rw [List.take_succ_eq_append_getElem hk]; simp only [sumSz, List.map_append, List.sum_append, List.map_cons, List.map_nil, List.sum_cons, List.sum_nil, Nat.add_zero]
theorem tot_succ (xs : List (List UInt8)) (k : Nat) (hk : k < xs.length) : tot (xs.take (k + 1)) = tot (xs.take k) + xs[k].length := by
  rw [List.take_succ_eq_append_getElem hk]; simp only [tot, List.map_append, List.sum_append, List.map_cons, List.map_nil, List.sum_cons, List.sum_nil, Nat.add_zero]
theorem tot_take_le (xs : List (List UInt8)) (k : Nat) : tot (xs.take k) ≤ tot xs := by
  conv => rhs; rw [← List.take_append_drop k xs]
  simp only [tot, List.map_append, List.sum_append]
  omega
theorem tot_bound (xs : List (List UInt8)) (m : Nat) (h : ∀ x ∈ xs, x.length ≤ m) : tot xs ≤ xs.length * m := by
  induction xs with
  | nil => simp [tot]
  | cons x r ih =>
    have h1 := h x (by simp)
    have h2 := ih (fun y hy => h y (by simp [hy]))
    simp only [tot, List.map_cons, List.sum_cons, List.length_cons, Nat.add_mul] at *
    omega
theorem VM.sz_le (v : VM) (h : v.ok = true) : v.sz ≤ 200000 := by
  unfold VM.ok at h
  simp only [Bool.and_eq_true, decide_eq_true_eq, List.all_eq_true] at h
  obtain ⟨h1, h2, h3, h4⟩ := h
  have := tot_bound v.t 400 h4
  have h5 : v.t.length * 400 ≤ 400 * 400 := Nat.mul_le_mul_right _ h2
  unfold VM.sz
  omega
theorem sum_le (xs : List VM) (h : ∀ x ∈ xs, x.ok = true) : sumSz xs ≤ xs.length * 200000 := by
  induction xs with
  | nil => simp [sumSz]
  | cons x r ih =>
    have h1 := VM.sz_le x (h x (by simp))
    have h2 := ih (fun y hy => h y (by simp [hy]))
    simp only [sumSz, List.map_cons, List.sum_cons, List.length_cons, Nat.add_mul] at *
    omega
theorem few_bad (xs : List VM) (k : Nat) (hk : k < xs.length) (h : xs[k].ok = false) : fewV xs = false := by
  have : xs.all VM.ok = false := by
    rw [List.all_eq_false]
    exact ⟨xs[k], List.getElem_mem hk, by simp [h]⟩
  simp [fewV, this]
theorem few_end (xs : List VM) (h20 : xs.length ≤ 20) (h : ∀ x ∈ xs, x.ok = true) : fewV xs = decide (sumSz xs ≤ 400) := by
  have : xs.all VM.ok = true := List.all_eq_true.2 h
  simp [fewV, this, h20]
theorem wrap_id {x : Int} (h : -9223372036854775808 ≤ x ∧ x ≤ 9223372036854775807) : wrap64 x = x := by unfold wrap64; omega
theorem take_grow {T : Type} (P : T → Prop) (q : List T) (k : Nat) (hk : k < q.length) (h : ∀ p ∈ q.take k, P p) (h1 : P q[k]) : ∀ p ∈ q.take (k + 1), P p := by
  intro p hp
  rw [List.take_succ_eq_append_getElem hk, List.mem_append, List.mem_singleton] at hp
  rcases hp with hp | rfl
  · exact h p hp
  · exact h1
theorem rd_val {w : World} {A : Option Addr} {xs : List VM} {k : Nat} (h : RdL 5 VM.cs w w.heap.size A xs) (hk : k < xs.length) : ∃ b off v, A = some ⟨b, off, none⟩ ∧ b < w.heap.size ∧ xs[k] = v ∧
    w.cell? ⟨b, off + k * 5, none⟩ = some (.int .i64 v.kind) ∧ w.cell? ⟨b, off + k * 5 + 1, none⟩ = some (.int .i64 v.n) ∧ w.cell? ⟨b, off + k * 5 + 2, none⟩ = some (.string (bs v.s)) ∧ w.cell? ⟨b, off + k * 5 + 3, none⟩ = some (.slice v.lA v.l.length v.lc) ∧ w.cell? ⟨b, off + k * 5 + 4, none⟩ = some (.slice v.tA v.t.length v.tc) := by
  obtain ⟨b, off, e, hb, hc⟩ := h.at_ hk
  exact ⟨b, off, xs[k], e, hb, rfl, by simpa using hc 0 _ rfl, hc 1 _ rfl, hc 2 _ rfl, hc 3 _ rfl, hc 4 _ rfl⟩

end Go.Proofs.YtjmkodkechahdaaGreatDoor
/- Contracts of lingualaw01: small. -/
set_option linter.unusedSimpArgs false
set_option linter.unusedVariables false
namespace Go.Proofs.YtjmkodkechahdaaGreatDoor
open Go.RowKit

theorem text_c {B : Nat} (s : ByteArray) (l : ByteArray) (hs : s.size ≤ 1000000) (h : bs (encT s.data.toList) = l) (w : World) (hV : Vs B w) :
    Calls Tryz.prog 109 #[.string s] w fun e w' => e = .returned (.string l) ∧ Below w.heap.size w w' := h ▸ wText_any s.data.toList w hV (by
      have : s.data.toList.length = s.size := by rw [Array.length_toList]; rfl
      omega)
theorem texts_nil {B : Nat} (w : World) (hV : Vs B w) :
    Calls Tryz.prog 90 #[.slice none 0 0] w fun e w' => e = .returned (.string ⟨#[48, 91, 93]⟩) ∧ Below w.heap.size w w' :=
  (wTexts_any [] none 0 w hV RdL.nil_ (by simp [tot]) (by simp)).mono fun e w' ⟨he, hb⟩ => ⟨he.trans (by
    have : encL encT [] = [48, 91, 93] := by simp [encL, Lib.itoa, Lib.decDigits]
    rw [this]; rfl), hb⟩
theorem RdL.block {T : Type} {sz : Nat} {enc : T → List Value} (L : Lay sz enc) (w : World) (xs : List T) (cs : Array Value) (t : TypeId) (h : cs.toList = xs.flatMap enc) (b : Nat) (hb : b = w.heap.size) :
    RdL sz enc (w.alloc (.cells cs t)) (w.alloc (.cells cs t)).heap.size (some ⟨b, 0, none⟩) xs := by
  subst hb
  intro k x hx
  refine ⟨_, _, rfl, by simp, fun j v hj => ?_⟩
  have hg := flat_get L xs k j x v hx hj
  rw [← h] at hg
  unfold World.cell?
  simp only [heap_alloc_new]
  simpa using hg
theorem num007 : rNum 59 0 ⟨[48, 48, 55, 59], false⟩ = (0, .fail) := by
  have h1 : Lib.indexByte ([48, 48, 55, 59] : List UInt8) 59 = 3 := by decide
  have h2 : Lib.atoiAll [48, 48, 55] = .ok 7 := by decide
  have h3 : Lib.itoa 7 = [55] := by simp [Lib.itoa, Lib.decDigits]
  simp [rNum, h1, h2, h3]
end Go.Proofs.YtjmkodkechahdaaGreatDoor
/- Contracts of linguaref01's reader: it does what the program's does. -/
set_option linter.unusedSimpArgs false
set_option linter.unusedVariables false
namespace Go.Proofs.YtjmkodkechahdaaGreatDoor
open Go.RowKit

def RqAt (b : Nat) (s : RS) (w : World) : Prop := w.heap[b]? = some (.cells #[.string (bs s.rest), .bool s.bad] 121 (0, 0))
section
variable {b : Nat} {s s' : RS} {w w' : World}
theorem RqAt.lt (h : RqAt b s w) : b < w.heap.size := box_lt h
theorem RqAt.c0 (h : RqAt b s w) : w.cell? ⟨b, 0, none⟩ = some (.string (bs s.rest)) := box_cell h 0 _ rfl
theorem RqAt.c1 (h : RqAt b s w) : w.cell? ⟨b, 1, none⟩ = some (.bool s.bad) := box_cell h 1 _ rfl
theorem RqAt.free (h : RqAt b s w) (j : Nat) : w.frozen? ⟨b, j, none⟩ = false := box_free h j
theorem RqAt.now (h : RqAt b s w) (hb : Below w.heap.size w w') : RqAt b s w' := (hb.block b h.lt).trans h
theorem RqAt.set0 (h : RqAt b s w) (l : List UInt8) : RqAt b ⟨l, s.bad⟩ (w.setCell ⟨b, 0, none⟩ (.string (bs l))) := by
  unfold RqAt at *
  simp [World.setCell, Array.getElem?_modify, h]
theorem RqAt.set1 (h : RqAt b s w) (x : Bool) : RqAt b ⟨s.rest, x⟩ (w.setCell ⟨b, 1, none⟩ (.bool x)) := by
  unfold RqAt at *
  simp [World.setCell, Array.getElem?_modify, h]
end
/-- A reader that has failed has nothing left. -/
def Good (s : RS) : Prop := s.bad = true → s.rest = []

theorem qFail_any (b : Nat) (s : RS) (w : World) (h : RqAt b s w) :
    Calls Tryz.prog 111 #[.pointer (some ⟨b, 0, none⟩)] w fun e w' => e = .returned (.int .i64 0) ∧ RqAt b .fail w' ∧ Turn (One b) w w' := by
  have c0 := h.c0
  have c1 := h.c1
  have f0 := h.free 0
  have f1 := h.free 1
  go_enter Tryz.func111, Tryz.ntmps111
  go_wp2_with fail
  go_ret
  exact ⟨rfl, (h.set0 []).set1 true, ((Turn.refl (One b) w).set b 0 _ (.inl rfl)).set b 1 _ (.inl rfl)⟩

/-- A digit more, from the left, as a negative number. -/
def bstep (n : Int) (c : UInt8) : Int := wrap64 (wrap64 (10 * n) - ((c.toNat : Int) - 48))
def bfold (l : List UInt8) : Int := l.foldl bstep 0
theorem bstep_dig {a : Int} {d : Nat} (hd : d < 10) (h0 : a ≤ 0) (h : -9223372036854775808 ≤ 10 * a - d) : bstep a (UInt8.ofNat (48 + d)) = 10 * a - d := by
  have e := dig_nat hd
  unfold bstep
  rw [e, wrap_id (x := 10 * a) (by omega)]
  rw [show ((48 + d : Nat) : Int) - 48 = d by omega, wrap_id (by omega)]
theorem bfold_dd : ∀ u : Nat, u ≤ 9223372036854775808 → bfold (Lib.decDigits u) = -(u : Int) := by
  intro u
  induction u using Nat.strongRecOn with
  | _ u ih =>
    intro h
    by_cases hu : u < 10
    · rw [dd_small hu]
      show bstep 0 _ = _
      rw [bstep_dig hu (by omega) (by omega)]; omega
    · rw [dd_big hu]
      unfold bfold
      rw [List.foldl_append]
      have := ih (u / 10) (by omega) (by omega)
      unfold bfold at this
      rw [this]
      show bstep _ _ = _
      rw [bstep_dig (by omega) (by omega) (by omega)]; omega
theorem bfold_in (l : List UInt8) : InInt (bfold l) := by
  have one : ∀ (l : List UInt8) (a : Int), InInt a → InInt (l.foldl bstep a) := by
    intro l
    induction l with
    | nil => intro a h; exact h
    | cons c l ih =>
      intro a h
      refine ih _ ?_
      unfold bstep InInt
      generalize wrap64 (10 * a) - ((c.toNat : Int) - 48) = x
      unfold wrap64
      omega
  exact one l 0 ⟨by decide, by decide⟩
theorem bfold_snoc (l : List UInt8) (c : UInt8) : bfold (l ++ [c]) = bstep (bfold l) c := by simp [bfold]

/-- What 'Back' is asked for: the int of a decimal form. -/
def IsForm (l : List UInt8) (v : Int) (ok : Bool) : Prop := (ok = true → Lib.itoa v = l ∧ InInt v) ∧ (ok = false → ∀ m, InInt m → Lib.itoa m ≠ l)
def isDig (c : UInt8) : Prop := 48 ≤ c.toNat ∧ c.toNat ≤ 57
theorem itoa_shape (m : Int) (hm : InInt m) : (∃ r, Lib.itoa m = 45 :: r ∧ (∀ c ∈ r, isDig c) ∧ bfold r = m) ∨ (∃ r, Lib.itoa m = r ∧ r ≠ [] ∧ (∀ c ∈ r, isDig c) ∧ wrap64 (-bfold r) = m) := by
  have h0 := hm.1
  have h1 := hm.2
  by_cases h : m < 0
  · left
    refine ⟨Lib.decDigits m.natAbs, by rw [Lib.itoa, if_pos h], fun c hc => dd_dig _ c hc, ?_⟩
    rw [bfold_dd _ (by omega)]; omega
  · right
    refine ⟨Lib.decDigits m.toNat, by rw [Lib.itoa, if_neg h], dd_ne _, fun c hc => dd_dig _ c hc, ?_⟩
    rw [bfold_dd _ (by omega), wrap_id (by omega)]; omega
end Go.Proofs.YtjmkodkechahdaaGreatDoor
/- The contract of linguaref01.Back. -/
set_option linter.unusedSimpArgs false
set_option linter.unusedVariables false
namespace Go.Proofs.YtjmkodkechahdaaGreatDoor
open Go.RowKit

theorem bs_get (l : List UInt8) (k : Nat) (h : k < (bs l).size) : (bs l)[k]'h = l[k]'h := rfl
/-- Where the digits begin. -/
def FromOk (l : List UInt8) (f : Nat) : Prop := (f = 1 ∧ ∃ r, l = 45 :: r) ∨ (f = 0 ∧ ∀ r, l ≠ 45 :: r)
theorem not_dig45 : ¬ isDig 45 := by unfold isDig; decide
theorem form_bad {l : List UInt8} {f i : Nat} (hf : FromOk l f) (hfi : f ≤ i) (hi : i < l.length) (h : ¬ isDig l[i]) : IsForm l 0 false := by
  refine ⟨fun h => by simp at h, fun _ m hm he => ?_⟩
  rcases itoa_shape m hm with ⟨r, h1, h2, _⟩ | ⟨r, h1, _, h2, _⟩
  · rw [he] at h1
    rcases hf with ⟨rfl, _⟩ | ⟨_, h3⟩
    · subst h1
      obtain ⟨j, rfl⟩ : ∃ j, i = j + 1 := ⟨i - 1, by omega⟩
      exact h (h2 _ (by simp only [List.getElem_cons_succ]; exact List.getElem_mem _))
    · exact h3 r h1
  · rw [he] at h1
    subst h1
    exact h (h2 _ (List.getElem_mem hi))
theorem form_end {l : List UInt8} {f : Nat} (hf : FromOk l f) {v : Int} (hv : v = if f = 0 then wrap64 (-bfold (l.drop f)) else bfold (l.drop f)) : IsForm l v (decide (Lib.itoa v = l)) := by
  have hin : InInt v := by
    rw [hv]
    split
    · unfold InInt
      generalize -bfold (l.drop f) = x
      unfold wrap64
      omega
    · exact bfold_in _
  refine ⟨fun h => ⟨of_decide_eq_true h, hin⟩, fun h m hm he => ?_⟩
  have hne := of_decide_eq_false h
  apply hne
  have : v = m := by
    rcases itoa_shape m hm with ⟨r, h1, _, h3⟩ | ⟨r, h1, h0, h2, h3⟩
    · rw [he] at h1
      rcases hf with ⟨rfl, _⟩ | ⟨_, h4⟩
      · rw [hv, if_neg (by omega), h1]; exact h3
      · exact absurd h1 (h4 r)
    · rw [he] at h1
      rcases hf with ⟨rfl, r', h4⟩ | ⟨rfl, _⟩
      · have := h2 45 (by rw [← h1, h4]; simp)
        exact absurd this not_dig45
      · rw [hv, if_pos rfl, List.drop_zero, h1]; exact h3
  rw [this, he]
theorem fold_step {l : List UInt8} {f i : Nat} (hfi : f ≤ i) (hi : i < l.length) : bfold ((l.drop f).take (i + 1 - f)) = bstep (bfold ((l.drop f).take (i - f))) l[i] := by
  have h1 : i - f < (l.drop f).length := by simp; omega
  rw [show i + 1 - f = (i - f) + 1 by omega, List.take_succ_eq_append_getElem h1, bfold_snoc]
  congr 1
  simp only [List.getElem_drop]
  congr 1
  omega
theorem form_eq (v : Int) (l : List UInt8) : ((bs (encI v)).toList == (bs (l ++ [59])).toList) = decide (Lib.itoa v = l) := by
  rw [bs_beq, encI, Bool.eq_iff_iff]
  simp
/-- How 'Back' ends. -/
def FormOut (l : List UInt8) (w : World) (e : Ending) (w' : World) : Prop := ∃ v ok, e = .returned (.tuple #[.int .i64 v, .bool ok]) ∧ IsForm l v ok ∧ Below w.heap.size w w'
set_option maxRecDepth 100000 in
set_option maxHeartbeats 4000000 in
theorem qBack_any (l : List UInt8) (w : World) (hl : l.length ≤ 21) :
    Calls Tryz.prog 119 #[.string (bs l)] w (FormOut l w) := by
  have hsz : (bs l).size = l.length := bs_size l
  go_enter Tryz.func119, Tryz.ntmps119
  go_upto_region 2 with fail
  go_cut [14] (fun x wx => ∃ b : Bool, x = .bool b ∧ (b = true ↔ ∃ r, l = 45 :: r) ∧ wx = w)
  case first =>
    cases l with
    | nil =>
      go_wp2_with fail
      go_meet
      exact ⟨false, by simp, by simp, rfl⟩
    | cons c r =>
      have hp2 : (0 : Int) < (c :: r).length := by simp
      have hget : ∀ h, (bs (c :: r))[0]'h = c := fun h => rfl
      by_cases hc : c = 45
      · subst hc
        have h45 : ((((45 : UInt8).toNat : Nat) : Int) == 45) = true := by decide
        go_wp2_with fail
        go_meet
        exact ⟨true, by simp, ⟨fun _ => ⟨r, rfl⟩, fun _ => rfl⟩, rfl⟩
      · have h45 : ((c.toNat : Int) == 45) = false := by
          simp only [beq_eq_false_iff_ne]
          intro h
          apply hc
          have : c.toNat = 45 := by omega
          exact UInt8.toNat_inj.1 this
        go_wp2_with fail
        go_meet
        exact ⟨false, by simp, ⟨fun h => by simp at h, fun ⟨r', h⟩ => absurd (List.cons.inj h).1 hc⟩, rfl⟩
  case rest =>
  obtain ⟨b0, rfl, hb0, rfl⟩ := hcut
  go_upto_if 14 with fail
  go_cut [4] (fun x wx => ∃ f : Nat, x = .int .i64 f ∧ FromOk l f ∧ wx = wc)
  case first =>
    cases b0 with
    | true =>
      have HF := Lib.hid (hb0.1 rfl)
      go_wp2_with fail
      go_meet
      exact ⟨1, by simp, .inl ⟨rfl, HF.out⟩, rfl⟩
    | false =>
      have HF : Hid (∀ r, l ≠ 45 :: r) := Lib.hid (fun r h => by have := hb0.2 ⟨r, h⟩; simp at this)
      go_wp2_with fail
      go_meet
      exact ⟨0, by simp, .inr ⟨rfl, HF.out⟩, rfl⟩
  case rest =>
    clear hb0
    obtain ⟨f, rfl, hf, rfl⟩ := hcut
    have HF := Lib.hid hf
    have hf1 : f ≤ l.length := by
      rcases hf with ⟨rfl, r, rfl⟩ | ⟨rfl, _⟩
      · simp
      · simp
    clear hf
    go_wp2_with fail
    go_loopw [5, 6] (fun n i wr => ∃ k : Nat, f ≤ k ∧ k ≤ l.length ∧ i = .int .i64 k ∧ n = .int .i64 (bfold ((l.drop f).take (k - f))) ∧ wr = wc) (fun _ i _ => l.length - (intOf i).toNat)
    case atStart => exact ⟨f, Nat.le_refl _, hf1, rfl, by rw [Nat.sub_self, List.take_zero]; rfl, rfl⟩
    case round =>
      obtain ⟨k, hfk, hk, rfl, rfl, rfl⟩ := hrel
      by_cases hlt : k < l.length
      · have HSt := Lib.hid (fold_step hfk hlt)
        have HBad := Lib.hid (fun h => form_bad HF.out hfk hlt h)
        obtain ⟨c, hc⟩ : ∃ c, c = l[k] := ⟨_, rfl⟩
        have hget : ∀ h, (bs l)[k]'h = c := fun h => hc.symm
        rw [← hc] at HSt HBad
        have hn := bfold_in ((l.drop f).take (k - f))
        clear hc
        generalize bfold ((l.drop f).take (k - f)) = n at *
        by_cases hd : isDig c
        · have hd1 : ¬ (c.toNat : Int) < 48 := by have := hd.1; omega
          have hd2 : ¬ (57 : Int) < c.toNat := by have := hd.2; omega
          go_wp2_with fail
          go_roundw
          case rel =>
            refine ⟨k + 1, by omega, by omega, by go_num, ?_, by first | rfl | trivial⟩
            rw [HSt.out]
            rfl
          case measure => simp [intOf]; omega
        · have HF2 := Lib.hid (HBad.out hd)
          by_cases hd1 : (c.toNat : Int) < 48
          · go_wp2_with fail
            go_ret2
            exact ⟨0, false, rfl, HF2.out, Below.refl _ _⟩
          · have hd2 : (57 : Int) < c.toNat := by unfold isDig at hd; omega
            clear hd
            go_wp2_with fail
            go_ret2
            exact ⟨0, false, rfl, HF2.out, Below.refl _ _⟩
      · have htk : (l.drop f).take (k - f) = l.drop f := List.take_of_length_le (by simp; omega)
        rw [htk]
        clear htk
        have HE := Lib.hid (fun v (hv : v = if f = 0 then wrap64 (-bfold (l.drop f)) else bfold (l.drop f)) => form_end HF.out hv)
        have hn := bfold_in (l.drop f)
        generalize bfold (l.drop f) = n at *
        by_cases hf0 : f = 0
        · subst hf0
          have HE2 : Hid (IsForm l (wrap64 (-n)) (decide (Lib.itoa (wrap64 (-n)) = l))) := Lib.hid (HE.out _ (by simp))
          have hin : InInt (wrap64 (-n)) := by
            unfold InInt
            generalize -n = x
            unfold wrap64
            omega
          obtain ⟨v, hv⟩ : ∃ v, v = wrap64 (-n) := ⟨_, rfl⟩
          rw [← hv] at HE2 hin
          have HV := Lib.hid hv
          clear hv
          go_wp2_with fail
          rw [← HV.out]
          refine (rInt_any v wr hin).mono ?_
          rintro e w5 ⟨rfl, hb5⟩
          have hl1 := encI_len v hin
          go_wp2_with (first
              | ((with_reducible show wpList _ _ _ (Oper.mk _ (Op.binOp .add 9 _ _ _) _ _ _ _ :: _) _ _); refine wp_cat rfl rfl Tryz.underlying9 rfl rfl (by first | omega | (simp; done) | (simp; omega)) ?_)
              | fail)
          go_ret2
          refine ⟨v, decide (Lib.itoa v = l), ?_, HE2.out, hb5⟩
          rw [← form_eq]
          rfl
        · have HE2 : Hid (IsForm l n (decide (Lib.itoa n = l))) := Lib.hid (HE.out _ (by rw [if_neg hf0]))
          have hin := hn
          have hf1' : f = 1 := by
            rcases HF.out with ⟨h, _⟩ | ⟨h, _⟩
            · exact h
            · exact absurd h hf0
          subst hf1'
          clear hn hf0
          obtain ⟨v, hv⟩ : ∃ v, v = n := ⟨_, rfl⟩
          subst hv
          go_wp2_with fail
          refine (rInt_any v wr hin).mono ?_
          rintro e w5 ⟨rfl, hb5⟩
          have hl1 := encI_len v hin
          go_wp2_with (first
              | ((with_reducible show wpList _ _ _ (Oper.mk _ (Op.binOp .add 9 _ _ _) _ _ _ _ :: _) _ _); refine wp_cat rfl rfl Tryz.underlying9 rfl rfl (by first | omega | (simp; done) | (simp; omega)) ?_)
              | fail)
          go_ret2
          refine ⟨v, decide (Lib.itoa v = l), ?_, HE2.out, hb5⟩
          rw [← form_eq]
          rfl
end Go.Proofs.YtjmkodkechahdaaGreatDoor
/- Contracts of linguaref01's reader: numbers. -/
set_option linter.unusedSimpArgs false
set_option linter.unusedVariables false
namespace Go.Proofs.YtjmkodkechahdaaGreatDoor
open Go.RowKit

theorem rNum_cases (e : UInt8) (m : Int) (s : RS) : rNum e m s = (0, .fail) ∨ ∃ n, m ≤ n ∧ InInt n ∧ s.rest = Lib.itoa n ++ e :: s.rest.drop ((Lib.itoa n).length + 1) ∧ rNum e m s = (n, ⟨s.rest.drop ((Lib.itoa n).length + 1), s.bad⟩) := by
  have hix := index_split (s.rest.take 21) e
  have hlt := indexByte_in (s.rest.take 21) e
  have hdef : rNum e m s = if Lib.indexByte (s.rest.take 21) e < 0 then (0, .fail) else
    match Lib.atoiAll ((s.rest.take 21).take (Lib.indexByte (s.rest.take 21) e).toNat) with
    | .ok n => if Lib.itoa n = (s.rest.take 21).take (Lib.indexByte (s.rest.take 21) e).toNat ∧ m ≤ n then (n, ⟨s.rest.drop ((Lib.indexByte (s.rest.take 21) e).toNat + 1), s.bad⟩) else (0, .fail)
    | _ => (0, .fail) := rfl
  rw [hdef]
  by_cases h0 : Lib.indexByte (s.rest.take 21) e < 0
  · left; rw [if_pos h0]
  · rw [if_neg h0]
    have h1 := hix (by omega)
    have h2 := hlt (by omega)
    generalize Lib.indexByte (s.rest.take 21) e = a at *
    have h3 : a.toNat < 21 := by
      have : (s.rest.take 21).length ≤ 21 := by simp; omega
      omega
    have h4 : a.toNat < s.rest.length := by
      have : (s.rest.take 21).length ≤ s.rest.length := by simp; omega
      omega
    rw [List.getElem?_take_of_lt h3] at h1
    have h5 : s.rest[a.toNat] = e := by rw [List.getElem?_eq_getElem h4] at h1; exact Option.some.inj h1
    have h6 : (s.rest.take 21).take a.toNat = s.rest.take a.toNat := by rw [List.take_take, Nat.min_eq_left (by omega)]
    rw [h6]
    rcases hA : Lib.atoiAll (s.rest.take a.toNat) with n | _ | _
    · simp only
      by_cases hq : Lib.itoa n = s.rest.take a.toNat ∧ m ≤ n
      · right
        have hlen : (Lib.itoa n).length = a.toNat := by rw [hq.1]; simp; omega
        refine ⟨n, hq.2, Lib.atoiAll_bounds hA, ?_, ?_⟩
        · rw [hlen, hq.1]
          conv => lhs; rw [← List.take_append_drop a.toNat s.rest, List.drop_eq_getElem_cons h4, h5]
        · rw [if_pos hq, hlen]
      · left; rw [if_neg hq]
    · left; rfl
    · left; rfl
theorem rNum_none {e : UInt8} {m : Int} {s : RS} (h : ∀ n, InInt n → ∀ tl, s.rest ≠ Lib.itoa n ++ e :: tl) : rNum e m s = (0, .fail) := by
  rcases rNum_cases e m s with h1 | ⟨n, _, hn, hr, _⟩
  · exact h1
  · exact absurd hr (h n hn _)
theorem rNum_zero (e : UInt8) (s : RS) : rNum e 0 s = if (rNum e (-9223372036854775808) s).1 < 0 then (0, .fail) else rNum e (-9223372036854775808) s := by
  unfold rNum
  simp only
  split
  · simp
  · split
    · rename_i n hn
      have hb := Lib.atoiAll_bounds hn
      generalize (⟨s.rest.drop ((Lib.indexByte (s.rest.take 21) e).toNat + 1), s.bad⟩ : RS) = q
      by_cases h1 : Lib.itoa n = (s.rest.take 21).take (Lib.indexByte (s.rest.take 21) e).toNat
      · simp only [h1, true_and]
        by_cases h2 : 0 ≤ n
        · have h3 : ¬ n < 0 := by omega
          simp only [h2, hb.1, if_true, h3, if_false]
        · have h3 : n < 0 := by omega
          simp only [h2, hb.1, if_true, h3, if_false]
      · simp only [h1, false_and, if_false]
        simp
    · simp
/-- The first place of a byte. -/
theorem first_eq {l r : List UInt8} {e : UInt8} {k : Nat} (hk : k < l.length) (he : l[k] = e) (hno : e ∉ l.take k) {d : List UInt8} (hd : e ∉ d) (h : l = d ++ e :: r) : l.take k = d := by
  have h1 := index_at d r e hd
  have h2 : l = l.take k ++ e :: l.drop (k + 1) := by
    conv => lhs; rw [← List.take_append_drop k l, List.drop_eq_getElem_cons hk, he]
  have h3 := index_at (l.take k) (l.drop (k + 1)) e hno
  rw [← h2] at h3
  rw [← h] at h1
  have h4 : (l.take k).length = d.length := by rw [h1] at h3; omega
  have h5 : k = d.length := by rw [List.length_take] at h4; omega
  rw [h, h5]; simp
theorem no_form {l : List UInt8} {e : UInt8} (he : 57 < e.toNat) (h : e ∉ l.take 21) : ∀ n, InInt n → ∀ tl, l ≠ Lib.itoa n ++ e :: tl := fun n hn tl hl => by
  have h20 := itoa_20 n hn.1 hn.2
  apply h
  rw [hl, List.take_append, List.mem_append]
  right
  rw [show 21 - (Lib.itoa n).length = (20 - (Lib.itoa n).length) + 1 by omega, List.take_succ_cons]
  simp
/-- What 'ahead' finds at its end. -/
theorem ahead_ok {e : UInt8} (he : 57 < e.toNat) {s : RS} {k : Nat} (hk : k < s.rest.length) (hek : s.rest[k] = e) (hno : e ∉ s.rest.take k) {v : Int} {ok : Bool} (hf : IsForm (s.rest.take k) v ok) :
    rNum e (-9223372036854775808) s = if ok then (v, ⟨s.rest.drop (k + 1), s.bad⟩) else (0, .fail) := by
  cases ok with
  | true =>
    obtain ⟨h1, h2⟩ := hf.1 rfl
    have h3 : s = ⟨Lib.itoa v ++ e :: s.rest.drop (k + 1), s.bad⟩ := by
      rw [h1]
      have : s.rest = s.rest.take k ++ e :: s.rest.drop (k + 1) := by
        conv => lhs; rw [← List.take_append_drop k s.rest, List.drop_eq_getElem_cons hk, hek]
      rw [← this]
    rw [if_pos rfl]
    conv => lhs; rw [h3]
    exact rNum_back he h2 h2.1 _ _
  | false =>
    rw [if_neg (by simp)]
    refine rNum_none fun n hn tl hr => ?_
    exact hf.2 rfl n hn (first_eq hk hek hno (not_mem_itoa he n) hr).symm
set_option maxRecDepth 100000 in
set_option maxHeartbeats 4000000 in
theorem qAhead_any (b : Nat) (s : RS) (e : UInt8) (w : World) (he : 57 < e.toNat) (h : RqAt b s w) (hl : s.rest.length ≤ 1000000000000) :
    Calls Tryz.prog 110 #[.pointer (some ⟨b, 0, none⟩), .int .u8 e.toNat] w fun x w' => x = .returned (.int .i64 (rNum e (-9223372036854775808) s).1) ∧ RqAt b (rNum e (-9223372036854775808) s).2 w' ∧ Turn (One b) w w' := by
  have H0 := Lib.hid h
  have c0 := h.c0
  have c1 := h.c1
  have f0 := h.free 0
  have f1 := h.free 1
  have hsz : (bs s.rest).size = s.rest.length := bs_size _
  have HNo := Lib.hid (fun (hno : e ∉ s.rest.take 21) => rNum_none (m := -9223372036854775808) (no_form he hno))
  have HE := Lib.hid he
  clear h
  go_enter Tryz.func110, Tryz.ntmps110
  go_wp2_with fail
  go_loopw [5] (fun i wr => ∃ k : Nat, k ≤ 21 ∧ k ≤ s.rest.length ∧ i = .int .i64 k ∧ e ∉ s.rest.take k ∧ wr = w) (fun i _ => 21 - (intOf i).toNat)
  case atStart => exact ⟨0, by omega, by omega, rfl, by simp, rfl⟩
  case round =>
    obtain ⟨k, hk21, hk, rfl, hno, rfl⟩ := hrel
    have HN := Lib.hid hno
    clear hno
    have failEnd : Hid (e ∉ s.rest.take 21 → rNum e (-9223372036854775808) s = (0, .fail)) := HNo
    by_cases hlt : k < s.rest.length
    · obtain ⟨c, hc⟩ : ∃ c, c = s.rest[k] := ⟨_, rfl⟩
      have hget : ∀ h, (bs s.rest)[k]'h = c := fun h => hc.symm
      have HC := Lib.hid hc
      clear hc
      by_cases h21 : k < 21
      · by_cases hce : c = e
        · have hne : ((c.toNat : Int) != e.toNat) = false := by simp [hce]
          have hne2 : ((c.toNat : Int) == e.toNat) = true := by simp [hce]
          have HAo := Lib.hid (fun v ok hf => ahead_ok HE.out hlt (HC.out.symm.trans hce) HN.out (v := v) (ok := ok) hf)
          have htk := bs_take s.rest k
          go_wp2_with fail
          refine (qBack_any (s.rest.take k) wr (by simp; omega)).mono ?_
          rintro x w3 ⟨v, ok, rfl, hf, hb3⟩
          have HD := Lib.hid (HAo.out v ok hf)
          have H3 := Lib.hid (H0.out.now hb3)
          have T3 := Lib.hid (Turn.below (F := One b) hb3)
          have c0 := H3.out.c0
          have c1 := H3.out.c1
          have f0 := H3.out.free 0
          have f1 := H3.out.free 1
          clear hf hb3 HAo
          cases ok with
          | true =>
            have hD := HD.out
            rw [if_pos rfl] at hD
            have HD := Lib.hid hD
            have hk1 : (k : Int) + 1 ≤ s.rest.length := by omega
            have hdr := bs_drop s.rest (k + 1)
            clear hD
            go_wp2_with fail
            go_ret
            exact ⟨by rw [HD.out]; rfl, by rw [HD.out]; exact H3.out.set0 _, T3.out.set b 0 _ (.inl rfl)⟩
          | false =>
            have hD := HD.out
            rw [if_neg (by simp)] at hD
            have HD := Lib.hid hD
            clear hD
            go_wp2_with fail
            refine (qFail_any b s w3 H3.out).mono ?_
            rintro x w5 ⟨rfl, hr5, ht5⟩
            go_wp2_with fail
            go_ret
            exact ⟨by rw [HD.out]; rfl, by rw [HD.out]; exact hr5, (T3.out).trans ht5 (fun i hi => .inl hi)⟩
        · have hne : ((c.toNat : Int) != e.toNat) = true := by simp; intro h; exact hce (UInt8.toNat_inj.1 (by omega))
          have hne2 : ((c.toNat : Int) == e.toNat) = false := by simp; intro h; exact hce (UInt8.toNat_inj.1 (by omega))
          have HN2 : Hid (e ∉ s.rest.take (k + 1)) := Lib.hid (by
            rw [List.take_succ_eq_append_getElem hlt, List.mem_append, List.mem_singleton]
            rintro (h | h)
            · exact HN.out h
            · exact hce (HC.out.trans h.symm))
          go_wp2_with fail
          go_roundw
          case rel => exact ⟨k + 1, by omega, by omega, by go_num, HN2.out, by first | rfl | trivial⟩
          case measure => simp [intOf]; omega
      · obtain rfl : k = 21 := by omega
        have HD := Lib.hid (failEnd.out HN.out)
        by_cases hce : c = e
        · have hne : ((c.toNat : Int) != e.toNat) = false := by simp [hce]
          have hne2 : ((c.toNat : Int) == e.toNat) = true := by simp [hce]
          have htk := bs_take s.rest 21
          go_wp2_with fail
          refine (qBack_any (s.rest.take 21) wr (by simp; omega)).mono ?_
          rintro x w3 ⟨v, ok, rfl, hf, hb3⟩
          have hok : ok = false := by
            cases ok with
            | false => rfl
            | true =>
              obtain ⟨h1, h2⟩ := hf.1 rfl
              have h3 := itoa_20 v h2.1 h2.2
              rw [h1] at h3
              simp at h3
              omega
          subst hok
          have H3 := Lib.hid (H0.out.now hb3)
          have T3 := Lib.hid (Turn.below (F := One b) hb3)
          clear hf hb3
          go_wp2_with fail
          refine (qFail_any b s w3 H3.out).mono ?_
          rintro x w5 ⟨rfl, hr5, ht5⟩
          go_wp2_with fail
          go_ret
          exact ⟨by rw [HD.out]; rfl, by rw [HD.out]; exact hr5, (T3.out).trans ht5 (fun i hi => .inl hi)⟩
        · have hne : ((c.toNat : Int) != e.toNat) = true := by simp; intro h; exact hce (UInt8.toNat_inj.1 (by omega))
          have hne2 : ((c.toNat : Int) == e.toNat) = false := by simp; intro h; exact hce (UInt8.toNat_inj.1 (by omega))
          go_wp2_with fail
          refine (qFail_any b s wr H0.out).mono ?_
          rintro x w5 ⟨rfl, hr5, ht5⟩
          go_wp2_with fail
          go_ret
          exact ⟨by rw [HD.out]; rfl, by rw [HD.out]; exact hr5, ((Turn.refl (One b) wr)).trans ht5 (fun i hi => .inl hi)⟩
    · have HD := Lib.hid (failEnd.out (fun hm => by
        have h1 := List.mem_of_mem_take hm
        have h2 := HN.out
        rw [List.take_of_length_le (by omega)] at h2
        exact h2 h1))
      have hle : (s.rest.length : Int) ≤ k := by omega
      go_wp2_with fail
      refine (qFail_any b s wr H0.out).mono ?_
      rintro x w5 ⟨rfl, hr5, ht5⟩
      go_wp2_with fail
      go_ret
      exact ⟨by rw [HD.out]; rfl, by rw [HD.out]; exact hr5, ((Turn.refl (One b) wr)).trans ht5 (fun i hi => .inl hi)⟩
end Go.Proofs.YtjmkodkechahdaaGreatDoor
/- Contracts of linguaref01's reader: its methods. -/
set_option linter.unusedSimpArgs false
set_option linter.unusedVariables false
namespace Go.Proofs.YtjmkodkechahdaaGreatDoor
open Go.RowKit

theorem qNumber_any (b : Nat) (s : RS) (e : UInt8) (w : World) (he : 57 < e.toNat) (h : RqAt b s w) (hl : s.rest.length ≤ 1000000000000) :
    Calls Tryz.prog 94 #[.pointer (some ⟨b, 0, none⟩), .int .u8 e.toNat] w fun x w' => x = .returned (.int .i64 (rNum e 0 s).1) ∧ RqAt b (rNum e 0 s).2 w' ∧ Turn (One b) w w' := by
  have HC := Lib.hid (qAhead_any b s e w he h hl)
  have HZ := Lib.hid (rNum_zero e s)
  clear h hl he
  go_enter Tryz.func94, Tryz.ntmps94
  go_wp2_with fail
  refine HC.out.mono ?_
  rintro x w2 ⟨rfl, h2, t2⟩
  have H2 := Lib.hid h2
  have T2 := Lib.hid t2
  clear h2 t2 HC
  generalize rNum e (-9223372036854775808) s = r at *
  obtain ⟨n, q⟩ := r
  simp only at HZ H2 ⊢
  by_cases hn : n < 0
  · have HD : Hid (rNum e 0 s = (0, .fail)) := Lib.hid (by rw [HZ.out, if_pos hn])
    go_wp2_with fail
    refine (qFail_any b q w2 H2.out).mono ?_
    rintro x w5 ⟨rfl, hr5, ht5⟩
    go_wp2_with fail
    go_ret
    exact ⟨by rw [HD.out]; rfl, by rw [HD.out]; exact hr5, T2.out.trans ht5 (fun i hi => .inl hi)⟩
  · have HD : Hid (rNum e 0 s = (n, q)) := Lib.hid (by rw [HZ.out, if_neg hn])
    go_wp2_with fail
    go_ret
    exact ⟨by rw [HD.out]; rfl, by rw [HD.out]; exact H2.out, T2.out⟩
set_option maxRecDepth 100000 in
theorem qClose_any (b : Nat) (s : RS) (c : UInt8) (w : World) (h : RqAt b s w) :
    Calls Tryz.prog 96 #[.pointer (some ⟨b, 0, none⟩), .int .u8 c.toNat] w fun x w' => x = .returned (.bool (Lib.hasPrefix s.rest [c])) ∧ RqAt b (rClose c s) w' ∧ Turn (One b) w w' := by
  have c0 := h.c0
  have c1 := h.c1
  have f0 := h.free 0
  have hsz : (bs s.rest).size = s.rest.length := bs_size _
  obtain ⟨rest, bad⟩ := s
  simp only at c0 c1 hsz ⊢
  have H0 := Lib.hid h
  clear h
  go_enter Tryz.func96, Tryz.ntmps96
  cases rest with
  | nil =>
    have HD : Hid (rClose c ⟨[], bad⟩ = .fail) := Lib.hid rfl
    go_wp2_with fail
    refine (qFail_any b _ w H0.out).mono ?_
    rintro x w5 ⟨rfl, hr5, ht5⟩
    go_wp2_with fail
    go_ret
    exact ⟨rfl, by rw [HD.out]; exact hr5, ht5⟩
  | cons d r =>
    have hget : ∀ h, (bs (d :: r))[0]'h = d := fun h => rfl
    have hp : (0 : Int) < (d :: r).length := by simp
    have hp2 : ¬ ((d :: r).length : Int) = 0 := by simp; omega
    by_cases hc : d = c
    · subst hc
      have HD : Hid (rClose d ⟨d :: r, bad⟩ = ⟨r, bad⟩) := Lib.hid (rClose_back d r bad)
      have hne : ((d.toNat : Int) != d.toNat) = false := by simp
      have hdr : (bs (d :: r)).extract 1 (r.length + 1) = bs r := bs_drop (d :: r) 1
      have HP : Hid (Lib.hasPrefix (d :: r) [d] = true) := Lib.hid (by simp [Lib.hasPrefix])
      go_wp2_with fail
      go_ret
      exact ⟨by rw [HP.out]; rfl, by rw [HD.out]; exact H0.out.set0 r, (Turn.refl (One b) w).set b 0 _ (.inl rfl)⟩
    · have hP : Lib.hasPrefix (d :: r) [c] = false := by
        have : (c == d) = false := by simp only [beq_eq_false_iff_ne]; exact fun h => hc h.symm
        simp only [Lib.hasPrefix, List.isPrefixOf, this, Bool.false_and]
      have HD : Hid (rClose c ⟨d :: r, bad⟩ = .fail) := Lib.hid (by unfold rClose; rw [hP]; rfl)
      have HP := Lib.hid hP
      clear hP
      have hne : ((d.toNat : Int) != c.toNat) = true := by simp; intro h; exact hc (UInt8.toNat_inj.1 (by omega))
      have hne2 : ((d.toNat : Int) == c.toNat) = false := by simp; intro h; exact hc (UInt8.toNat_inj.1 (by omega))
      go_wp2_with fail
      refine (qFail_any b _ w H0.out).mono ?_
      rintro x w5 ⟨rfl, hr5, ht5⟩
      go_wp2_with fail
      go_ret
      exact ⟨by rw [HP.out]; rfl, by rw [HD.out]; exact hr5, ht5⟩
theorem good_num {e : UInt8} {m : Int} {s : RS} (hg : Good s) : Good (rNum e m s).2 := fun h => by
  rcases rNum_cases e m s with h1 | ⟨n, _, _, hr, h1⟩
  · rw [h1]; rfl
  · rw [h1] at h
    rw [hg h] at hr
    simp at hr
theorem num_bad {e : UInt8} {m : Int} {s : RS} (hg : Good s) (h : (rNum e m s).2.bad = true) : rNum e m s = (0, .fail) := by
  rcases rNum_cases e m s with h1 | ⟨n, _, _, hr, h1⟩
  · exact h1
  · rw [h1] at h
    rw [hg h] at hr
    simp at hr
theorem close_nil (c : UInt8) (bad : Bool) : rClose c ⟨[], bad⟩ = .fail := rfl
set_option maxRecDepth 100000 in
set_option maxHeartbeats 1000000 in
theorem qText_any (b : Nat) (s : RS) (w : World) (hg : Good s) (h : RqAt b s w) (hl : s.rest.length ≤ 1000000000000) :
    Calls Tryz.prog 95 #[.pointer (some ⟨b, 0, none⟩)] w fun x w' => x = .returned (.string (bs (rText s).1)) ∧ RqAt b (rText s).2 w' ∧ Turn (One b) w w' := by
  have HC := Lib.hid (qNumber_any b s 58 w (by decide) h hl)
  have HDf : Hid (rText s = _) := Lib.hid (show rText s = (if ((rNum 58 0 s).2.rest.length : Int) < (rNum 58 0 s).1 then ([], .fail) else
    let s3 := rClose 44 ⟨(rNum 58 0 s).2.rest.drop (rNum 58 0 s).1.toNat, (rNum 58 0 s).2.bad⟩
    if s3.bad then ([], s3) else ((rNum 58 0 s).2.rest.take (rNum 58 0 s).1.toNat, s3)) from rfl)
  have HBad := Lib.hid (fun hb => num_bad (e := 58) (m := 0) hg hb)
  have HG := Lib.hid (rNum_ge 58 s)
  clear h hl
  go_enter Tryz.func95, Tryz.ntmps95
  go_wp2_with fail
  refine HC.out.mono ?_
  rintro x w2 ⟨rfl, h2, t2⟩
  have H2 := Lib.hid h2
  have T2 := Lib.hid t2
  clear h2 t2 HC
  generalize rNum 58 0 s = r at *
  obtain ⟨n, q⟩ := r
  simp only at HDf HBad HG H2 ⊢
  have c0 := H2.out.c0
  have c1 := H2.out.c1
  have f0 := H2.out.free 0
  have hsl : (bs q.rest).size = q.rest.length := bs_size _
  have hG := HG.out
  cases hqb : q.bad with
  | true =>
    have hq := HBad.out hqb
    have HD : Hid (rText s = ([], .fail)) := Lib.hid (by
      have e := HDf.out
      have h1 : n = 0 := congrArg Prod.fst hq
      have h2 : q = .fail := congrArg Prod.snd hq
      subst h1; subst h2
      rw [e]; rfl)
    rw [hqb] at c1
    clear hq hqb
    go_wp2_with fail
    refine (qFail_any b q w2 H2.out).mono ?_
    rintro x w5 ⟨rfl, hr5, ht5⟩
    go_wp2_with fail
    go_ret
    exact ⟨by rw [HD.out]; rfl, by rw [HD.out]; exact hr5, T2.out.trans ht5 (fun i hi => .inl hi)⟩
  | false =>
    rw [hqb] at c1
    by_cases hlen : (q.rest.length : Int) ≤ n
    · have HD : Hid (rText s = ([], .fail)) := Lib.hid (by
        rw [HDf.out]
        by_cases h1 : (q.rest.length : Int) < n
        · rw [if_pos h1]
        · rw [if_neg h1]
          have : q.rest.drop n.toNat = [] := List.drop_eq_nil_of_le (by omega)
          simp only [this, close_nil]
          rfl)
      clear hqb
      go_wp2_with fail
      refine (qFail_any b q w2 H2.out).mono ?_
      rintro x w5 ⟨rfl, hr5, ht5⟩
      go_wp2_with fail
      go_ret
      exact ⟨by rw [HD.out]; rfl, by rw [HD.out]; exact hr5, T2.out.trans ht5 (fun i hi => .inl hi)⟩
    · have hD := HDf.out
      rw [if_neg (by omega), hqb] at hD
      have HD := Lib.hid hD
      have H3 := Lib.hid (H2.out.set0 (q.rest.drop n.toNat))
      have T3 := Lib.hid (T2.out.set b 0 (.string (bs (q.rest.drop n.toNat))) (.inl rfl))
      have h3 := H3.out
      rw [hqb] at h3
      have H3 := Lib.hid h3
      clear hD hqb h3
      have ht := bs_take q.rest n.toNat
      have hd := bs_drop q.rest n.toNat
      have hlt : ¬ (q.rest.length : Int) ≤ n := hlen
      go_wp2_with fail
      refine (qClose_any b ⟨q.rest.drop n.toNat, false⟩ 44 _ H3.out).mono ?_
      rintro x w4 ⟨rfl, h4, t4⟩
      have H4 := Lib.hid h4
      have T4 := Lib.hid (T3.out.trans t4 (fun i hi => .inl hi))
      have HPr := Lib.hid (show rClose 44 ⟨q.rest.drop n.toNat, false⟩ = if Lib.hasPrefix (q.rest.drop n.toNat) [44] then ⟨(q.rest.drop n.toNat).tail, false⟩ else .fail from rfl)
      clear h4 t4 H3 T3
      simp only
      cases hp : Lib.hasPrefix (q.rest.drop n.toNat) [44] with
      | true =>
        have e := HPr.out
        rw [hp, if_pos rfl] at e
        have hD := HD.out
        simp only [e] at hD
        have HD := Lib.hid hD
        have h4 := H4.out
        rw [e] at h4
        have H4 := Lib.hid h4
        clear e hD hp h4
        go_wp2_with fail
        go_ret
        exact ⟨by rw [HD.out]; rfl, by rw [HD.out]; exact H4.out, T4.out⟩
      | false =>
        have e := HPr.out
        rw [hp, if_neg (by simp)] at e
        have hD := HD.out
        simp only [e] at hD
        have HD := Lib.hid hD
        have h4 := H4.out
        rw [e] at h4
        have H4 := Lib.hid h4
        clear e hD hp h4
        go_wp2_with fail
        go_ret
        exact ⟨by rw [HD.out]; rfl, by rw [HD.out]; exact H4.out, T4.out⟩
theorem qDone_any (b : Nat) (s : RS) (w : World) (h : RqAt b s w) :
    Calls Tryz.prog 76 #[.pointer (some ⟨b, 0, none⟩)] w fun x w' => x = .returned (.bool (rDone s)) ∧ w = w' := by
  have c0 := h.c0
  have c1 := h.c1
  have hq : (bs s.rest).toList.isEmpty = s.rest.isEmpty := by rw [bs_toList]
  have HD := Lib.hid (show rDone s = (!s.bad && s.rest.isEmpty) from rfl)
  go_enter Tryz.func76, Tryz.ntmps76
  generalize s.bad = bad at *
  cases bad
  · go_wp2_with fail
    go_ret
    exact ⟨by rw [HD.out]; simp, rfl⟩
  · go_wp2_with fail
    go_ret
    exact ⟨by rw [HD.out]; rfl, rfl⟩
theorem qOpen_any (l : List UInt8) (w : World) :
    Calls Tryz.prog 74 #[.string (bs l)] w fun x w' => x = .returned (.pointer (some ⟨w.heap.size, 0, none⟩)) ∧ RqAt w.heap.size ⟨l, false⟩ w' ∧ Below w.heap.size w w' := by
  go_enter Tryz.func74, Tryz.ntmps74
  go_wp2_with fail
  go_ret
  exact ⟨rfl, (MapKept.heap_alloc w _).1, (Below.refl _ _).alloc (Nat.le_refl _) _⟩
end Go.Proofs.YtjmkodkechahdaaGreatDoor
/- Contracts of linguaref01's reader: lists. -/
set_option linter.unusedSimpArgs false
set_option linter.unusedVariables false
namespace Go.Proofs.YtjmkodkechahdaaGreatDoor
open Go.RowKit

theorem good_text {s : RS} (hg : Good s) : Good (rText s).2 := fun h => by
  have hn : Good (rNum 58 0 s).2 := good_num hg
  have hc : ∀ q : RS, Good q → Good (rClose 44 q) := fun q hq h => by
    unfold rClose at h ⊢
    split
    · rename_i hp
      rw [if_pos hp] at h
      show q.rest.tail = []
      rw [hq h]; rfl
    · rfl
  have h3 : Good (rClose 44 ⟨(rNum 58 0 s).2.rest.drop (rNum 58 0 s).1.toNat, (rNum 58 0 s).2.bad⟩) := hc _ (fun hb => by
    show (rNum 58 0 s).2.rest.drop _ = []
    rw [hn hb]; simp)
  unfold rText at h ⊢
  simp only at h ⊢
  split
  · rfl
  · rename_i h1
    rw [if_neg h1] at h
    split
    · rename_i hb; exact h3 hb
    · rename_i hb; rw [if_neg hb] at h; exact absurd h hb
/-- The rest of 'items', behind the rounds. -/
theorem items_end {T : Type} {one : RS → T × RS} {s q : RS} {m : Int} {out : List T} {s' : RS} (hr : rNum 91 0 s = (m, q)) (hl : itLoop one m.toNat q [] = (out, s')) :
    rItems one s = if (rClose 93 s').bad then ([], rClose 93 s') else (out, rClose 93 s') := by
  unfold rItems
  simp only [hr, hl]
set_option maxRecDepth 100000 in
set_option maxHeartbeats 2000000 in
theorem qTexts_any (b : Nat) (s : RS) (w : World) (hg : Good s) (h : RqAt b s w) (hl : s.rest.length ≤ 1000000000000) :
    Calls Tryz.prog 75 #[.pointer (some ⟨b, 0, none⟩)] w fun x w' => ∃ A c, x = .returned (.slice A (rItems rText s).1.length c) ∧ OwnL w' w.heap.size 9 1 strE A c (rItems rText s).1 ∧ RqAt b (rItems rText s).2 w' ∧ Turn (One b) w w' := by
  have HC := Lib.hid (qNumber_any b s 91 w (by decide) h hl)
  have HGd := Lib.hid (good_num (e := 91) (m := 0) hg)
  have HG0 := Lib.hid (rNum_ge 91 s)
  have HR := Lib.hid (rNum_rest 91 0 s)
  have HN := Lib.hid (rNum_in 91 0 s)
  have HL := Lib.hid hl
  have hblt := h.lt
  clear h hl
  go_enter Tryz.func75, Tryz.ntmps75
  go_wp2_with fail
  refine HC.out.mono ?_
  rintro x w2 ⟨rfl, h2, t2⟩
  have T2 := Lib.hid t2
  have H2 := Lib.hid h2
  clear HC t2 h2
  have hG0 := HG0.out
  have hN := HN.out
  obtain ⟨r, hr⟩ : ∃ r, r = rNum 91 0 s := ⟨_, rfl⟩
  rw [← hr] at HGd HR H2 hG0 hN ⊢
  have HRn := Lib.hid hr.symm
  clear hr HG0 HN
  obtain ⟨n, q⟩ := r
  simp only at HGd HR H2 hG0 hN ⊢
  obtain ⟨m, rfl⟩ : ∃ m : Nat, n = m := ⟨n.toNat, by omega⟩
  have HL0 := Lib.hid (Nat.le_trans HR.out HL.out)
  have hm2 := hN.2
  go_wp2_with fail
  go_loopw [4, 5] (fun o i wr => ∃ (j : Nat) (s' : RS) (out : List ((List UInt8))) (A : Option Addr) (c : Nat), i = .int .i64 j ∧ j ≤ m ∧ o = .slice A out.length c ∧ OwnL wr w.heap.size 9 1 strE A c out ∧ RqAt b s' wr ∧ Good s' ∧ Turn (One b) w wr ∧ itLoop rText m q [] = itLoop rText (m - j) s' out ∧ out.length + s'.rest.length ≤ q.rest.length + one1 s'.bad) (fun _ i _ => m - (intOf i).toNat)
  case atStart => exact ⟨0, q, [], none, 0, rfl, Nat.zero_le _, rfl, OwnL.nil_, H2.out, HGd.out, T2.out, rfl, by simp⟩
  case round =>
    obtain ⟨j, s', out, A, c, rfl, hjm, rfl, hown, hrd, hgd, htu, heq, hlen⟩ := hrel
    have HO := Lib.hid hown
    have H3 := Lib.hid hrd
    have HG := Lib.hid hgd
    have T3 := Lib.hid htu
    have HEq := Lib.hid heq
    have HLn := Lib.hid hlen
    have c1 := hrd.c1
    clear hown hrd hgd htu heq hlen H2 T2
    by_cases hj : j < m
    · cases hbad : s'.bad with
      | false =>
        have HB := Lib.hid hbad
        rw [hbad] at c1
        clear hbad
        have hL1 : s'.rest.length ≤ 1000000000000 := by have := HLn.out; have := HL0.out; rw [HB.out] at *; simp [one1] at *; omega
        have HL1 := Lib.hid hL1
        clear hL1
        go_wp2_with fail
        refine (qText_any b s' wr HG.out H3.out HL1.out).mono ?_
        rintro x w4 ⟨rfl, hr4, ht4⟩
        have H4 := Lib.hid hr4
        have T4 := Lib.hid (T3.out.trans ht4 (fun i hi => .inl hi))
        have HO4 := Lib.hid (HO.out.turn (w' := w4) (fun i hi hlt => ht4.block i hlt (fun e => by have := (HO.out.blk_lt hi).1; unfold One at e; omega)))
        have hea := (rText_eats) s' HB.out
        have HG4 : Hid (Good (rText s').2) := Lib.hid (good_text HG.out)
        have HE4 : Hid (itLoop rText m q [] = itLoop rText (m - (j + 1)) (rText s').2 (out ++ [(rText s').1])) := Lib.hid (by
          rw [HEq.out, show m - j = (m - (j + 1)) + 1 by omega]
          exact itLoop_go rText _ s' out HB.out)
        have hln := HLn.out
        rw [HB.out] at hln
        have HL4 : Hid ((out ++ [(rText s').1]).length + (rText s').2.rest.length ≤ q.rest.length + one1 (rText s').2.bad) := Lib.hid (by
          rcases hea with h | ⟨h, hb⟩
          · have e0 : one1 false = 0 := rfl
            rw [e0] at hln
            simp only [List.length_append, List.length_cons, List.length_nil]
            omega
          · have e0 : one1 false = 0 := rfl
            have e1 : one1 true = 1 := rfl
            rw [e0] at hln
            rw [hb, e1]
            simp only [List.length_append, List.length_cons, List.length_nil]
            omega)
        have HB5 : Hid (out.length + 1 ≤ 1000000000002) := Lib.hid (by have := HL0.out; simp [one1] at hln; omega)
        clear hr4 ht4 HO H3 T3 HEq HLn hea hln c1
        generalize rText s' = y at *
        obtain ⟨yv, ys⟩ := y
        simp only at H4 HE4 HL4 HG4 ⊢
        go_wp2_with (at_builtin; refine wp_append_l rfl (.tmp 20) (.tmp 23) rfl (by first | exact slInt | exact slStr) (by first | exact intLay | exact strLay) w.heap.size (xs := out) (ys := [yv]) rfl rfl (HO4.out.alloc _) rfl rfl (RdL.one w4 yv _ _ rfl _ rfl) (by have := HB5.out; simp; omega) (by have := T4.out.size; simp; omega) ?_; intro A2 c2 w6 hown hg hb2 hat; have HO2 := Lib.hid hown; have HB2 := Lib.hid (((Below.refl w.heap.size w4).alloc T4.out.size _).trans hb2); clear hown hg hb2 hat)
        go_roundw
        case rel => exact ⟨j + 1, ys, out ++ [yv], A2, c2, by go_num, by omega, by simp, HO2.out, (HB2.out.block b hblt).trans H4.out, HG4.out, T4.out.more HB2.out, HE4.out, HL4.out⟩
        case measure => simp [intOf]; omega
      | true =>
        have HE : Hid (itLoop rText (m : Int).toNat q [] = (out, s')) := Lib.hid (by rw [Int.toNat_natCast, HEq.out]; exact itLoop_bad _ _ _ _ hbad)
        have hs : s' = .fail := by
          have h1 := HG.out hbad
          obtain ⟨r', b'⟩ := s'
          simp only at h1 hbad
          subst h1; subst hbad; rfl
        have HD : Hid (rItems rText s = ([], .fail)) := Lib.hid (by rw [items_end HRn.out HE.out, hs]; rfl)
        have h3 := H3.out
        rw [hs] at h3
        have H3 := Lib.hid h3
        rw [hbad] at c1
        clear h3 hs hbad
        go_wp2_with fail
        go_ret
        exact ⟨none, 0, by rw [HD.out]; rfl, by rw [HD.out]; exact OwnL.nil_, by rw [HD.out]; exact H3.out, T3.out⟩
    · have HE : Hid (itLoop rText (m : Int).toNat q [] = (out, s')) := Lib.hid (by rw [Int.toNat_natCast, HEq.out, show m - j = 0 by omega]; rfl)
      have hE := items_end HRn.out (HE.out)
      have HE9 := Lib.hid hE
      clear hE
      cases hbd : s'.bad with
      | true =>
        have hs : s' = .fail := by
          have h1 := HG.out hbd
          obtain ⟨r', b'⟩ := s'
          simp only at h1 hbd
          subst h1; subst hbd; rfl
        have HD : Hid (rItems rText s = ([], .fail)) := Lib.hid (by rw [HE9.out, hs]; rfl)
        have h3 := H3.out
        rw [hs] at h3
        have H3 := Lib.hid h3
        rw [hbd] at c1
        clear h3 hs hbd
        go_wp2_with fail
        go_ret
        refine ⟨none, 0, by rw [HD.out]; rfl, by rw [HD.out]; exact OwnL.nil_, by rw [HD.out]; exact H3.out, T3.out⟩
      | false =>
        have HBf := Lib.hid hbd
        rw [hbd] at c1
        clear hbd
        go_wp2_with fail
        refine (qClose_any b s' 93 _ H3.out).mono ?_
        rintro x w4 ⟨rfl, hr4, ht4⟩
        have H4 := Lib.hid hr4
        have T4 := Lib.hid (T3.out.trans ht4 (fun i hi => .inl hi))
        have HO4 := Lib.hid (HO.out.turn (w' := w4) (fun i hi hlt => ht4.block i hlt (fun e => by have := (HO.out.blk_lt hi).1; unfold One at e; omega)))
        clear hr4 ht4
        cases hp : Lib.hasPrefix s'.rest [93] with
        | true =>
          have HD : Hid (rItems rText s = (out, rClose 93 s')) := Lib.hid (by
            rw [HE9.out, if_neg]
            unfold rClose
            rw [hp, if_pos rfl]
            simp only
            rw [HBf.out]; simp)
          clear hp
          go_wp2_with fail
          go_ret
          exact ⟨A, c, by rw [HD.out]; rfl, by rw [HD.out]; exact HO4.out, by rw [HD.out]; exact H4.out, T4.out⟩
        | false =>
          have HD : Hid (rItems rText s = ([], rClose 93 s')) := Lib.hid (by
            rw [HE9.out, if_pos]
            unfold rClose
            rw [hp]; rfl)
          clear hp
          go_wp2_with fail
          go_ret
          exact ⟨none, 0, by rw [HD.out]; rfl, by rw [HD.out]; exact OwnL.nil_, by rw [HD.out]; exact H4.out, T4.out⟩
end Go.Proofs.YtjmkodkechahdaaGreatDoor
