/- Profiles, and what makes them right (layers 12 and 13), by the reference. -/
import Derived.Test.YtbpbdehnkkheiaaWyB
import Derived.Deep.DeepCutAuto
namespace Go.Proofs.Ytbpbdehnkkheiaa
open Go.RowKit

structure Prof where
  name : ByteArray
  edit : Int
  within_ : Int
  delete : Int
  react : Bool
  thread : Int
  quote : Bool
  mention : Bool
  size : Int
  parts : Int
  files : Int
  bytes : Int
  types : List ByteArray
  join : Int
  history : Int
  remove : Int
  level : Int
  batch : Bool
  rate : Int
  down : Int
  window : Int
  keep : Int

abbrev Prof.cs (p : Prof) (A : Option Addr) (c : Nat) : Array Value := #[.string p.name, .int .i64 p.edit, .int .i64 p.within_, .int .i64 p.delete, .bool p.react, .int .i64 p.thread, .bool p.quote, .bool p.mention, .int .i64 p.size, .int .i64 p.parts, .int .i64 p.files, .int .i64 p.bytes,
  .slice A p.types.length c, .int .i64 p.join, .int .i64 p.history, .int .i64 p.remove, .int .i64 p.level, .bool p.batch, .int .i64 p.rate, .int .i64 p.down, .int .i64 p.window, .int .i64 p.keep]
abbrev Prof.v (p : Prof) (A : Option Addr) (c : Nat) : Value := .agg (p.cs A c)
def strCells (s : ByteArray) : List Value := [.string s]
abbrev RdS := RdL 1 strCells

theorem RdS_at {w : World} {B : Nat} {A : Option Addr} {xs : List ByteArray} {k : Nat} (h : RdS w B A xs) (hk : k < xs.length) : ∃ b off s, A = some ⟨b, off, none⟩ ∧ b < B ∧ xs[k]? = some s ∧ w.cell? ⟨b, off + k, none⟩ = some (.string s) := by
  obtain ⟨b, off, e, hb, hc⟩ := h.at_ hk
  have h0 := hc 0 _ rfl
  simp only [Nat.mul_one, Nat.add_zero] at h0
  exact ⟨b, off, _, e, hb, List.getElem?_eq_getElem hk, h0⟩
/-- A box made by a call, behind whatever the call does. -/
theorem boxAll (w : World) (cs : Array Value) (t : TypeId) {w' : World} (hb : Below (w.heap.size + 1) (w.alloc (.cells cs t)) w') (j : Nat) : w'.cell? ⟨w.heap.size, j, none⟩ = cs[j]? := by
  refine (hb.cell (p := ⟨w.heap.size, j, none⟩) (Nat.lt_succ_self _)).trans ?_
  unfold World.cell?
  rw [heap_alloc_new]
  rfl

def inR (n a b : Int) : Bool := decide (a ≤ n) && decide (n ≤ b)
set_option maxHeartbeats 400000 in
theorem pWithin_any (n a b : Int) (w : World) : Calls Try.prog 35 #[.int .i64 n, .int .i64 a, .int .i64 b] w fun e w' => e = .returned (.bool (inR n a b)) ∧ w = w' := by
  unfold inR
  go_enter Try.func35, Try.ntmps35
  go_wp2
  all_goals go_ret
  all_goals exact ⟨by first | (simp_all; done) | (simp; omega) | (simp_all; omega), rfl⟩

def kindsB (p : Prof) : Bool := (p.edit == 0 || p.edit == 2) && (inR p.delete 0 2 && (inR p.thread 0 2 && (inR p.join 0 2 && (inR p.history 0 1 && (inR p.remove 0 1 && inR p.level 0 4)))))
def stepB (n : Int) : Bool := inR n 0 1073741824
def numbersB (p : Prof) : Bool := stepB p.within_ && (stepB p.size && (stepB p.parts && (stepB p.files && (stepB p.bytes && (stepB p.rate && (stepB p.down && (stepB p.window && stepB p.keep)))))))
theorem len0 {T : Type} (xs : List T) : ((xs.length : Int) == 0) = decide (xs = []) := by cases xs <;> simp; omega
theorem all_miss {T : Type} (f : T → Bool) (xs : List T) (k : Nat) {s : T} (h : xs[k]? = some s) (hf : f s = false) : xs.all f = false := by
  rw [List.all_eq_false]
  exact ⟨s, List.mem_of_getElem? h, by simp [hf]⟩
theorem all_hit {T : Type} (f : T → Bool) (xs : List T) (k : Nat) {s : T} (h : xs[k]? = some s) (hf : f s = true) (hn : (xs.take k).all f = true) : (xs.take (k + 1)).all f = true := by
  obtain ⟨hk, rfl⟩ := List.getElem?_eq_some_iff.1 h
  rw [List.take_succ_eq_append_getElem hk, List.all_append, hn]
  simp [hf]
def typesB (p : Prof) : Bool := if p.files = 0 then p.bytes == 0 && decide (p.types.length = 0) else decide (1 ≤ p.types.length) && (decide (p.types.length ≤ 20) && p.types.all wordB)
def headB (p : Prof) : Bool := kindsB p && (numbersB p && (wordB p.name && !(p.edit == 0 && p.within_ != 0)))
def profRight (p : Prof) : Bool := headB p && typesB p

/-- What is read of a profile: its types, and how long its strings may be. -/
structure ProfOk (w : World) (B : Nat) (A : Option Addr) (p : Prof) : Prop where
  rd : RdS w B A p.types
  nm : p.name.size ≤ 9223372036854775807
  len : p.types.length ≤ 9223372036854775807
  ts : ∀ s ∈ p.types, s.size ≤ 9223372036854775807
theorem ProfOk.now {w w' : World} {A : Option Addr} {p : Prof} (h : ProfOk w w.heap.size A p) (hb : Below w.heap.size w w') : ProfOk w' w'.heap.size A p := ⟨h.rd.now hb, h.nm, h.len, h.ts⟩

end Go.Proofs.Ytbpbdehnkkheiaa
