/- What a call that changes memory leaves as it was, and single blocks of cells, over any program. -/
import Derived.Test.YtnaejabgkfhlbaaDoorMem
set_option linter.unusedSimpArgs false
set_option linter.unusedVariables false
namespace Go.Proofs.YtnaejabgkfhlbaaDoor
open Go.RowKit

/-- The machine outside stands; of what was there nothing turned but the blocks of F. -/
structure Turn (F : Nat → Prop) (w w' : World) : Prop where
  os : w'.os = w.os
  tape : w'.tape = w.tape
  output : w'.output = w.output
  size : w.heap.size ≤ w'.heap.size
  block : ∀ k, k < w.heap.size → ¬ F k → w'.heap[k]? = w.heap[k]?

section
variable {F G : Nat → Prop} {a b c w w' : World}
theorem Turn.refl (F : Nat → Prop) (w : World) : Turn F w w := ⟨rfl, rfl, rfl, Nat.le_refl _, fun _ _ _ => rfl⟩
theorem Turn.trans (h : Turn F a b) (k : Turn G b c) (hG : ∀ i, G i → F i ∨ a.heap.size ≤ i) : Turn F a c :=
  ⟨k.os.trans h.os, k.tape.trans h.tape, k.output.trans h.output, Nat.le_trans h.size k.size, fun i hi hn => (k.block i (Nat.lt_of_lt_of_le hi h.size) (fun hg => by
    rcases hG i hg with h1 | h1
    · exact hn h1
    · omega)).trans (h.block i hi hn)⟩
theorem Turn.grown {row : Option Nat} (h : w.grownBy w' row) (hr : ∀ k, row = some k → F k) : Turn F w w' :=
  ⟨h.os, h.tape, h.output, h.size, fun k hk hn => h.block k hk (fun e => hn (hr k e.symm))⟩
theorem Turn.below (h : Below w.heap.size w w') : Turn F w w' := ⟨h.os, h.tape, h.output, h.size, fun k hk _ => h.block k hk⟩
theorem Turn.to_below {B : Nat} (h : Turn F w w') (hB : B ≤ w.heap.size) (hF : ∀ i, F i → B ≤ i) : Below B w w' :=
  ⟨h.os, h.tape, h.output, h.size, fun k hk => h.block k (by omega) (fun hf => by have := hF k hf; omega)⟩
theorem Turn.mono (h : Turn F w w') (hF : ∀ i, F i → G i ∨ w.heap.size ≤ i) : Turn G w w' :=
  ⟨h.os, h.tape, h.output, h.size, fun k hk hn => h.block k hk (fun hf => by
    rcases hF k hf with h1 | h1
    · exact hn h1
    · omega)⟩
theorem Turn.drew (h : Turn F w w') : Turn F w w'.drew := ⟨h.os, h.tape, h.output, h.size, h.block⟩
theorem Turn.drewN (h : Turn F w w') (n : Nat) : Turn F w (w'.drewN n) := ⟨h.os, h.tape, h.output, h.size, h.block⟩
theorem Turn.alloc (h : Turn F w w') (o : Obj) : Turn F w (w'.alloc o) :=
  h.trans (Turn.below (F := fun _ => False) ((Below.refl _ _).alloc (Nat.le_refl _) _)) (fun _ hf => hf.elim)
theorem Turn.set (h : Turn F w w') (p j : Nat) (v : Value) (hp : F p ∨ w.heap.size ≤ p) : Turn F w (w'.setCell ⟨p, j, none⟩ v) :=
  h.trans (G := fun i => i = p) ⟨rfl, rfl, rfl, by simp [World.setCell], fun k _ hk => heap_setCell_other w' ⟨p, j, none⟩ k v hk⟩ (fun i hi => by subst hi; exact hp)
theorem grown_set (w : World) (p j : Nat) (v : Value) : w.grownBy (w.setCell ⟨p, j, none⟩ v) (some p) :=
  ⟨rfl, rfl, rfl, by simp [World.setCell], fun k _ hk => heap_setCell_other w ⟨p, j, none⟩ k v (fun e => hk (by rw [e]))⟩

/-- A block of cells, nothing of it frozen. -/
theorem box_cell {b : Nat} {cs : Array Value} {t : TypeId} (h : w.heap[b]? = some (.cells cs t (0, 0))) (j : Nat) (v : Value) (hj : cs[j]? = some v) : w.cell? ⟨b, j, none⟩ = some v := by
  unfold World.cell?
  simp [h, hj]
theorem box_free {b : Nat} {cs : Array Value} {t : TypeId} (h : w.heap[b]? = some (.cells cs t (0, 0))) (j : Nat) : w.frozen? ⟨b, j, none⟩ = false := by
  unfold World.frozen?
  simp [h]
theorem box_lt {b : Nat} {o : Obj} (h : w.heap[b]? = some o) : b < w.heap.size := (Array.getElem?_eq_some_iff.1 h).1

/-- The block that an address names. -/
def slBlk (A : Option Addr) : Option Nat := A.map (·.block)
theorem own_blk (A : Option Addr) (n c : Nat) : (Value.slice A n c).ownBlock = slBlk A := by
  rcases A with _ | a <;> rfl
theorem RdL.turn {T : Type} {sz : Nat} {enc : T → List Value} {A : Option Addr} {xs : List T} (h : RdL sz enc w w.heap.size A xs) (hb : ∀ i, slBlk A = some i → i < w.heap.size → w'.heap[i]? = w.heap[i]?) (hs : w.heap.size ≤ w'.heap.size) : RdL sz enc w' w'.heap.size A xs := by
  intro k x hx
  obtain ⟨b, off, e, hlt, hc⟩ := h k x hx
  refine ⟨b, off, e, by omega, fun j v hj => ?_⟩
  rw [← hc j v hj]
  exact World.cell?_of_block (hb b (by rw [e]; rfl) hlt)
theorem OwnL.turn {T : Type} {sz : Nat} {enc : T → List Value} {base : Nat} {e : TypeId} {A : Option Addr} {c : Nat} {xs : List T} (h : OwnL w base e sz enc A c xs) (hb : ∀ i, slBlk A = some i → i < w.heap.size → w'.heap[i]? = w.heap[i]?) : OwnL w' base e sz enc A c xs := by
  refine ⟨h.1, ?_⟩
  rcases h.2 with h1 | ⟨g, cap, cur, hv, hg, hh, rest⟩
  · exact .inl h1
  · refine .inr ⟨g, cap, cur, hv, hg, ?_, rest⟩
    have hA : A = some ⟨g, 0, none⟩ := by injection hv
    rw [hb g (by rw [hA]; rfl) (box_lt hh), hh]
theorem OwnL.blk_lt {T : Type} {sz : Nat} {enc : T → List Value} {base : Nat} {e : TypeId} {A : Option Addr} {c : Nat} {xs : List T} (h : OwnL w base e sz enc A c xs) {i : Nat} (hi : slBlk A = some i) : base ≤ i ∧ i < w.heap.size :=
  h.blk i (by rw [own_blk]; exact hi)
end
end Go.Proofs.YtnaejabgkfhlbaaDoor
