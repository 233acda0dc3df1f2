/- Boxes of leases of the call's own, known whole; leases in plain Lean. -/
import Derived.Test.YtoibgenhbpppdaaDoorLsF
import Derived.Test.YtoibgenhbpppdaaDoorLsOpen
namespace Go.Proofs.YtoibgenhbpppdaaDoor
open Go.RowKit

def lsObj (l : Ls) : Obj := .cells #[.int .i64 l.who, .int .i64 l.epoch, .int .i64 l.till] 23 (0, 0)
/-- Boxes of leases that were made since w. -/
structure BxW (w wx : World) (bl : List (Nat × Ls)) : Prop where
  b : Below w.heap.size w wx
  at_ : ∀ p ∈ bl, w.heap.size ≤ p.1 ∧ wx.heap[p.1]? = some (lsObj p.2)
section
variable {w wx wy : World} {bl : List (Nat × Ls)}
theorem BxW.nil_ (w : World) : BxW w w [] := ⟨Below.refl _ _, fun p hp => by simp at hp⟩
theorem BxW.on (h : BxW w wx bl) (hb : Below wx.heap.size wx wy) : BxW w wy bl :=
  ⟨h.b.trans (hb.mono h.b.size), fun p hp => by
    obtain ⟨h1, h2⟩ := h.at_ p hp
    exact ⟨h1, (hb.block _ (box_lt h2)).trans h2⟩⟩
theorem BxW.sub (h : BxW w wx bl) {bm : List (Nat × Ls)} (hs : ∀ p ∈ bm, p ∈ bl) : BxW w wx bm := ⟨h.b, fun p hp => h.at_ p (hs p hp)⟩
theorem BxW.cells (h : BxW w wx bl) (b : Nat) (l : Ls) (hm : (b, l) ∈ bl) :
    wx.cell? ⟨b, 0, none⟩ = some (.int .i64 l.who) ∧ wx.cell? ⟨b, 1, none⟩ = some (.int .i64 l.epoch) ∧ wx.cell? ⟨b, 2, none⟩ = some (.int .i64 l.till) := by
  obtain ⟨_, h3⟩ := h.at_ _ hm
  exact ⟨box_cell h3 0 _ rfl, box_cell h3 1 _ rfl, box_cell h3 2 _ rfl⟩
theorem BxW.free (h : BxW w wx bl) (b : Nat) (l : Ls) (hm : (b, l) ∈ bl) (j : Nat) : wx.frozen? ⟨b, j, none⟩ = false := box_free (h.at_ _ hm).2 j
theorem BxW.lt (h : BxW w wx bl) (b : Nat) (l : Ls) (hm : (b, l) ∈ bl) : w.heap.size ≤ b ∧ b < wx.heap.size := ⟨(h.at_ _ hm).1, box_lt (h.at_ _ hm).2⟩
/-- A box was made. -/
theorem BxW.box (h : BxW w wx bl) (l : Ls) : BxW w (wx.alloc (.cells #[.int .i64 l.who, .int .i64 l.epoch, .int .i64 l.till] 23)) ((wx.heap.size, l) :: bl) := by
  have h1 := h.on ((Below.refl wx.heap.size wx).alloc (Nat.le_refl _) (.cells #[.int .i64 l.who, .int .i64 l.epoch, .int .i64 l.till] 23))
  refine ⟨h1.b, fun p hp => ?_⟩
  rcases List.mem_cons.1 hp with rfl | hp
  · exact ⟨h.b.size, heap_alloc_new wx _⟩
  · exact h1.at_ p hp
/-- The world behind the store of a whole lease. -/
def set3 (wx : World) (b : Nat) (l : Ls) : World := ((wx.setCell ⟨b, 0, none⟩ (.int .i64 l.who)).setCell ⟨b, 1, none⟩ (.int .i64 l.epoch)).setCell ⟨b, 2, none⟩ (.int .i64 l.till)
theorem set3_other (b : Nat) (l : Ls) (k : Nat) (hk : k ≠ b) : (set3 wx b l).heap[k]? = wx.heap[k]? := by
  unfold set3
  rw [heap_setCell_other _ _ _ _ (by simpa using hk), heap_setCell_other _ _ _ _ (by simpa using hk), heap_setCell_other _ _ _ _ (by simpa using hk)]
theorem set3_same (b : Nat) (l m : Ls) (h : wx.heap[b]? = some (lsObj m)) : (set3 wx b l).heap[b]? = some (lsObj l) := by
  unfold set3 lsObj at *
  simp [World.setCell, Array.getElem?_modify, h]
theorem set3_size (b : Nat) (l : Ls) : (set3 wx b l).heap.size = wx.heap.size := by simp [set3, World.setCell]
theorem set3_below (b : Nat) (l : Ls) {B : Nat} (hB : B ≤ b) {w0 : World} (h : Below B w0 wx) : Below B w0 (set3 wx b l) := by
  unfold set3
  exact ((h.setCell (p := ⟨b, 0, none⟩) hB _).setCell (p := ⟨b, 1, none⟩) hB _).setCell (p := ⟨b, 2, none⟩) hB _
theorem BxW.put (h : BxW w wx bl) (b : Nat) (l m : Ls) (hm : (b, m) ∈ bl) : BxW w (set3 wx b l) ((b, l) :: bl.filter fun p => p.1 != b) := by
  have h1 := h.at_ _ hm
  refine ⟨set3_below b l h1.1 h.b, fun p hp => ?_⟩
  rcases List.mem_cons.1 hp with rfl | hp
  · exact ⟨h1.1, set3_same b l m h1.2⟩
  · obtain ⟨hp1, hp2⟩ := List.mem_filter.1 hp
    obtain ⟨h2, h3⟩ := h.at_ p hp1
    exact ⟨h2, (set3_other b l p.1 (by simpa using hp2)).trans h3⟩
end
def BxQ (w wx : World) (bl : List (Nat × Ls)) (m : Ls) (er : Int) (x y : Value) : Prop := ∃ b, x = .pointer (some ⟨b, 0, none⟩) ∧ y = .int .i64 er ∧ (∀ p ∈ bl, p.1 ≠ b) ∧ BxW w wx ((b, m) :: bl)

/-- What Grant does for a gateway that asks in time. -/
def Asks (x : Ls) (who now span : Int) : Prop := x.fine = true ∧ 0 ≤ who ∧ who ≤ 5 ∧ 0 ≤ now ∧ now ≤ 1000000 ∧ 1 ≤ span ∧ span ≤ 1000 ∧ x.epoch ≤ 1000
theorem grant_case {x : Ls} {who now span : Int} (h : Asks x who now span) :
    (0 < x.epoch ∧ now ≤ x.till ∧ x.who ≠ who ∧ grantL x who now span = x ∧ grantE x who now span = 21) ∨
    (0 < x.epoch ∧ now ≤ x.till ∧ x.who = who ∧ grantL x who now span = ⟨who, x.epoch, max x.till (now + span)⟩ ∧ grantE x who now span = 0) ∨
    (¬ (0 < x.epoch ∧ now ≤ x.till) ∧ grantL x who now span = ⟨who, x.epoch + 1, now + span⟩ ∧ grantE x who now span = 0) := by
  unfold Asks at h
  have hb : badG x who now span = false := by simp [badG, h.1, withinB]; omega
  have hr : ¬ (1073741824 - now < span) := by omega
  by_cases hh : 0 < x.epoch ∧ now ≤ x.till
  · have h1 : heldG x now = true := by simp [heldG, hh.1, hh.2]
    by_cases hw : x.who = who
    · right; left
      refine ⟨hh.1, hh.2, hw, ?_, ?_⟩
      · rw [grantL, hb, if_neg (by simp), if_neg hr, h1, if_pos rfl, if_pos hw, hw]
      · rw [grantE, hb, if_neg (by simp), if_neg hr, h1, if_pos rfl, if_pos hw]
    · left
      refine ⟨hh.1, hh.2, hw, ?_, ?_⟩
      · rw [grantL, hb, if_neg (by simp), if_neg hr, h1, if_pos rfl, if_neg hw]
      · rw [grantE, hb, if_neg (by simp), if_neg hr, h1, if_pos rfl, if_neg hw]
  · have h1 : heldG x now = false := by simp [heldG]; omega
    have he : ¬ x.epoch = 1073741824 := by omega
    right; right
    refine ⟨hh, ?_, ?_⟩
    · rw [grantL, hb, if_neg (by simp), if_neg hr, h1, if_neg (by simp), if_neg he]
    · rw [grantE, hb, if_neg (by simp), if_neg hr, h1, if_neg (by simp), if_neg he]
theorem fine_iff (l : Ls) : l.fine = true ↔ (0 ≤ l.who ∧ l.who ≤ 99) ∧ (0 ≤ l.epoch ∧ l.epoch ≤ 1073741824) ∧ 0 ≤ l.till ∧ l.till ≤ 1073741824 := by
  simp [Ls.fine, withinB]
theorem may_ok {x : Ls} {who ep now : Int} (h : x.fine = true) : mayF x who ep now = 0 ↔ x.epoch ≠ 0 ∧ x.who = who ∧ x.epoch = ep ∧ now ≤ x.till := by
  rw [mayF, if_pos h]
  split
  · rename_i h1; omega
  · rename_i h1
    split
    · omega
    · omega
end Go.Proofs.YtoibgenhbpppdaaDoor
