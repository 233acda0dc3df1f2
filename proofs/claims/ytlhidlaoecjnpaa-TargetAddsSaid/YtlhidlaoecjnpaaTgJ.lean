/- Contracts of layer 22: the documented examples. -/
import Derived.Test.YtlhidlaoecjnpaaTgI
import Derived.Test.YtlhidlaoecjnpaaTgG
namespace Go.Proofs.Ytlhidlaoecjnpaa
open Go.RowKit

def someP : List Pair := [⟨1, 5, 3, 0⟩, ⟨1, 6, 3, 1⟩, ⟨2, 5, 4, 0⟩]
theorem someP_wf : ∀ p ∈ someP, p.wf := by
  intro p hp
  simp only [someP, List.mem_cons, List.not_mem_nil, or_false] at hp
  rcases hp with rfl | rfl | rfl <;> exact ⟨rfl, rfl, rfl, rfl⟩

theorem RdL.drop {T : Type} {sz : Nat} {enc : T → List Value} {w : World} {B b off : Nat} {xs : List T} (h : RdL sz enc w B (some ⟨b, off, none⟩) xs) (i o : Nat) (ho : o = off + i * sz) : RdL sz enc w B (some ⟨b, o, none⟩) (xs.drop i) := by
  subst ho
  intro k x hx
  rw [List.getElem?_drop] at hx
  obtain ⟨b', off', e, hb, hc⟩ := h (i + k) x hx
  injection e with e
  injection e with e1 e2
  subst e1 e2
  refine ⟨_, _, rfl, hb, fun j v hj => ?_⟩
  have := hc j v hj
  rw [Nat.add_mul] at this
  rw [← this]
  congr 2
  omega

set_option maxHeartbeats 400000 in
theorem some_any (w : World) : Calls Try.prog 21 #[] w fun e w' => ∃ g, e = .returned (.slice (some ⟨g, 0, none⟩) 3 3) ∧ OwnP w' w.heap.size (some ⟨g, 0, none⟩) 3 someP ∧ Below w.heap.size w w' := by
  go_enter Try.func21, Try.ntmps21
  go_wp2
  go_ret
  exact ⟨w.heap.size, rfl, World.ownsRow_lit w _ 3 (Nat.le_refl _) (by simp [maxLen]) rfl, (Below.refl _ _).alloc (Nat.le_refl _) _⟩

section
variable (A : Option Addr) (c : Nat) (w : World) (hr : RdP w w.heap.size A someP)
include hr
theorem s_find : Calls Try.prog 11 #[.slice A 3 c, .int .i64 1, .int .i64 6] w fun e w' => e = .returned (.tuple #[.int .i64 3, .int .i64 1, .bool true]) ∧ Below w.heap.size w w' := pfind_any someP A c 1 6 w hr (by decide)
theorem s_local : Calls Try.prog 13 #[.slice A 3 c, .int .i64 2, .int .i64 4, .int .i64 0] w fun e w' => e = .returned (.tuple #[.int .i64 5, .bool true]) ∧ Below w.heap.size w w' := plocal_any someP A c 2 4 0 w hr (by decide)
theorem s_add1 : Calls Try.prog 9 #[.slice A 3 c, .agg #[.int .i64 1, .int .i64 6, .int .i64 9, .int .i64 0]] w fun e w' => ∃ A' c', e = .returned (.tuple #[.slice A' 0 c', .int .i64 5]) ∧ Below w.heap.size w w' :=
  (padd_any someP ⟨1, 6, 9, 0⟩ A c w hr (by decide) someP_wf ⟨rfl, rfl, rfl, rfl⟩).mono fun _ _ ⟨A', c', h1, _, h2⟩ => ⟨A', c', h1, h2⟩
theorem s_add2 : Calls Try.prog 9 #[.slice A 3 c, .agg #[.int .i64 1, .int .i64 7, .int .i64 3, .int .i64 1]] w fun e w' => ∃ A' c', e = .returned (.tuple #[.slice A' 0 c', .int .i64 5]) ∧ Below w.heap.size w w' :=
  (padd_any someP ⟨1, 7, 3, 1⟩ A c w hr (by decide) someP_wf ⟨rfl, rfl, rfl, rfl⟩).mono fun _ _ ⟨A', c', h1, _, h2⟩ => ⟨A', c', h1, h2⟩
theorem s_add3 : Calls Try.prog 9 #[.slice A 3 c, .agg #[.int .i64 2, .int .i64 6, .int .i64 3, .int .i64 1]] w fun e w' => ∃ A' c', e = .returned (.tuple #[.slice A' 4 c', .int .i64 0]) ∧ Below w.heap.size w w' :=
  (padd_any someP ⟨2, 6, 3, 1⟩ A c w hr (by decide) someP_wf ⟨rfl, rfl, rfl, rfl⟩).mono fun _ _ ⟨A', c', h1, _, h2⟩ => ⟨A', c', h1, h2⟩
theorem s_drop : Calls Try.prog 18 #[.slice A 3 c, .int .i64 1, .int .i64 3] w fun e w' => ∃ A' c', e = .returned (.slice A' 1 c') ∧ OwnP w' w.heap.size A' c' [⟨2, 5, 4, 0⟩] ∧ Below w.heap.size w w' := pdrop_any someP A c 1 3 w hr (by decide)
theorem s_right : Calls Try.prog 16 #[.slice A 3 c] w fun e w' => e = .returned (.bool true) ∧ Below w.heap.size w w' := pright_any someP A c w hr (by decide) someP_wf
end
theorem s_same (A B : Option Addr) (c d : Nat) (w : World) (hx : RdP w w.heap.size A [⟨2, 5, 4, 0⟩]) (hy : RdP w w.heap.size B [⟨2, 5, 4, 0⟩]) :
    Calls Try.prog 15 #[.slice A 1 c, .slice B 1 d] w fun e w' => e = .returned (.bool true) ∧ Below w.heap.size w w' := rsame_any [⟨2, 5, 4, 0⟩] [⟨2, 5, 4, 0⟩] A B c d w hx hy (by decide)

set_option maxHeartbeats 1000000 in
theorem small_any (w : World) : Calls Try.prog 8 #[] w fun e w' => e = .returned (.bool true) ∧ Below w.heap.size w w' := by
  go_enter Try.func8, Try.ntmps8
  go_wp2_with fail
  refine (some_any _).mono ?_; rintro e w1 ⟨g1, rfl, o1, b1⟩
  go_wp2_with fail
  refine (s_find _ _ _ (o1.rd layP)).mono ?_; rintro e w2 ⟨rfl, b2⟩
  have B2 := b1.trans (b2.mono b1.size)
  clear o1 b1 b2
  go_wp2_with fail
  refine (some_any _).mono ?_; rintro e w3 ⟨g3, rfl, o3, b3⟩
  go_wp2_with fail
  refine (s_local _ _ _ (o3.rd layP)).mono ?_; rintro e w4 ⟨rfl, b4⟩
  have B4 := B2.trans ((b3.trans (b4.mono b3.size)).mono B2.size)
  clear o3 b3 b4 B2
  go_wp2_with fail
  refine (some_any _).mono ?_; rintro e w5 ⟨g5, rfl, o5, b5⟩
  go_wp2_with fail
  refine (s_add1 _ _ _ (o5.rd layP)).mono ?_; rintro e w6 ⟨A6, c6, rfl, b6⟩
  have B6 := B4.trans ((b5.trans (b6.mono b5.size)).mono B4.size)
  clear o5 b5 b6 B4
  go_wp2_with fail
  refine (some_any _).mono ?_; rintro e w7 ⟨g7, rfl, o7, b7⟩
  go_wp2_with fail
  refine (s_add2 _ _ _ (o7.rd layP)).mono ?_; rintro e w8 ⟨A8, c8, rfl, b8⟩
  have B8 := B6.trans ((b7.trans (b8.mono b7.size)).mono B6.size)
  clear o7 b7 b8 B6
  go_wp2_with fail
  refine (some_any _).mono ?_; rintro e w9 ⟨g9, rfl, o9, b9⟩
  go_wp2_with fail
  refine (s_add3 _ _ _ (o9.rd layP)).mono ?_; rintro e w10 ⟨A10, c10, rfl, b10⟩
  have B10 := B8.trans ((b9.trans (b10.mono b9.size)).mono B8.size)
  clear o9 b9 b10 B8
  go_wp2_with fail
  refine (some_any _).mono ?_; rintro e w11 ⟨g11, rfl, o11, b11⟩
  go_wp2_with fail
  refine (s_drop _ _ _ (o11.rd layP)).mono ?_; rintro e w12 ⟨A12, c12, rfl, o12, b12⟩
  have B12 := B10.trans ((b11.trans (b12.mono b11.size)).mono B10.size)
  have r12 := o12.rd layP
  clear o11 b11 b12 B10 o12
  go_wp2_with fail
  refine (some_any _).mono ?_; rintro e w13 ⟨g13, rfl, o13, b13⟩
  have r13 := r12.now b13
  have r14 := (o13.rd layP).drop 2 8 rfl
  have B13 := B12.trans (b13.mono B12.size)
  clear B12 r12 o13 b13
  go_wp2_with fail
  refine (s_same _ _ _ _ _ r13 r14).mono ?_; rintro e w14 ⟨rfl, b14⟩
  have B14 := B13.trans (b14.mono B13.size)
  clear B13 b14 r13 r14
  go_wp2_with fail
  refine (some_any _).mono ?_; rintro e w15 ⟨g15, rfl, o15, b15⟩
  go_wp2_with fail
  refine (s_right _ _ _ (o15.rd layP)).mono ?_; rintro e w16 ⟨rfl, b16⟩
  have B16 := B14.trans ((b15.trans (b16.mono b15.size)).mono B14.size)
  clear o15 b15 b16 B14
  go_wp2
  go_ret
  exact ⟨rfl, B16⟩
end Go.Proofs.Ytlhidlaoecjnpaa
