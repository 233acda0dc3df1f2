/- Contract of ways.first. -/
import Derived.Test.YtebpnlbpdhgacaaWyI
namespace Go.Proofs.Ytebpnlbpdhgacaa
open Go.RowKit

def choC (x : Bool × Int × Int) : List Value := [.bool x.1, .int .i64 x.2.1, .int .i64 x.2.2]
theorem choLay : Lay 3 choC := ⟨fun _ => rfl, fun x u hu => by simp only [choC, List.mem_cons, List.not_mem_nil, or_false] at hu; rcases hu with rfl | rfl | rfl <;> rfl⟩
def firstW : List (Bool × Int × Int) → Int × Int
  | [] => (5, 2)
  | (b, x) :: r => if b then x else firstW r
theorem firstW_drop {xs : List (Bool × Int × Int)} {k : Nat} {b : Bool} {x : Int × Int} (h : xs[k]? = some (b, x)) : firstW (xs.drop k) = if b then x else firstW (xs.drop (k + 1)) := by
  obtain ⟨hk, he⟩ := List.getElem?_eq_some_iff.1 h
  rw [List.drop_eq_getElem_cons hk, he]
  rfl

set_option maxHeartbeats 1000000 in
theorem first_any (xs : List (Bool × Int × Int)) (n : Nat) (hn : n = xs.length) (hm : n ≤ 1000) (A : Option Addr) (c : Nat) (w : World) (hr : RdL 3 choC w w.heap.size A xs) :
    Calls Try.prog 18 #[.slice A n c] w fun e w' => e = .returned (wayV (firstW xs)) ∧ Below w.heap.size w w' := by
  subst hn
  have hb0 : Below w.heap.size w (w.alloc (.cells #[.int .i64 0, .int .i64 0] 35)) := (Below.refl _ _).alloc (Nat.le_refl _) _
  have hr0 := hr.now hb0
  have HB := Lib.hid hb0
  clear hb0
  go_enter Try.func18, Try.ntmps18
  go_wp2
  go_loopw [7] (fun i wr => ∃ k : Nat, k ≤ xs.length ∧ i = .int .i64 k ∧ firstW xs = firstW (xs.drop k) ∧ Below (w.alloc (.cells #[.int .i64 0, .int .i64 0] 35)).heap.size (w.alloc (.cells #[.int .i64 0, .int .i64 0] 35)) wr) (fun i _ => xs.length - (intOf i).toNat)
  case atStart => exact ⟨0, Nat.zero_le _, rfl, rfl, Below.refl _ _⟩
  case round =>
    obtain ⟨k, hk, rfl, hf, hb⟩ := hrel
    have c0 := boxCell _ _ _ hb w.heap.size rfl 0 _ rfl
    have c1 := boxCell _ _ _ hb w.heap.size rfl 1 _ rfl
    have g := boxFree _ _ _ hb w.heap.size rfl
    have HF := Lib.hid hf
    clear hf
    have hsz : w.heap.size < wr.heap.size := by have := hb.size; simp at this; omega
    by_cases hlt : k < xs.length
    · obtain ⟨b, off, rfl, hbb, hc⟩ := (hr0.below hb).at_ hlt
      obtain ⟨⟨q, x1, x2⟩, hx⟩ : ∃ x, xs[k] = x := ⟨_, rfl⟩
      have HX := Lib.hid (show xs[k]? = some (q, x1, x2) by rw [List.getElem?_eq_getElem hlt, hx])
      rw [hx] at hc
      have v0 := hc 0 _ rfl
      have v1 := hc 1 _ rfl
      have v2 := hc 2 _ rfl
      simp only [Nat.add_zero] at v0
      clear hc hx
      have HBB := Lib.hid hb
      clear hb
      cases q
      · go_wp2
        go_roundw
        case rel => exact ⟨k + 1, by omega, by go_num, by rw [HF.out, firstW_drop HX.out]; rfl, HBB.out.alloc HBB.out.size _⟩
        case measure => simp [intOf]; omega
      · go_wp2
        have q0 : ∀ o j, (((wr.setCell ⟨w.heap.size, 0, none⟩ (.int .i64 x1)).setCell ⟨w.heap.size, 1, none⟩ (.int .i64 x2)).alloc o).cell? ⟨w.heap.size, j, none⟩ = ((wr.setCell ⟨w.heap.size, 0, none⟩ (.int .i64 x1)).setCell ⟨w.heap.size, 1, none⟩ (.int .i64 x2)).cell? ⟨w.heap.size, j, none⟩ := fun o j => cell_old _ o _ j (by simp; omega)
        refine bodyPost_ret (v := wayV (x1, x2)) (by simp [results, Try.results18, go_sem, c0, c1, q0]) rfl ⟨?_, ((((HB.out.trans (HBB.out.mono HB.out.size)).setCell (by simp) _).setCell (by simp) _).alloc (by simp; omega) _)⟩
        simp [HF.out, firstW_drop HX.out]
    · have hdn : xs.drop k = [] := List.drop_of_length_le (by omega)
      have HD := Lib.hid (show firstW xs = (5, 2) by rw [HF.out, hdn]; rfl)
      have HBB := Lib.hid hb
      clear hb hdn
      go_wp2
      refine bodyPost_ret (v := wayV (5, 2)) (by simp [results, Try.results18, go_sem, c0, c1]) rfl ⟨?_, (((HB.out.trans (HBB.out.mono HB.out.size)).setCell (by simp) _).setCell (by simp) _)⟩
      simp [HD.out]
end Go.Proofs.Ytebpnlbpdhgacaa
