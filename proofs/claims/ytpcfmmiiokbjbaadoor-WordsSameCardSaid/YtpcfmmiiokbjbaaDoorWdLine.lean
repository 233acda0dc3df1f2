/- Contract of words.Line. -/
import Derived.Test.YtpcfmmiiokbjbaaDoorWdG
namespace Go.Proofs.YtpcfmmiiokbjbaaDoor
open Go.RowKit

/-- What stands ahead of the first byte 10. -/
def lineC (l : List UInt8) : List UInt8 := l.takeWhile fun c => c != 10
theorem lineC_le (l : List UInt8) : (lineC l).length ≤ l.length := (List.takeWhile_sublist (fun c => c != (10 : UInt8)) (l := l)).length_le
theorem index_line : ∀ l : List UInt8, (Lib.indexByte l 10 = -1 ∧ lineC l = l) ∨ ∃ i : Nat, Lib.indexByte l 10 = i ∧ i < l.length ∧ lineC l = l.take i
  | [] => .inl ⟨rfl, rfl⟩
  | b :: r => by
    unfold Lib.indexByte
    by_cases h : b = 10
    · right
      refine ⟨0, by simp [h], by simp, ?_⟩
      simp [lineC, h]
    · have hb : (b == 10) = false := by simpa using h
      have hl : lineC (b :: r) = b :: lineC r := by
        unfold lineC
        rw [List.takeWhile_cons, if_pos (by simpa using h)]
      rw [hb, hl]
      rcases index_line r with ⟨h1, h2⟩ | ⟨i, h1, h2, h3⟩
      · left
        rw [h1, h2]
        simp
      · right
        refine ⟨i + 1, ?_, by simp; omega, ?_⟩
        · rw [h1]
          have : ((i : Int) == -1) = false := by simp
          rw [this]
          simp
        · rw [h3, List.take_succ_cons]
set_option maxHeartbeats 1000000 in
theorem lcut_any (l : List UInt8) (w : World) (hl : l.length ≤ 1000000000000) :
    Calls Tryd.prog 39 #[.string (bs l), .string ⟨#[10]⟩] w fun e w' => ∃ x b, e = .returned (.tuple #[.string (bs (lineC l)), .string (bs x), .bool b]) ∧ Below w.heap.size w w' := by
  have hsz : (bs l).size = l.length := bs_size l
  go_enter Tryd.func39, Tryd.ntmps39
  go_wp2_with fail
  refine (Tryd.stringslite_Index_one (bs l) 10 w).mono ?_
  rintro e w1 ⟨rfl, rfl⟩
  rw [bs_data]
  rcases index_line l with ⟨h1, h2⟩ | ⟨i, h1, h2, h3⟩
  · rw [h1]
    have H2 := Lib.hid h2
    clear h1 h2
    go_wp2_with fail
    go_ret3
    exact ⟨[], false, by rw [H2.out]; rfl, Below.refl _ _⟩
  · rw [h1]
    have H3 := Lib.hid h3
    clear h1 h3
    have hx : (bs l).extract 0 i = bs (l.take i) := bs_take l i
    have hx2 : (bs l).extract (i + 1) l.length = bs (l.drop (i + 1)) := bs_drop l (i + 1)
    go_wp2_with fail
    go_quiet (fail)
    go_wp2
    go_ret3
    exact ⟨l.drop (i + 1), true, by rw [H3.out]; rfl, below_drewN (Below.refl _ _) _⟩
theorem cut_any (l : List UInt8) (w : World) (hl : l.length ≤ 1000000000000) :
    Calls Tryd.prog 28 #[.string (bs l), .string ⟨#[10]⟩] w fun e w' => ∃ x b, e = .returned (.tuple #[.string (bs (lineC l)), .string (bs x), .bool b]) ∧ Below w.heap.size w w' := by
  go_enter Tryd.func28, Tryd.ntmps28
  go_wp2_with fail
  refine (lcut_any l w hl).mono ?_
  rintro e w1 ⟨x, b, rfl, hb1⟩
  go_wp2_with fail
  go_ret3
  exact ⟨x, b, rfl, hb1⟩
set_option maxHeartbeats 1000000 in
theorem line_any (l : List UInt8) (most : Int) (w : World) (hl : l.length ≤ 1000000000000) (hm : InInt most) :
    Calls Tryd.prog 14 #[.string (bs l), .int .i64 most] w fun e w' => e = .returned (.string (bs (lineF l most))) ∧ Below w.heap.size w w' := by
  have hm1 := hm.1
  have hm2 := hm.2
  clear hm
  have HD : Hid (lineF l most = (lineC l).take most.toNat) := Lib.hid rfl
  have hle := lineC_le l
  go_enter Tryd.func14, Tryd.ntmps14
  go_wp2_with fail
  refine (cut_any l w hl).mono ?_
  rintro e w1 ⟨x, b, rfl, hb1⟩
  generalize lineC l = m at *
  have hsz : (bs m).size = m.length := bs_size m
  go_wp2_with fail
  go_ret
  refine ⟨?_, hb1⟩
  rw [HD.out]
  show Ending.returned (.string ((bs m).extract 0 (min (m.length : Int) (max most 0)).toNat)) = _
  rw [bs_take, show m.take (min (m.length : Int) (max most 0)).toNat = m.take most.toNat from ?_]
  by_cases h : most ≤ m.length
  · congr 1; omega
  · rw [List.take_of_length_le (by omega), List.take_of_length_le (by omega)]
end Go.Proofs.YtpcfmmiiokbjbaaDoor
