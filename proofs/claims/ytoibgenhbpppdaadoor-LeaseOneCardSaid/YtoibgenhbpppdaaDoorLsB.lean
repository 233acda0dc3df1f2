/- Contracts of lease.May and of its reference. -/
import Derived.Test.YtoibgenhbpppdaaDoorLsA
import Derived.Deep.MidRow
namespace Go.Proofs.YtoibgenhbpppdaaDoor
open Go.RowKit

theorem lsLay : Lay 3 Ls.cs := ⟨fun _ => rfl, fun x u hu => by
  simp only [Ls.cs, List.mem_cons, List.not_mem_nil, or_false] at hu
  rcases hu with rfl | rfl | rfl <;> rfl⟩
/-- The cells of a box that was just made, behind whatever leaves it. -/
theorem lsRange (w : World) (l : Ls) (t : TypeId) {w' : World} (hb : Below (w.alloc (.cells #[.int .i64 l.who, .int .i64 l.epoch, .int .i64 l.till] t)).heap.size (w.alloc (.cells #[.int .i64 l.who, .int .i64 l.epoch, .int .i64 l.till] t)) w') :
    w'.rangeAt w.heap.size 0 l.cs := fun j v hj => by
  rw [hb.cell (p := ⟨w.heap.size, 0 + j, none⟩) (by simp)]
  unfold World.cell?
  rw [heap_alloc_new]
  simpa [Ls.cs] using hj
/-- A whole struct is read. -/
theorem wpList_load_w {P : Program} {ops : Array Oper} {rest : List Oper} {op : Oper} {a : Act} {w : World} {Q : Exit → Act → World → Prop} (hgd : Region.wanted op (yielded ops a.tmps) = true) (ty : TypeId) (x : Operand) (ho : op.op = .load ty x)
    (b o : Nat) (hx : a.eval x = .pointer (some ⟨b, o, none⟩)) (cs : List Value) (d : TypeDesc) (hc : w.rangeAt b o cs)
    (hu : P.underlying ty = some d) (hd : d.isRow = true) (hi : (P.info? ty).map (·.size) = some cs.length)
    (h : wpList P ops Q rest (a.put op.dst (.agg cs.toArray)) w) : wpList P ops Q (op :: rest) a w :=
  BigFrame.wpList_want hgd fun _ hK => wp_load_mid ty x ho b o hx cs d hc hu hd hi (hK _ _ h)

def mayF (l : Ls) (who epoch now : Int) : Int :=
  if l.fine then (if l.epoch = 0 ∨ l.who ≠ who ∨ l.epoch ≠ epoch then 21 else (if l.till < now then 16 else 0)) else 1

set_option maxHeartbeats 1000000 in
theorem may_any (l : Ls) (who epoch now : Int) (w : World) : Calls Tryd.prog 11 #[l.v, .int .i64 who, .int .i64 epoch, .int .i64 now] w fun e w' => e = .returned (.int .i64 (mayF l who epoch now)) ∧ Below w.heap.size w w' := by
  have HB := Lib.hid ((Below.refl w.heap.size w).alloc (Nat.le_refl _) (.cells #[.int .i64 l.who, .int .i64 l.epoch, .int .i64 l.till] 23))
  have HR := Lib.hid (lsRange w l 23 (Below.refl _ _))
  unfold Ls.v
  go_enter Tryd.func11, Tryd.ntmps11
  go_wp2_with ((with_reducible show wpList _ _ _ (Oper.mk _ (Op.load 23 _) _ _ _ _ :: _) _ _); refine wpList_load_w rfl 23 (.tmp 4) rfl w.heap.size 0 rfl l.cs _ HR.out Tryd.underlying23 rfl (by kernel_rfl) ?_)
  refine (validL_any l _).mono ?_
  rintro e w1 ⟨rfl, hb1⟩
  have HR1 := lsRange w l 23 hb1
  have HB1 := Lib.hid (HB.out.trans (hb1.mono HB.out.size))
  have c0 : w1.cell? ⟨w.heap.size, 0, none⟩ = some (.int .i64 l.who) := range_cell HR1 0 _ rfl
  have c1 : w1.cell? ⟨w.heap.size, 1, none⟩ = some (.int .i64 l.epoch) := range_cell HR1 1 _ rfl
  have c2 : w1.cell? ⟨w.heap.size, 2, none⟩ = some (.int .i64 l.till) := range_cell HR1 2 _ rfl
  clear hb1 HR1 HR HB
  cases hv : l.fine
  · go_wp2
    all_goals go_ret
    all_goals exact ⟨by simp [mayF, hv], HB1.out⟩
  · go_wp2
    all_goals go_ret
    all_goals exact ⟨by simp_all [mayF] <;> omega, HB1.out⟩

set_option maxHeartbeats 1000000 in
theorem mayR_any (l : Ls) (who epoch now : Int) (w : World) : Calls Tryd.prog 12 #[l.v, .int .i64 who, .int .i64 epoch, .int .i64 now] w fun e w' => e = .returned (.int .i64 (mayF l who epoch now)) ∧ Below w.heap.size w w' := by
  have HB := Lib.hid ((Below.refl w.heap.size w).alloc (Nat.le_refl _) (.cells #[.int .i64 l.who, .int .i64 l.epoch, .int .i64 l.till] 23))
  have HR := Lib.hid (lsRange w l 23 (Below.refl _ _))
  unfold Ls.v
  go_enter Tryd.func12, Tryd.ntmps12
  go_wp2_with ((with_reducible show wpList _ _ _ (Oper.mk _ (Op.load 23 _) _ _ _ _ :: _) _ _); refine wpList_load_w rfl 23 (.tmp 4) rfl w.heap.size 0 rfl l.cs _ HR.out Tryd.underlying23 rfl (by kernel_rfl) ?_)
  refine (right_any l _).mono ?_
  rintro e w1 ⟨rfl, hb1⟩
  have HR1 := lsRange w l 23 hb1
  have HB1 := Lib.hid (HB.out.trans (hb1.mono HB.out.size))
  have c0 : w1.cell? ⟨w.heap.size, 0, none⟩ = some (.int .i64 l.who) := range_cell HR1 0 _ rfl
  have c1 : w1.cell? ⟨w.heap.size, 1, none⟩ = some (.int .i64 l.epoch) := range_cell HR1 1 _ rfl
  have c2 : w1.cell? ⟨w.heap.size, 2, none⟩ = some (.int .i64 l.till) := range_cell HR1 2 _ rfl
  clear hb1 HR1 HR HB
  cases hv : l.fine
  · go_wp2
    all_goals go_ret
    all_goals exact ⟨by simp [mayF, hv], HB1.out⟩
  · go_wp2
    all_goals go_ret
    all_goals exact ⟨by simp_all [mayF] <;> omega, HB1.out⟩

end Go.Proofs.YtoibgenhbpppdaaDoor
