/- The walk of WaysTells. -/
import Derived.Test.YtebpnlbpdhgacaaWyM
import Derived.Test.YtebpnlbpdhgacaaWyOpen
namespace Go.Proofs.Ytebpnlbpdhgacaa
open Go.RowKit

theorem waysOf_len (p : Prof) : (waysOf p).length ≤ 1000 := by unfold waysOf; split <;> simp [wayL]

set_option maxRecDepth 100000 in
set_option maxHeartbeats 2000000 in
theorem tells_walk (p : Prof) (A : Option Addr) (c : Nat) (w : World) (hr : ProfOk w w.heap.size A p) (hcap : p.types.length ≤ c) : Calls Try.prog 3 #[p.v A c] w fun e w' => e = .returned (.bool true) ∧ Below w.heap.size w w' := by
  have hb0 : Below w.heap.size w (w.alloc (.cells (p.cs A c) 24)) := (Below.refl _ _).alloc (Nat.le_refl _) _
  have hr0 := hr.now hb0
  have hs0 : w.heap.size < (w.alloc (.cells (p.cs A c) 24)).heap.size := by simp
  have HB0 := Lib.hid hb0
  have HR0 := Lib.hid hr0
  have HRA0 := Lib.hid (boxRange w (p.cs A c) 24 (Below.refl _ _))
  clear hb0 hr0
  go_enter Try.func3, Try.ntmps3
  go_wp2_with fail
  refine (small_any _).mono ?_
  rintro e w1 ⟨rfl, hb1⟩
  have HRA1 := Lib.hid (range_below HRA0.out hb1 hs0)
  have HR1 := Lib.hid (HR0.out.now hb1)
  have HB1 := Lib.hid (HB0.out.trans (hb1.mono HB0.out.size))
  have hs1 := Nat.lt_of_lt_of_le hs0 hb1.size
  clear hb1 HRA0 HR0 HB0 hs0
  go_wp2_with ((with_reducible show wpList _ _ _ (Oper.mk _ (Op.load 24 _) _ _ _ _ :: _) _ _); refine wpList_load_g rfl 24 (.tmp 1) rfl w.heap.size 0 rfl (p.cs A c).toList _ HRA1.out Try.underlying24 rfl (by kernel_rfl) ?_)
  refine (few_any p A c w1 HR1.out).mono ?_
  rintro e w2 ⟨⟨b, rfl, hb⟩, hb2⟩
  have HRA2 := Lib.hid (range_below HRA1.out hb2 hs1)
  have HR2 := Lib.hid (HR1.out.now hb2)
  have HB2 := Lib.hid (HB1.out.trans (hb2.mono HB1.out.size))
  have hs2 := Nat.lt_of_lt_of_le hs1 hb2.size
  clear hb2 HRA1 HR1 HB1 hs1 hb
  cases b
  · go_wp2
    go_ret
    exact ⟨rfl, HB2.out⟩
  go_wp2_with ((with_reducible show wpList _ _ _ (Oper.mk _ (Op.load 24 _) _ _ _ _ :: _) _ _); refine wpList_load_g rfl 24 (.tmp 1) rfl w.heap.size 0 rfl (p.cs A c).toList _ HRA2.out Try.underlying24 rfl (by kernel_rfl) ?_)
  refine (pCompile_any p A c w2 HR2.out hcap).mono ?_
  rintro e w3 ⟨hb3, B1, d1, rfl, hq1⟩
  have HRA3 := Lib.hid (range_below HRA2.out hb3 hs2)
  have HR3 := Lib.hid (HR2.out.now hb3)
  have HB3 := Lib.hid (HB2.out.trans (hb3.mono HB2.out.size))
  have hs3 := Nat.lt_of_lt_of_le hs2 hb3.size
  have HQ1 := Lib.hid hq1
  clear hb3 hq1 HRA2 HR2 HB2 hs2
  go_wp2_with ((with_reducible show wpList _ _ _ (Oper.mk _ (Op.load 24 _) _ _ _ _ :: _) _ _); refine wpList_load_g rfl 24 (.tmp 1) rfl w.heap.size 0 rfl (p.cs A c).toList _ HRA3.out Try.underlying24 rfl (by kernel_rfl) ?_)
  refine (rCompile_any p A c w3 HR3.out).mono ?_
  rintro e w4 ⟨hb4, B2, d2, rfl, hq2⟩
  have HQ2 := Lib.hid hq2
  have HQ3 := Lib.hid (HQ1.out.now hb4)
  have HB4 := Lib.hid (HB3.out.trans (hb4.mono HB3.out.size))
  clear hb4 HRA3 HR3 HB3 hs3 hq2 HQ1
  generalize hn : (waysOf p).length = n
  have HN := Lib.hid hn
  clear hn
  go_wp2_with fail
  refine (same_refl (waysOf p) n HN.out.symm (by rw [← HN.out]; exact waysOf_len p) B1 B2 d1 d2 _ HQ3.out HQ2.out).mono ?_
  rintro e w5 ⟨rfl, hb5⟩
  have HB5 := Lib.hid (HB4.out.trans (hb5.mono HB4.out.size))
  clear hb5
  go_wp2
  go_ret
  exact ⟨rfl, HB5.out⟩
end Go.Proofs.Ytebpnlbpdhgacaa
