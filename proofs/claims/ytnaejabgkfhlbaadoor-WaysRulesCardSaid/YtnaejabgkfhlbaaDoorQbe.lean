/- Contracts and plain laws, joined: SyRules. -/
import Derived.Test.YtnaejabgkfhlbaaDoorQbc
import Derived.Test.YtnaejabgkfhlbaaDoorQao
/- The walk of lingualaw19.WaysRules. -/
set_option linter.unusedSimpArgs false
set_option linter.unusedVariables false
namespace Go.Proofs.YtnaejabgkfhlbaaDoor
open Go.RowKit

/-- A profile with the rules, the types, the levels and the sizes of attachments of another one. -/
def xrule (P Q : Prof) : Prof := { P with name := Q.name, join := Q.join, history := Q.history, remove := Q.remove, level := Q.level, batch := Q.batch, rate := Q.rate, down := Q.down, window := Q.window, keep := Q.keep, types := Q.types, bytes := Q.bytes }
theorem ways_x {P Q : Prof} (h : profCheck P = 0) (h2 : profCheck (xrule P Q) = 0) : waysOf (xrule P Q) = waysOf P := by
  unfold waysOf
  rw [if_pos h, if_pos h2]
  rfl
theorem check_right {P : Prof} (h : profCheck P = 0) : profRight P = true := by
  unfold profCheck at h
  cases hr : profRight P with
  | true => rfl
  | false => rw [hr] at h; simp at h
theorem ways_len (P : Prof) : (waysOf P).length ≤ 1000 := by unfold waysOf; split <;> simp [wayL]
set_option maxRecDepth 100000 in
set_option maxHeartbeats 8000000 in
theorem rules19_any (B : Nat) (P Q : Prof) (A A2 : Option Addr) (c d : Nat) (w : World) (hV : Vs B w) (hp : ProfOk w w.heap.size A P) (hq : ProfOk w w.heap.size A2 Q) (hc : P.types.length ≤ c) (hd : Q.types.length ≤ d) :
    Calls Tryd.prog 8 #[P.v A c, Q.v A2 d] w fun e w' => e = .returned (.bool true) ∧ Below w.heap.size w w' := by
  have hb0 : Below w.heap.size w ((w.alloc (.cells (P.cs A c) 24)).alloc (.cells (Q.cs A2 d) 24)) := by repeat (first | with_reducible exact Below.refl _ _ | with_reducible assumption | with_reducible refine Below.drew ?_ | with_reducible refine Below.alloc ?_ (by first | omega | (simp; done) | (simp; omega)) _)
  have HF0 := Lib.hid (two_boxes hp hq hc hd)
  have HS0 := Lib.hid hb0
  have HV := Lib.hid hV
  clear hb0 hp hq hV
  go_enter Tryd.func8, Tryd.ntmps8
  go_wp2_with fail
  refine (small_any _).mono ?_
  rintro e w1 ⟨rfl, hb1⟩
  have HF1 := Lib.hid (HF0.out.now hb1)
  have HS1 := Lib.hid (HS0.out.trans (hb1.mono HS0.out.size))
  clear hb1 HF0 HS0
  go_wp2_with (first
      | ((with_reducible show wpList _ _ _ (Oper.mk _ (Op.load 24 (Operand.tmp 2)) _ _ _ _ :: _) _ _); refine wpList_load_w rfl 24 (.tmp 2) rfl (w.heap.size) 0 rfl ((P).cs (A) (c)).toList _ ((HF1).out (w.heap.size, P, A, c) (by simp)).rng Tryd.underlying24 rfl (by kernel_rfl) ?_)
      | fail)
  refine (few_any P A c _ (HF1.out (w.heap.size, P, A, c) (by simp)).ok).mono ?_
  rintro e w2 ⟨⟨fp, rfl, hfp⟩, hb2⟩
  have HF2 := Lib.hid (HF1.out.now hb2)
  have HS2 := Lib.hid (HS1.out.trans (hb2.mono HS1.out.size))
  clear hb2 HF1 HS1
  cases fp with
  | false =>
    go_wp2_with fail
    go_ret
    exact ⟨rfl, HS2.out⟩
  | true =>
  have HfP := Lib.hid (hfp rfl)
  clear hfp
  go_wp2_with (first
      | ((with_reducible show wpList _ _ _ (Oper.mk _ (Op.load 24 (Operand.tmp 3)) _ _ _ _ :: _) _ _); refine wpList_load_w rfl 24 (.tmp 3) rfl (w.heap.size + 1) 0 rfl ((Q).cs (A2) (d)).toList _ ((HF2).out (w.heap.size + 1, Q, A2, d) (by simp)).rng Tryd.underlying24 rfl (by kernel_rfl) ?_)
      | fail)
  refine (few_any Q A2 d _ (HF2.out (w.heap.size + 1, Q, A2, d) (by simp)).ok).mono ?_
  rintro e w3 ⟨⟨fq, rfl, hfq⟩, hb3⟩
  have HF3 := Lib.hid (HF2.out.now hb3)
  have HS3 := Lib.hid (HS2.out.trans (hb3.mono HS2.out.size))
  clear hb3 HF2 HS2
  cases fq with
  | false =>
    go_wp2_with fail
    go_ret
    exact ⟨rfl, HS3.out⟩
  | true =>
  clear hfq
  go_wp2_with (first
      | ((with_reducible show wpList _ _ _ (Oper.mk _ (Op.load 24 (Operand.tmp 2)) _ _ _ _ :: _) _ _); refine wpList_load_w rfl 24 (.tmp 2) rfl (w.heap.size) 0 rfl ((P).cs (A) (c)).toList _ ((HF3).out (w.heap.size, P, A, c) (by simp)).rng Tryd.underlying24 rfl (by kernel_rfl) ?_)
      | fail)
  refine (pCompile_any P A c _ (HF3.out (w.heap.size, P, A, c) (by simp)).ok hc).mono ?_
  rintro e w4 ⟨hb4, B1, d1, rfl, hw1⟩
  have HW4 := Lib.hid hw1
  clear hw1
  have HF4 := Lib.hid (HF3.out.now hb4)
  have HS4 := Lib.hid (HS3.out.trans (hb4.mono HS3.out.size))
  clear hb4 HF3 HS3
  have HQ4 := Lib.hid (HF4.out (w.heap.size + 1, Q, A2, d) (by simp))
  have HQc : Hid (∀ j v, (Q.cs A2 d).toList[j]? = some v → w4.cell? ⟨w.heap.size + 1, j, none⟩ = some v) := Lib.hid (fun j v hj => by have := HQ4.out.rng j v hj; rwa [Nat.zero_add] at this)
  have HLt := Lib.hid HQ4.out.lt
  go_upto_region 6 with (first
      | ((with_reducible show wpList _ _ _ (Oper.mk _ (Op.load 24 (Operand.tmp 2)) _ _ _ _ :: _) _ _); refine wpList_load_w rfl 24 (.tmp 2) rfl (w.heap.size) 0 rfl ((P).cs (A) (c)).toList _ ((HF4).out (w.heap.size, P, A, c) (by simp)).rng Tryd.underlying24 rfl (by kernel_rfl) ?_)
      | ((with_reducible show wpList _ _ _ (Oper.mk _ (Op.store 24 (Operand.tmp 8) _) _ _ _ _ :: _) _ _); refine wpList_store_p rfl _ _ rfl w4.heap.size P A c ?x1 ?x2 (zero_box w4) (by kernel_rfl) ?_; (case x1 => rfl); (case x2 => rfl); intro wa hqwa hgwa)
      | fail)
  have HBwa := Lib.hid (((Below.refl w4.heap.size w4).alloc (Nat.le_refl _) _).grown hgwa (by simp) (fun k hk => by injection hk with hk; omega))
  clear hgwa
  have HQwa := Lib.hid hqwa
  clear hqwa
  have cx := HQwa.out.c 0 _ rfl
  have fx := HQwa.out.f 0
  have cy := (HBwa.out.cell (p := ⟨w.heap.size + 1, 0, none⟩) HLt.out).trans (HQc.out 0 _ rfl)
  obtain ⟨X1, hX1⟩ : ∃ x : Prof, x = { P with name := Q.name } := ⟨_, rfl⟩
  have HX1 := Lib.hid hX1
  have HZ0 : Hid (PBox w4.heap.size (X1.cs A c) (World.setCell wa ⟨w4.heap.size, 0, none⟩ (.string Q.name))) := Lib.hid (by rw [hX1]; exact HQwa.out.set 0 (.string Q.name))
  have HZ1 := Lib.hid (HBwa.out.setCell (p := ⟨w4.heap.size, 0, none⟩) (Nat.le_refl _) (.string Q.name))
  clear hX1
  go_upto_region 7 with fail
  clear cx fx cy HQwa HBwa
  generalize World.setCell wa ⟨w4.heap.size, 0, none⟩ (.string Q.name) = wb1 at *
  have HQwb1 := Lib.hid HZ0.out
  have HBwb1 := Lib.hid HZ1.out
  clear HZ0 HZ1
  have cx := HQwb1.out.c 13 _ rfl
  have fx := HQwb1.out.f 13
  have cy := (HBwb1.out.cell (p := ⟨w.heap.size + 1, 13, none⟩) HLt.out).trans (HQc.out 13 _ rfl)
  obtain ⟨X2, hX2⟩ : ∃ x : Prof, x = { X1 with join := Q.join } := ⟨_, rfl⟩
  have HX2 := Lib.hid hX2
  have HZ0 : Hid (PBox w4.heap.size (X2.cs A c) (World.setCell wb1 ⟨w4.heap.size, 13, none⟩ (.int .i64 Q.join))) := Lib.hid (by rw [hX2]; exact HQwb1.out.set 13 (.int .i64 Q.join))
  have HZ1 := Lib.hid (HBwb1.out.setCell (p := ⟨w4.heap.size, 13, none⟩) (Nat.le_refl _) (.int .i64 Q.join))
  clear hX2
  go_upto_region 8 with fail
  clear cx fx cy HQwb1 HBwb1
  generalize World.setCell wb1 ⟨w4.heap.size, 13, none⟩ (.int .i64 Q.join) = wb2 at *
  have HQwb2 := Lib.hid HZ0.out
  have HBwb2 := Lib.hid HZ1.out
  clear HZ0 HZ1
  have cx := HQwb2.out.c 14 _ rfl
  have fx := HQwb2.out.f 14
  have cy := (HBwb2.out.cell (p := ⟨w.heap.size + 1, 14, none⟩) HLt.out).trans (HQc.out 14 _ rfl)
  obtain ⟨X3, hX3⟩ : ∃ x : Prof, x = { X2 with history := Q.history } := ⟨_, rfl⟩
  have HX3 := Lib.hid hX3
  have HZ0 : Hid (PBox w4.heap.size (X3.cs A c) (World.setCell wb2 ⟨w4.heap.size, 14, none⟩ (.int .i64 Q.history))) := Lib.hid (by rw [hX3]; exact HQwb2.out.set 14 (.int .i64 Q.history))
  have HZ1 := Lib.hid (HBwb2.out.setCell (p := ⟨w4.heap.size, 14, none⟩) (Nat.le_refl _) (.int .i64 Q.history))
  clear hX3
  go_upto_region 9 with fail
  clear cx fx cy HQwb2 HBwb2
  generalize World.setCell wb2 ⟨w4.heap.size, 14, none⟩ (.int .i64 Q.history) = wb3 at *
  have HQwb3 := Lib.hid HZ0.out
  have HBwb3 := Lib.hid HZ1.out
  clear HZ0 HZ1
  have cx := HQwb3.out.c 15 _ rfl
  have fx := HQwb3.out.f 15
  have cy := (HBwb3.out.cell (p := ⟨w.heap.size + 1, 15, none⟩) HLt.out).trans (HQc.out 15 _ rfl)
  obtain ⟨X4, hX4⟩ : ∃ x : Prof, x = { X3 with remove := Q.remove } := ⟨_, rfl⟩
  have HX4 := Lib.hid hX4
  have HZ0 : Hid (PBox w4.heap.size (X4.cs A c) (World.setCell wb3 ⟨w4.heap.size, 15, none⟩ (.int .i64 Q.remove))) := Lib.hid (by rw [hX4]; exact HQwb3.out.set 15 (.int .i64 Q.remove))
  have HZ1 := Lib.hid (HBwb3.out.setCell (p := ⟨w4.heap.size, 15, none⟩) (Nat.le_refl _) (.int .i64 Q.remove))
  clear hX4
  go_upto_region 10 with fail
  clear cx fx cy HQwb3 HBwb3
  generalize World.setCell wb3 ⟨w4.heap.size, 15, none⟩ (.int .i64 Q.remove) = wb4 at *
  have HQwb4 := Lib.hid HZ0.out
  have HBwb4 := Lib.hid HZ1.out
  clear HZ0 HZ1
  have cx := HQwb4.out.c 16 _ rfl
  have fx := HQwb4.out.f 16
  have cy := (HBwb4.out.cell (p := ⟨w.heap.size + 1, 16, none⟩) HLt.out).trans (HQc.out 16 _ rfl)
  obtain ⟨X5, hX5⟩ : ∃ x : Prof, x = { X4 with level := Q.level } := ⟨_, rfl⟩
  have HX5 := Lib.hid hX5
  have HZ0 : Hid (PBox w4.heap.size (X5.cs A c) (World.setCell wb4 ⟨w4.heap.size, 16, none⟩ (.int .i64 Q.level))) := Lib.hid (by rw [hX5]; exact HQwb4.out.set 16 (.int .i64 Q.level))
  have HZ1 := Lib.hid (HBwb4.out.setCell (p := ⟨w4.heap.size, 16, none⟩) (Nat.le_refl _) (.int .i64 Q.level))
  clear hX5
  go_upto_region 11 with fail
  clear cx fx cy HQwb4 HBwb4
  generalize World.setCell wb4 ⟨w4.heap.size, 16, none⟩ (.int .i64 Q.level) = wb5 at *
  have HQwb5 := Lib.hid HZ0.out
  have HBwb5 := Lib.hid HZ1.out
  clear HZ0 HZ1
  have cx := HQwb5.out.c 17 _ rfl
  have fx := HQwb5.out.f 17
  have cy := (HBwb5.out.cell (p := ⟨w.heap.size + 1, 17, none⟩) HLt.out).trans (HQc.out 17 _ rfl)
  obtain ⟨X6, hX6⟩ : ∃ x : Prof, x = { X5 with batch := Q.batch } := ⟨_, rfl⟩
  have HX6 := Lib.hid hX6
  have HZ0 : Hid (PBox w4.heap.size (X6.cs A c) (World.setCell wb5 ⟨w4.heap.size, 17, none⟩ (.bool Q.batch))) := Lib.hid (by rw [hX6]; exact HQwb5.out.set 17 (.bool Q.batch))
  have HZ1 := Lib.hid (HBwb5.out.setCell (p := ⟨w4.heap.size, 17, none⟩) (Nat.le_refl _) (.bool Q.batch))
  clear hX6
  go_upto_region 12 with fail
  clear cx fx cy HQwb5 HBwb5
  generalize World.setCell wb5 ⟨w4.heap.size, 17, none⟩ (.bool Q.batch) = wb6 at *
  have HQwb6 := Lib.hid HZ0.out
  have HBwb6 := Lib.hid HZ1.out
  clear HZ0 HZ1
  have cx := HQwb6.out.c 18 _ rfl
  have fx := HQwb6.out.f 18
  have cy := (HBwb6.out.cell (p := ⟨w.heap.size + 1, 18, none⟩) HLt.out).trans (HQc.out 18 _ rfl)
  obtain ⟨X7, hX7⟩ : ∃ x : Prof, x = { X6 with rate := Q.rate } := ⟨_, rfl⟩
  have HX7 := Lib.hid hX7
  have HZ0 : Hid (PBox w4.heap.size (X7.cs A c) (World.setCell wb6 ⟨w4.heap.size, 18, none⟩ (.int .i64 Q.rate))) := Lib.hid (by rw [hX7]; exact HQwb6.out.set 18 (.int .i64 Q.rate))
  have HZ1 := Lib.hid (HBwb6.out.setCell (p := ⟨w4.heap.size, 18, none⟩) (Nat.le_refl _) (.int .i64 Q.rate))
  clear hX7
  go_upto_region 13 with fail
  clear cx fx cy HQwb6 HBwb6
  generalize World.setCell wb6 ⟨w4.heap.size, 18, none⟩ (.int .i64 Q.rate) = wb7 at *
  have HQwb7 := Lib.hid HZ0.out
  have HBwb7 := Lib.hid HZ1.out
  clear HZ0 HZ1
  have cx := HQwb7.out.c 19 _ rfl
  have fx := HQwb7.out.f 19
  have cy := (HBwb7.out.cell (p := ⟨w.heap.size + 1, 19, none⟩) HLt.out).trans (HQc.out 19 _ rfl)
  obtain ⟨X8, hX8⟩ : ∃ x : Prof, x = { X7 with down := Q.down } := ⟨_, rfl⟩
  have HX8 := Lib.hid hX8
  have HZ0 : Hid (PBox w4.heap.size (X8.cs A c) (World.setCell wb7 ⟨w4.heap.size, 19, none⟩ (.int .i64 Q.down))) := Lib.hid (by rw [hX8]; exact HQwb7.out.set 19 (.int .i64 Q.down))
  have HZ1 := Lib.hid (HBwb7.out.setCell (p := ⟨w4.heap.size, 19, none⟩) (Nat.le_refl _) (.int .i64 Q.down))
  clear hX8
  go_upto_region 14 with fail
  clear cx fx cy HQwb7 HBwb7
  generalize World.setCell wb7 ⟨w4.heap.size, 19, none⟩ (.int .i64 Q.down) = wb8 at *
  have HQwb8 := Lib.hid HZ0.out
  have HBwb8 := Lib.hid HZ1.out
  clear HZ0 HZ1
  have cx := HQwb8.out.c 20 _ rfl
  have fx := HQwb8.out.f 20
  have cy := (HBwb8.out.cell (p := ⟨w.heap.size + 1, 20, none⟩) HLt.out).trans (HQc.out 20 _ rfl)
  obtain ⟨X9, hX9⟩ : ∃ x : Prof, x = { X8 with window := Q.window } := ⟨_, rfl⟩
  have HX9 := Lib.hid hX9
  have HZ0 : Hid (PBox w4.heap.size (X9.cs A c) (World.setCell wb8 ⟨w4.heap.size, 20, none⟩ (.int .i64 Q.window))) := Lib.hid (by rw [hX9]; exact HQwb8.out.set 20 (.int .i64 Q.window))
  have HZ1 := Lib.hid (HBwb8.out.setCell (p := ⟨w4.heap.size, 20, none⟩) (Nat.le_refl _) (.int .i64 Q.window))
  clear hX9
  go_upto_region 15 with fail
  clear cx fx cy HQwb8 HBwb8
  generalize World.setCell wb8 ⟨w4.heap.size, 20, none⟩ (.int .i64 Q.window) = wb9 at *
  have HQwb9 := Lib.hid HZ0.out
  have HBwb9 := Lib.hid HZ1.out
  clear HZ0 HZ1
  have cx := HQwb9.out.c 21 _ rfl
  have fx := HQwb9.out.f 21
  have cy := (HBwb9.out.cell (p := ⟨w.heap.size + 1, 21, none⟩) HLt.out).trans (HQc.out 21 _ rfl)
  obtain ⟨X10, hX10⟩ : ∃ x : Prof, x = { X9 with keep := Q.keep } := ⟨_, rfl⟩
  have HX10 := Lib.hid hX10
  have HZ0 : Hid (PBox w4.heap.size (X10.cs A c) (World.setCell wb9 ⟨w4.heap.size, 21, none⟩ (.int .i64 Q.keep))) := Lib.hid (by rw [hX10]; exact HQwb9.out.set 21 (.int .i64 Q.keep))
  have HZ1 := Lib.hid (HBwb9.out.setCell (p := ⟨w4.heap.size, 21, none⟩) (Nat.le_refl _) (.int .i64 Q.keep))
  clear hX10
  go_upto_region 16 with fail
  clear cx fx cy HQwb9 HBwb9
  generalize World.setCell wb9 ⟨w4.heap.size, 21, none⟩ (.int .i64 Q.keep) = wb10 at *
  have HQwb10 := Lib.hid HZ0.out
  have HBwb10 := Lib.hid HZ1.out
  clear HZ0 HZ1
  have cx := HQwb10.out.c 12 _ rfl
  have fx := HQwb10.out.f 12
  have cy := (HBwb10.out.cell (p := ⟨w.heap.size + 1, 12, none⟩) HLt.out).trans (HQc.out 12 _ rfl)
  obtain ⟨X11, hX11⟩ : ∃ x : Prof, x = { X10 with types := Q.types } := ⟨_, rfl⟩
  have HX11 := Lib.hid hX11
  have HZ0 : Hid (PBox w4.heap.size (X11.cs A2 d) (World.setCell wb10 ⟨w4.heap.size, 12, none⟩ (.slice A2 Q.types.length d))) := Lib.hid (by rw [hX11]; exact HQwb10.out.set 12 (.slice A2 Q.types.length d))
  have HZ1 := Lib.hid (HBwb10.out.setCell (p := ⟨w4.heap.size, 12, none⟩) (Nat.le_refl _) (.slice A2 Q.types.length d))
  clear hX11
  go_upto_region 17 with fail
  clear cx fx cy HQwb10 HBwb10
  generalize World.setCell wb10 ⟨w4.heap.size, 12, none⟩ (.slice A2 Q.types.length d) = wb11 at *
  have HQwb11 := Lib.hid HZ0.out
  have HBwb11 := Lib.hid HZ1.out
  clear HZ0 HZ1
  have cx := HQwb11.out.c 11 _ rfl
  have fx := HQwb11.out.f 11
  have cy := (HBwb11.out.cell (p := ⟨w.heap.size + 1, 11, none⟩) HLt.out).trans (HQc.out 11 _ rfl)
  obtain ⟨X12, hX12⟩ : ∃ x : Prof, x = { X11 with bytes := Q.bytes } := ⟨_, rfl⟩
  have HX12 := Lib.hid hX12
  have HZ0 : Hid (PBox w4.heap.size (X12.cs A2 d) (World.setCell wb11 ⟨w4.heap.size, 11, none⟩ (.int .i64 Q.bytes))) := Lib.hid (by rw [hX12]; exact HQwb11.out.set 11 (.int .i64 Q.bytes))
  have HZ1 := Lib.hid (HBwb11.out.setCell (p := ⟨w4.heap.size, 11, none⟩) (Nat.le_refl _) (.int .i64 Q.bytes))
  clear hX12
  go_upto_region 18 with fail
  clear cx fx cy HQwb11 HBwb11
  generalize World.setCell wb11 ⟨w4.heap.size, 11, none⟩ (.int .i64 Q.bytes) = w5 at *
  have HQw5 := Lib.hid HZ0.out
  have HBw5 := Lib.hid HZ1.out
  clear HZ0 HZ1
  obtain ⟨X, hX⟩ : ∃ x, x = xrule P Q := ⟨_, rfl⟩
  have HX := Lib.hid hX
  have hqX : PBox w4.heap.size (X.cs A2 d) w5 := by
    have h := HQw5.out
    rw [HX12.out, HX11.out, HX10.out, HX9.out, HX8.out, HX7.out, HX6.out, HX5.out, HX4.out, HX3.out, HX2.out, HX1.out] at h
    rw [hX]
    exact h
  have HF5 := Lib.hid (HF4.out.made HBw5.out hqX (show ProfOk w4 w4.heap.size A2 X by rw [hX]; exact ⟨HQ4.out.ok.rd, HQ4.out.ok.nm, HQ4.out.ok.len, HQ4.out.ok.ts⟩) (show X.types.length ≤ d by rw [hX]; exact hd))
  have HS5 := Lib.hid (HS4.out.trans (HBw5.out.mono HS4.out.size))
  have HW5 := Lib.hid (HW4.out.now HBw5.out)
  clear HQw5 hqX hX HBw5 HQ4 HQc HLt HF4 HS4 HW4
  go_wp2_with (first
      | ((with_reducible show wpList _ _ _ (Oper.mk _ (Op.load 24 (Operand.tmp 8)) _ _ _ _ :: _) _ _); refine wpList_load_w rfl 24 (.tmp 8) rfl (w4.heap.size) 0 rfl ((X).cs (A2) (d)).toList _ ((HF5).out (w4.heap.size, X, A2, d) (by simp)).rng Tryd.underlying24 rfl (by kernel_rfl) ?_)
      | fail)
  refine (pCompile_any X A2 d _ (HF5.out (w4.heap.size, X, A2, d) (by simp)).ok (by rw [HX.out]; exact hd)).mono ?_
  rintro e w6 ⟨hb6, B2, d2, rfl, hw2⟩
  have HW6 := Lib.hid hw2
  have HW6a := Lib.hid (HW5.out.now hb6)
  clear hw2 HW5
  have HF6 := Lib.hid (HF5.out.now hb6)
  have HS6 := Lib.hid (HS5.out.trans (hb6.mono HS5.out.size))
  clear hb6 HF5 HS5
  cases hcp : (profCheck P != 0) with
  | true =>
    go_wp2_with fail
    go_ret
    exact ⟨rfl, HS6.out⟩
  | false =>
  have hP0 : profCheck P = 0 := by simpa using hcp
  have HP0 := Lib.hid hP0
  have HRt := Lib.hid (check_right hP0)
  clear hP0
  go_wp2_with (first
      | ((with_reducible show wpList _ _ _ (Oper.mk _ (Op.load 24 (Operand.tmp 2)) _ _ _ _ :: _) _ _); refine wpList_load_w rfl 24 (.tmp 2) rfl (w.heap.size) 0 rfl ((P).cs (A) (c)).toList _ ((HF6).out (w.heap.size, P, A, c) (by simp)).rng Tryd.underlying24 rfl (by kernel_rfl) ?_)
      | fail)
  refine (print_any P A c B _ (HF6.out (w.heap.size, P, A, c) (by simp)).ok hc (HV.out.now HS6.out)).mono ?_
  rintro e w7 ⟨rfl, hb7⟩
  rw [HRt.out]
  have HW7 := Lib.hid (HW6.out.now hb7)
  have HW7a := Lib.hid (HW6a.out.now hb7)
  clear HW6 HW6a
  have HF7 := Lib.hid (HF6.out.now hb7)
  have HS7 := Lib.hid (HS6.out.trans (hb7.mono HS6.out.size))
  clear hb7 HF6 HS6
  simp only [if_true]
  obtain ⟨xs, hxs⟩ : ∃ x, x = printF P := ⟨_, rfl⟩
  rw [← hxs]
  have hlxs : xs.length ≤ 1617 := by rw [hxs]; exact print_len (rt_of HRt.out)
  have HPP : Hid (parseL xs = (P, 0, 0)) := Lib.hid (by rw [hxs]; exact parse_print (rt_of HRt.out))
  clear hxs
  go_wp2_with fail
  refine (parse_any xs _ (by omega)).mono ?_
  rintro e w8 ⟨hb8, A8, c8, rfl, hok8, hA8, hcap8⟩
  rw [HPP.out] at hok8 hcap8 ⊢
  dsimp only at hok8 hcap8 ⊢
  have HW8 := Lib.hid (HW7.out.now hb8)
  have HW8a := Lib.hid (HW7a.out.now hb8)
  have HOk8 := Lib.hid hok8
  clear hA8 hok8 HW7 HW7a
  have HF8 := Lib.hid (HF7.out.now hb8)
  have HS8 := Lib.hid (HS7.out.trans (hb8.mono HS7.out.size))
  clear hb8 HF7 HS7
  have HTh8 := Lib.hid (zero_there w8)
  go_upto_region 23 with (first
      | ((with_reducible show wpList _ _ _ (Oper.mk _ (Op.store 24 (Operand.tmp 13) _) _ _ _ _ :: _) _ _); refine wpList_store_box rfl 24 _ _ rfl w8.heap.size (P.cs A8 c8) ?x1 ?x2 HTh8.out (by kernel_rfl) (by simp [Value.oneCell']) ?_; (case x1 => rfl); (case x2 => rfl); intro ws8 hr ht hg; (obtain ⟨hpa, hbb⟩ := PA.made2 rfl HOk8.out hcap8 hr hg); have HF9 := Lib.hid (AllPA.cons hpa (HF8.out.now hbb)); have HS9 := Lib.hid (HS8.out.trans (hbb.mono HS8.out.size)); have HW9 := Lib.hid (HW8.out.now hbb); have HW9a := Lib.hid (HW8a.out.now hbb); clear hr ht hg hpa hbb)
      | fail)
  clear HTh8 HOk8 HF8 HS8 HW8 HW8a
  go_wp2_with (first
      | ((with_reducible show wpList _ _ _ (Oper.mk _ (Op.load 24 (Operand.tmp 13)) _ _ _ _ :: _) _ _); refine wpList_load_w rfl 24 (.tmp 13) rfl (w8.heap.size) 0 rfl ((P).cs (A8) (c8)).toList _ ((HF9).out (w8.heap.size, P, A8, c8) (by simp)).rng Tryd.underlying24 rfl (by kernel_rfl) ?_)
      | fail)
  refine (pCompile_any P A8 c8 _ (HF9.out (w8.heap.size, P, A8, c8) (by simp)).ok hcap8).mono ?_
  rintro e w10 ⟨hb10, B3, d3, rfl, hw3⟩
  have HW10 := Lib.hid hw3
  have HW10b := Lib.hid (HW9.out.now hb10)
  have HW10a := Lib.hid (HW9a.out.now hb10)
  have HS10 := Lib.hid (HS9.out.trans (hb10.mono HS9.out.size))
  clear hw3 hb10 HW9 HW9a HF9 HS9
  rw [HP0.out]
  have HLw := Lib.hid (ways_len P)
  cases hcx : (profCheck X != 0) with
  | true =>
    have hcx2 : (profCheck X == 0) = false := by simpa using hcx
    clear HW10b
    generalize waysOf X = wx at *
    generalize waysOf P = wp at *
    obtain ⟨n, hn⟩ : ∃ n, n = wp.length := ⟨_, rfl⟩
    rw [← hn]
    have HN := Lib.hid hn
    clear hn
    go_wp2_with fail
    refine (same_refl wp n HN.out (by rw [HN.out]; exact HLw.out) B1 B3 _ _ _ HW10a.out HW10.out).mono ?_
    rintro e w11 ⟨rfl, hb11⟩
    have HS11 := Lib.hid (HS10.out.trans (hb11.mono HS10.out.size))
    clear hb11
    go_wp2_with fail
    go_ret
    exact ⟨rfl, HS11.out⟩
  | false =>
    have hX0 : profCheck X = 0 := by simpa using hcx
    have hXe : waysOf X = waysOf P := by rw [HX.out] at hX0 ⊢; exact ways_x HP0.out hX0
    rw [hXe] at HW10b ⊢
    clear hXe hX0
    generalize waysOf P = wp at *
    obtain ⟨n, hn⟩ : ∃ n, n = wp.length := ⟨_, rfl⟩
    rw [← hn]
    have HN := Lib.hid hn
    clear hn
    go_wp2_with fail
    refine (same_refl wp n HN.out (by rw [HN.out]; exact HLw.out) B1 B2 _ _ _ HW10a.out HW10b.out).mono ?_
    rintro e w11 ⟨rfl, hb11⟩
    have HS11 := Lib.hid (HS10.out.trans (hb11.mono HS10.out.size))
    have HW11 := Lib.hid (HW10.out.now hb11)
    have HW11a := Lib.hid (HW10a.out.now hb11)
    clear hb11 HW10 HW10a HW10b HS10
    go_wp2_with fail
    refine (same_refl wp n HN.out (by rw [HN.out]; exact HLw.out) B1 B3 _ _ _ HW11a.out HW11.out).mono ?_
    rintro e w12 ⟨rfl, hb12⟩
    have HS12 := Lib.hid (HS11.out.trans (hb12.mono HS11.out.size))
    clear hb12
    go_wp2_with fail
    go_ret
    exact ⟨rfl, HS12.out⟩
end Go.Proofs.YtnaejabgkfhlbaaDoor
