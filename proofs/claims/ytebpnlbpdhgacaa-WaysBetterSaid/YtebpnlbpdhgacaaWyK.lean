/- Contract of ways.Compile. -/
import Derived.Test.YtebpnlbpdhgacaaWyJ
import Derived.Deep.RegionHeld3
namespace Go.Proofs.Ytebpnlbpdhgacaa
open Go.RowKit

theorem slW : SlTy Try.prog 27 35 2 16 := by
  obtain ⟨i, hi, h0, h1, h2⟩ := info_parts (show (Try.prog.info? 35).map (fun i => (i.zero, i.size, i.bytes)) = some (some (.agg #[.int .i64 0, .int .i64 0]), 2, 16) by kernel_rfl)
  exact ⟨Try.underlying27, ⟨i, _, hi, h0, h1, h2, rfl⟩, by decide, by decide⟩

theorem check_files (p : Prof) (h : profCheck p = 0) : p.files ≤ 4 := by
  unfold profCheck at h
  split at h
  · split at h
    · cases h
    · rename_i h2
      simp [offB, boundsB, inR] at h2
      omega
  · cases h
/-- What is read of the profile's box b and of the three ways behind w1, in every later world. -/
theorem waysFacts (p : Prof) (w1 W3 : World) (b : Nat) (hs : b < w1.heap.size) (hW3 : W3 = ((w1.alloc (.cells #[.int .i64 0, .int .i64 0] 35)).alloc (.cells #[.int .i64 2, .int .i64 2] 35)).alloc (.cells #[.int .i64 3, .int .i64 2] 35))
    (f1 : w1.cell? ⟨b, 1, none⟩ = some (.int .i64 p.edit)) (f2 : w1.cell? ⟨b, 2, none⟩ = some (.int .i64 p.within_)) (f3 : w1.cell? ⟨b, 3, none⟩ = some (.int .i64 p.delete)) (f4 : w1.cell? ⟨b, 4, none⟩ = some (.bool p.react)) (f5 : w1.cell? ⟨b, 5, none⟩ = some (.int .i64 p.thread))
    (f6 : w1.cell? ⟨b, 6, none⟩ = some (.bool p.quote)) (f7 : w1.cell? ⟨b, 7, none⟩ = some (.bool p.mention)) (f8 : w1.cell? ⟨b, 8, none⟩ = some (.int .i64 p.size)) (f9 : w1.cell? ⟨b, 9, none⟩ = some (.int .i64 p.parts)) (f10 : w1.cell? ⟨b, 10, none⟩ = some (.int .i64 p.files)) :
    ∀ wx, Below W3.heap.size W3 wx → wx.cell? ⟨b, 1, none⟩ = some (.int .i64 p.edit) ∧ wx.cell? ⟨b, 2, none⟩ = some (.int .i64 p.within_) ∧ wx.cell? ⟨b, 3, none⟩ = some (.int .i64 p.delete) ∧ wx.cell? ⟨b, 4, none⟩ = some (.bool p.react) ∧ wx.cell? ⟨b, 5, none⟩ = some (.int .i64 p.thread)
      ∧ wx.cell? ⟨b, 6, none⟩ = some (.bool p.quote) ∧ wx.cell? ⟨b, 7, none⟩ = some (.bool p.mention) ∧ wx.cell? ⟨b, 8, none⟩ = some (.int .i64 p.size) ∧ wx.cell? ⟨b, 9, none⟩ = some (.int .i64 p.parts) ∧ wx.cell? ⟨b, 10, none⟩ = some (.int .i64 p.files)
      ∧ wx.cell? ⟨w1.heap.size, 0, none⟩ = some (.int .i64 0) ∧ wx.cell? ⟨w1.heap.size, 1, none⟩ = some (.int .i64 0) ∧ wx.cell? ⟨w1.heap.size + 1, 0, none⟩ = some (.int .i64 2) ∧ wx.cell? ⟨w1.heap.size + 1, 1, none⟩ = some (.int .i64 2) ∧ wx.cell? ⟨w1.heap.size + 1 + 1, 0, none⟩ = some (.int .i64 3) ∧ wx.cell? ⟨w1.heap.size + 1 + 1, 1, none⟩ = some (.int .i64 2) := by
  intro wx hb
  have hz : W3.heap.size = w1.heap.size + 3 := by rw [hW3]; simp
  have k : ∀ a j, a < w1.heap.size + 3 → wx.cell? ⟨a, j, none⟩ = W3.cell? ⟨a, j, none⟩ := fun a j h => hb.cell (p := ⟨a, j, none⟩) (by simp only; omega)
  have o : ∀ j, wx.cell? ⟨b, j, none⟩ = w1.cell? ⟨b, j, none⟩ := fun j => by
    rw [k b j (by omega), hW3, cell_old _ _ _ _ (by simp; omega), cell_old _ _ _ _ (by simp; omega), cell_old _ _ _ _ hs]
  refine ⟨(o 1).trans f1, (o 2).trans f2, (o 3).trans f3, (o 4).trans f4, (o 5).trans f5, (o 6).trans f6, (o 7).trans f7, (o 8).trans f8, (o 9).trans f9, (o 10).trans f10, ?_, ?_, ?_, ?_, ?_, ?_⟩
  all_goals rw [k _ _ (by omega), hW3]
  · rw [cell_old _ _ _ _ (by simp; omega), cell_old _ _ _ _ (by simp)]; exact boxCell _ _ _ (Below.refl _ _) _ rfl 0 _ rfl
  · rw [cell_old _ _ _ _ (by simp; omega), cell_old _ _ _ _ (by simp)]; exact boxCell _ _ _ (Below.refl _ _) _ rfl 1 _ rfl
  · rw [cell_old _ _ _ _ (by simp)]; exact boxCell _ _ _ (Below.refl _ _) _ (by simp) 0 _ rfl
  · rw [cell_old _ _ _ _ (by simp)]; exact boxCell _ _ _ (Below.refl _ _) _ (by simp) 1 _ rfl
  · exact boxCell _ _ _ (Below.refl _ _) _ (by simp) 0 _ rfl
  · exact boxCell _ _ _ (Below.refl _ _) _ (by simp) 1 _ rfl

theorem ownOfMade {w' : World} {base g : Nat} {t : TypeId} (h : w'.ownsRow base t 2 (.slice (some ⟨g, 0, none⟩) 9 9) 9 (madeCells (Value.agg #[.int .i64 0, .int .i64 0]).cells (9 * 2)).toList) : OwnL w' base t 2 wayC (some ⟨g, 0, none⟩) 9 (List.replicate 9 ((0 : Int), (0 : Int))) := by
  unfold OwnL
  rw [show (madeCells (Value.agg #[.int .i64 0, .int .i64 0]).cells (9 * 2)).toList = (List.replicate 9 ((0 : Int), (0 : Int))).flatMap wayC from by kernel_rfl] at h
  exact h
theorem react_first (p : Prof) (pb : Bool) (h1 : 1 ≤ p.parts) (hp : decide (1 < p.parts) = pb) (hr : p.react = true) : firstW [(!pb, 0, 0), (true, 0, 1), (true, 3, 2)] = reactW p := by
  subst hp
  by_cases h : p.parts = 1
  · simp [firstW, reactW, hr, h]
  · have : 1 < p.parts := by omega
    simp [firstW, reactW, hr, h, this]
theorem file_first (p : Prof) (h : p.files ≤ 4) : firstW [(p.files == 4, 0, 0), (decide (0 < p.files), 4, 1), (true, 2, 2)] = fileW p := by
  by_cases h4 : p.files = 4
  · simp [firstW, fileW, h4]
  · by_cases h0 : 0 < p.files
    · simp [firstW, fileW, h4, h0, show ¬ 4 ≤ p.files by omega, show 1 ≤ p.files by omega]
    · simp [firstW, fileW, h4, h0, show ¬ 4 ≤ p.files by omega, show ¬ 1 ≤ p.files by omega]
set_option maxRecDepth 100000 in
set_option maxHeartbeats 4000000 in
theorem pCompile_any (p : Prof) (A : Option Addr) (c : Nat) (w : World) (hr : ProfOk w w.heap.size A p) (hcap : p.types.length ≤ c) : Calls Try.prog 8 #[p.v A c] w (WaysOut p w) := by
  have hb0 : Below w.heap.size w (w.alloc (.cells (p.cs A c) 24)) := (Below.refl _ _).alloc (Nat.le_refl _) _
  have hr0 := hr.now hb0
  have HB := Lib.hid hb0
  clear hb0
  have HRA := Lib.hid (boxRange w (p.cs A c) 24 (Below.refl _ _))
  go_enter Try.func8, Try.ntmps8
  go_wp2_with ((with_reducible show wpList _ _ _ (Oper.mk _ (Op.load 24 _) _ _ _ _ :: _) _ _); refine wpList_load_g rfl 24 (.tmp 1) rfl w.heap.size 0 rfl (p.cs A c).toList _ HRA.out Try.underlying24 rfl (by kernel_rfl) ?_)
  refine (pCheck_any p A c _ hr0 hcap).mono ?_
  rintro e w1 ⟨rfl, hb1⟩
  have hcc := boxCells w _ _ hb1
  have HB1 := Lib.hid (HB.out.trans (hb1.mono HB.out.size))
  have hs1 : w.heap.size < w1.heap.size := by have := hb1.size; simp at this; omega
  clear hb1 hr0 HRA
  generalize hpc : profCheck p = pc
  have HPC := Lib.hid hpc
  clear hpc
  by_cases h0 : pc = 0
  · subst h0
    obtain ⟨b1, b2, b3, b4⟩ := check_bounds p HPC.out
    have f1 := hcc 1 _ rfl
    have f2 := hcc 2 _ rfl
    have f9 := hcc 9 _ rfl
    have f3 := hcc 3 _ rfl
    have f4 := hcc 4 _ rfl
    have f5 := hcc 5 _ rfl
    have f6 := hcc 6 _ rfl
    have f7 := hcc 7 _ rfl
    have f8 := hcc 8 _ rfl
    have f10 := hcc 10 _ rfl
    clear hcc
    have hfl := check_files p HPC.out
    have hm0 : 0 ≤ p.size * p.parts := Int.mul_nonneg (by omega) (by omega)
    have hm1 : p.size * p.parts ≤ 80000 := Int.le_trans (Int.mul_le_mul b2 b4 (by omega) (by omega)) (by omega)
    obtain ⟨W3, hW3⟩ : ∃ W3, W3 = ((w1.alloc (.cells #[.int .i64 0, .int .i64 0] 35)).alloc (.cells #[.int .i64 2, .int .i64 2] 35)).alloc (.cells #[.int .i64 3, .int .i64 2] 35) := ⟨_, rfl⟩
    have HF := waysFacts p w1 W3 w.heap.size hs1 hW3 f1 f2 f3 f4 f5 f6 f7 f8 f9 f10
    have hz3 : W3.heap.size = w1.heap.size + 3 := by rw [hW3]; simp
    have HB3 : Hid (Below w.heap.size w W3) := Lib.hid (HB1.out.trans (by rw [hW3]; exact (((((Below.refl w1.heap.size w1).alloc (by simp) _).alloc (by simp) _).alloc (by simp; omega) _).mono HB1.out.size)))
    clear f1 f2 f3 f4 f5 f6 f7 f8 f9 f10
    go_upto_region 5 with fail
    rw [← hW3]
    clear hW3
    have HFF := Lib.hid HF
    have HZ := Lib.hid hz3
    clear hz3
    obtain ⟨f1, f2, f3, f4, f5, f6, f7, f8, f9, f10, s0, s1, t0, t1, n0, n1⟩ := HF W3 (Below.refl _ _)
    clear f3 f4 f5 f6 f7 f8 f10 s0 s1 t0 t1 n0 n1 HF
    go_cut [8, 9] (fun v u wx => v = .bool (decide (1 < p.parts)) ∧ u = .bool (editsB p) ∧ ∃ n, wx = W3.drewN n)
    case first =>
      by_cases h1 : p.edit = 2
      · have e1 : (p.edit == 2) = true := by simpa using h1
        have HE : Hid (editsB p = (p.within_ == 0)) := Lib.hid (by simp [editsB, h1])
        clear h1
        go_quiet (fail)
        go_wp2
        go_meet
        exact ⟨rfl, by rw [HE.out], _, rfl⟩
      · have e1 : (p.edit == 2) = false := by simpa using h1
        have HE : Hid (editsB p = false) := Lib.hid (by simp [editsB, h1])
        clear h1
        go_quiet (fail)
        go_wp2
        go_meet
        exact ⟨rfl, by rw [HE.out], _, rfl⟩
    case rest =>
      obtain ⟨rfl, rfl, n, hW4⟩ := hcut
      obtain ⟨wx, hwx⟩ : ∃ wx, wx = W3.drewN n := ⟨_, rfl⟩
      have hbl : Below W3.heap.size W3 wx := by rw [hwx]; exact below_drewN (Below.refl _ _) _
      subst hW4
      rw [← hwx]
      clear hwx f1 f2 f9
      generalize hpb : decide (1 < p.parts) = pb
      generalize heb : editsB p = eb
      have HPB := Lib.hid hpb
      have HEB := Lib.hid heb
      clear hpb heb
      obtain ⟨i0, hi0, z0, z1, z2⟩ := info_parts (show (Try.prog.info? 35).map (fun i => (i.zero, i.size, i.bytes)) = some (some (.agg #[.int .i64 0, .int .i64 0]), 2, 16) by kernel_rfl)
      have hbase := hbl.size
      go_upto_region 8 with (first
        | (at_make; refine wpList_make_full _ rfl _ _ _ rfl W3.heap.size 35 i0 (.agg #[.int .i64 0, .int .i64 0]) 2 slW.ht hi0 z0 z1 _ _ _ _ 9 rfl rfl rfl rfl (by rw [z2]; decide) (by decide) (hbl.size) ?_; intro w' hmk hg; have hownA := ownOfMade hmk; have hblA := hbl.grown hg hbase (fun k hk => by cases hk); clear hmk hg hbl hi0; obtain ⟨f1, f2, f3, f4, f5, f6, f7, f8, f9, f10, s0, s1, t0, t1, n0, n1⟩ := HFF.out _ hblA)
        | ((with_reducible show wpList _ _ _ (Oper.mk _ (Op.store 35 _ _) _ _ _ _ :: _) _ _); refine wp_store_l rfl _ _ rfl slW wayLay hownA 0 (by simp) _ rfl rfl (0, 0) _ rfl rfl ?_; clear f1 f2 f3 f4 f5 f6 f7 f8 f9 f10 s0 s1 t0 t1 n0 n1; intro w3 hown hg; have hbl := hblA.grown hg hblA.size (fun k hk => by cases hk; exact hbase); clear hownA hblA hg; obtain ⟨f1, f2, f3, f4, f5, f6, f7, f8, f9, f10, s0, s1, t0, t1, n0, n1⟩ := HFF.out _ hbl))
      dsimp only [Act.put]
      go_cut [53] (fun v w' => OwnL w' W3.heap.size 35 2 wayC (some ⟨wx.heap.size, 0, none⟩) 9 [(0, 0), longW p, (0, 0), (0, 0), (0, 0), (0, 0), (0, 0), (0, 0), (0, 0)] ∧ Below W3.heap.size W3 w')
      case first =>
        cases pb
        · go_wp2_with fail
          have HW := Lib.hid (show firstW [(false, 1, 1), (false, 4, 1), (true, 4, 0)] = longW p by simp [firstW, longW, show ¬ 2 ≤ p.parts by have := HPB.out; simp at this; omega])
          refine (first_any [(false, 1, 1), (false, 4, 1), (true, 4, 0)] _ (by rfl) (by decide) _ _ _ (RdL.block choLay _ [(false, 1, 1), (false, 4, 1), (true, 4, 0)] _ _ (by rfl) _ (by rfl))).mono ?_
          rw [HW.out]
          rintro e w2 ⟨rfl, hb2⟩
          have hownA := (hown.alloc _).below hb2
          have hblA := (hbl.alloc hbl.size _).trans (hb2.mono (Nat.le_trans hbl.size (by simp)))
          clear hown hbl hb2 HW
          go_wp2_with ((with_reducible show wpList _ _ _ (Oper.mk _ (Op.store 35 _ _) _ _ _ _ :: _) _ _); refine wp_store_l rfl _ _ rfl slW wayLay hownA 1 (by simp) _ rfl rfl (longW p) _ rfl rfl ?_; clear f1 f2 f3 f4 f5 f6 f7 f8 f9 f10 s0 s1 t0 t1 n0 n1; intro w3 hown hg; have hbl := hblA.grown hg hblA.size (fun k hk => by cases hk; exact hbase); clear hownA hblA hg; obtain ⟨f1, f2, f3, f4, f5, f6, f7, f8, f9, f10, s0, s1, t0, t1, n0, n1⟩ := HFF.out _ hbl)
          go_meet
          exact ⟨hown, hbl⟩
        · go_wp2_with fail
          have HW := Lib.hid (show firstW [(decide (4400 ≤ p.size * p.parts), 1, 1), (true, 4, 1), (true, 4, 0)] = longW p by simp [firstW, longW, show 2 ≤ p.parts by have := HPB.out; simp at this; omega])
          refine (first_any [(decide (4400 ≤ p.size * p.parts), 1, 1), (true, 4, 1), (true, 4, 0)] _ (by rfl) (by decide) _ _ _ (RdL.block choLay _ [(decide (4400 ≤ p.size * p.parts), 1, 1), (true, 4, 1), (true, 4, 0)] _ _ (by rfl) _ (by rfl))).mono ?_
          rw [HW.out]
          rintro e w2 ⟨rfl, hb2⟩
          have hownA := (hown.alloc _).below hb2
          have hblA := (hbl.alloc hbl.size _).trans (hb2.mono (Nat.le_trans hbl.size (by simp)))
          clear hown hbl hb2 HW
          go_wp2_with ((with_reducible show wpList _ _ _ (Oper.mk _ (Op.store 35 _ _) _ _ _ _ :: _) _ _); refine wp_store_l rfl _ _ rfl slW wayLay hownA 1 (by simp) _ rfl rfl (longW p) _ rfl rfl ?_; clear f1 f2 f3 f4 f5 f6 f7 f8 f9 f10 s0 s1 t0 t1 n0 n1; intro w3 hown hg; have hbl := hblA.grown hg hblA.size (fun k hk => by cases hk; exact hbase); clear hownA hblA hg; obtain ⟨f1, f2, f3, f4, f5, f6, f7, f8, f9, f10, s0, s1, t0, t1, n0, n1⟩ := HFF.out _ hbl)
          go_meet
          exact ⟨hown, hbl⟩
      case rest =>
        obtain ⟨hown, hbl⟩ := hcut
        obtain ⟨f1, f2, f3, f4, f5, f6, f7, f8, f9, f10, s0, s1, t0, t1, n0, n1⟩ := HFF.out _ hbl
        go_wp2_with fail
        have HW := Lib.hid (show firstW [(eb, 0, 0), (true, 3, 2)] = editW p by simp [firstW, editW, HEB.out])
        refine (first_any [(eb, 0, 0), (true, 3, 2)] _ (by rfl) (by decide) _ _ _ (RdL.block choLay _ [(eb, 0, 0), (true, 3, 2)] _ _ (by rfl) _ (by rfl))).mono ?_
        rw [HW.out]
        rintro e w2 ⟨rfl, hb2⟩
        have hownA := (hown.alloc _).below hb2
        have hblA := (hbl.alloc hbl.size _).trans (hb2.mono (Nat.le_trans hbl.size (by simp)))
        clear hown hbl hb2 HW
        go_wp2_with ((with_reducible show wpList _ _ _ (Oper.mk _ (Op.store 35 _ _) _ _ _ _ :: _) _ _); refine wp_store_l rfl _ _ rfl slW wayLay hownA 2 (by simp) _ rfl rfl (editW p) _ rfl rfl ?_; clear f1 f2 f3 f4 f5 f6 f7 f8 f9 f10 s0 s1 t0 t1 n0 n1; intro w3 hown hg; have hbl := hblA.grown hg hblA.size (fun k hk => by cases hk; exact hbase); clear hownA hblA hg; obtain ⟨f1, f2, f3, f4, f5, f6, f7, f8, f9, f10, s0, s1, t0, t1, n0, n1⟩ := HFF.out _ hbl)
        have HW := Lib.hid (show firstW [(p.delete != 0, 0, 0), (eb, 2, 0), (true, 3, 2)] = goneW p by (simp only [firstW, goneW, HEB.out]; by_cases hd : p.delete = 0 <;> simp [hd]))
        refine (first_any [(p.delete != 0, 0, 0), (eb, 2, 0), (true, 3, 2)] _ (by rfl) (by decide) _ _ _ (RdL.block choLay _ [(p.delete != 0, 0, 0), (eb, 2, 0), (true, 3, 2)] _ _ (by rfl) _ (by rfl))).mono ?_
        rw [HW.out]
        rintro e w2 ⟨rfl, hb2⟩
        have hownA := (hown.alloc _).below hb2
        have hblA := (hbl.alloc hbl.size _).trans (hb2.mono (Nat.le_trans hbl.size (by simp)))
        clear hown hbl hb2 HW
        go_upto_region 11 with ((with_reducible show wpList _ _ _ (Oper.mk _ (Op.store 35 _ _) _ _ _ _ :: _) _ _); refine wp_store_l rfl _ _ rfl slW wayLay hownA 3 (by simp) _ rfl rfl (goneW p) _ rfl rfl ?_; clear f1 f2 f3 f4 f5 f6 f7 f8 f9 f10 s0 s1 t0 t1 n0 n1; intro w3 hown hg; have hbl := hblA.grown hg hblA.size (fun k hk => by cases hk; exact hbase); clear hownA hblA hg; obtain ⟨f1, f2, f3, f4, f5, f6, f7, f8, f9, f10, s0, s1, t0, t1, n0, n1⟩ := HFF.out _ hbl)
        dsimp only [Act.put]
        go_cut [93] (fun v w' => OwnL w' W3.heap.size 35 2 wayC (some ⟨wx.heap.size, 0, none⟩) 9 [(0, 0), longW p, editW p, goneW p, reactW p, (0, 0), (0, 0), (0, 0), (0, 0)] ∧ Below W3.heap.size W3 w')
        case first =>
          generalize hre : p.react = re at f4
          have HRE := Lib.hid hre
          clear hre
          cases re
          · go_wp2_with fail
            have HW := Lib.hid (show firstW [(false, 0, 0), (false, 0, 1), (true, 3, 2)] = reactW p by simp [firstW, reactW, HRE.out])
            refine (first_any [(false, 0, 0), (false, 0, 1), (true, 3, 2)] _ (by rfl) (by decide) _ _ _ (RdL.block choLay _ [(false, 0, 0), (false, 0, 1), (true, 3, 2)] _ _ (by rfl) _ (by rfl))).mono ?_
            rw [HW.out]
            rintro e w2 ⟨rfl, hb2⟩
            have hownA := (hown.alloc _).below hb2
            have hblA := (hbl.alloc hbl.size _).trans (hb2.mono (Nat.le_trans hbl.size (by simp)))
            clear hown hbl hb2 HW
            go_wp2_with ((with_reducible show wpList _ _ _ (Oper.mk _ (Op.store 35 _ _) _ _ _ _ :: _) _ _); refine wp_store_l rfl _ _ rfl slW wayLay hownA 4 (by simp) _ rfl rfl (reactW p) _ rfl rfl ?_; clear f1 f2 f3 f4 f5 f6 f7 f8 f9 f10 s0 s1 t0 t1 n0 n1; intro w3 hown hg; have hbl := hblA.grown hg hblA.size (fun k hk => by cases hk; exact hbase); clear hownA hblA hg; obtain ⟨f1, f2, f3, f4, f5, f6, f7, f8, f9, f10, s0, s1, t0, t1, n0, n1⟩ := HFF.out _ hbl)
            go_meet
            exact ⟨hown, hbl⟩
          · go_wp2_with fail
            have HW := Lib.hid (show firstW [(!pb, 0, 0), (true, 0, 1), (true, 3, 2)] = reactW p by exact react_first p pb b3 HPB.out HRE.out)
            refine (first_any [(!pb, 0, 0), (true, 0, 1), (true, 3, 2)] _ (by rfl) (by decide) _ _ _ (RdL.block choLay _ [(!pb, 0, 0), (true, 0, 1), (true, 3, 2)] _ _ (by rfl) _ (by rfl))).mono ?_
            rw [HW.out]
            rintro e w2 ⟨rfl, hb2⟩
            have hownA := (hown.alloc _).below hb2
            have hblA := (hbl.alloc hbl.size _).trans (hb2.mono (Nat.le_trans hbl.size (by simp)))
            clear hown hbl hb2 HW
            go_wp2_with ((with_reducible show wpList _ _ _ (Oper.mk _ (Op.store 35 _ _) _ _ _ _ :: _) _ _); refine wp_store_l rfl _ _ rfl slW wayLay hownA 4 (by simp) _ rfl rfl (reactW p) _ rfl rfl ?_; clear f1 f2 f3 f4 f5 f6 f7 f8 f9 f10 s0 s1 t0 t1 n0 n1; intro w3 hown hg; have hbl := hblA.grown hg hblA.size (fun k hk => by cases hk; exact hbase); clear hownA hblA hg; obtain ⟨f1, f2, f3, f4, f5, f6, f7, f8, f9, f10, s0, s1, t0, t1, n0, n1⟩ := HFF.out _ hbl)
            go_meet
            exact ⟨hown, hbl⟩
        case rest =>
          obtain ⟨hown, hbl⟩ := hcut
          obtain ⟨f1, f2, f3, f4, f5, f6, f7, f8, f9, f10, s0, s1, t0, t1, n0, n1⟩ := HFF.out _ hbl
          go_wp2_with fail
          have HW := Lib.hid (show firstW [(p.thread == 2, 0, 0), (p.thread == 1, 2, 1), (true, 2, 2)] = replyW p by simp [firstW, replyW])
          refine (first_any [(p.thread == 2, 0, 0), (p.thread == 1, 2, 1), (true, 2, 2)] _ (by rfl) (by decide) _ _ _ (RdL.block choLay _ [(p.thread == 2, 0, 0), (p.thread == 1, 2, 1), (true, 2, 2)] _ _ (by rfl) _ (by rfl))).mono ?_
          rw [HW.out]
          rintro e w2 ⟨rfl, hb2⟩
          have hownA := (hown.alloc _).below hb2
          have hblA := (hbl.alloc hbl.size _).trans (hb2.mono (Nat.le_trans hbl.size (by simp)))
          clear hown hbl hb2 HW
          go_wp2_with ((with_reducible show wpList _ _ _ (Oper.mk _ (Op.store 35 _ _) _ _ _ _ :: _) _ _); refine wp_store_l rfl _ _ rfl slW wayLay hownA 5 (by simp) _ rfl rfl (replyW p) _ rfl rfl ?_; clear f1 f2 f3 f4 f5 f6 f7 f8 f9 f10 s0 s1 t0 t1 n0 n1; intro w3 hown hg; have hbl := hblA.grown hg hblA.size (fun k hk => by cases hk; exact hbase); clear hownA hblA hg; obtain ⟨f1, f2, f3, f4, f5, f6, f7, f8, f9, f10, s0, s1, t0, t1, n0, n1⟩ := HFF.out _ hbl)
          have HW := Lib.hid (show firstW [(p.quote, 0, 0), (true, 2, 2)] = ownW p.quote by simp [firstW, ownW])
          refine (first_any [(p.quote, 0, 0), (true, 2, 2)] _ (by rfl) (by decide) _ _ _ (RdL.block choLay _ [(p.quote, 0, 0), (true, 2, 2)] _ _ (by rfl) _ (by rfl))).mono ?_
          rw [HW.out]
          rintro e w2 ⟨rfl, hb2⟩
          have hownA := (hown.alloc _).below hb2
          have hblA := (hbl.alloc hbl.size _).trans (hb2.mono (Nat.le_trans hbl.size (by simp)))
          clear hown hbl hb2 HW
          go_wp2_with ((with_reducible show wpList _ _ _ (Oper.mk _ (Op.store 35 _ _) _ _ _ _ :: _) _ _); refine wp_store_l rfl _ _ rfl slW wayLay hownA 6 (by simp) _ rfl rfl (ownW p.quote) _ rfl rfl ?_; clear f1 f2 f3 f4 f5 f6 f7 f8 f9 f10 s0 s1 t0 t1 n0 n1; intro w3 hown hg; have hbl := hblA.grown hg hblA.size (fun k hk => by cases hk; exact hbase); clear hownA hblA hg; obtain ⟨f1, f2, f3, f4, f5, f6, f7, f8, f9, f10, s0, s1, t0, t1, n0, n1⟩ := HFF.out _ hbl)
          have HW := Lib.hid (show firstW [(p.mention, 0, 0), (true, 2, 2)] = ownW p.mention by simp [firstW, ownW])
          refine (first_any [(p.mention, 0, 0), (true, 2, 2)] _ (by rfl) (by decide) _ _ _ (RdL.block choLay _ [(p.mention, 0, 0), (true, 2, 2)] _ _ (by rfl) _ (by rfl))).mono ?_
          rw [HW.out]
          rintro e w2 ⟨rfl, hb2⟩
          have hownA := (hown.alloc _).below hb2
          have hblA := (hbl.alloc hbl.size _).trans (hb2.mono (Nat.le_trans hbl.size (by simp)))
          clear hown hbl hb2 HW
          go_wp2_with ((with_reducible show wpList _ _ _ (Oper.mk _ (Op.store 35 _ _) _ _ _ _ :: _) _ _); refine wp_store_l rfl _ _ rfl slW wayLay hownA 7 (by simp) _ rfl rfl (ownW p.mention) _ rfl rfl ?_; clear f1 f2 f3 f4 f5 f6 f7 f8 f9 f10 s0 s1 t0 t1 n0 n1; intro w3 hown hg; have hbl := hblA.grown hg hblA.size (fun k hk => by cases hk; exact hbase); clear hownA hblA hg; obtain ⟨f1, f2, f3, f4, f5, f6, f7, f8, f9, f10, s0, s1, t0, t1, n0, n1⟩ := HFF.out _ hbl)
          have HW := Lib.hid (show firstW [(p.files == 4, 0, 0), (decide (0 < p.files), 4, 1), (true, 2, 2)] = fileW p by exact file_first p hfl)
          refine (first_any [(p.files == 4, 0, 0), (decide (0 < p.files), 4, 1), (true, 2, 2)] _ (by rfl) (by decide) _ _ _ (RdL.block choLay _ [(p.files == 4, 0, 0), (decide (0 < p.files), 4, 1), (true, 2, 2)] _ _ (by rfl) _ (by rfl))).mono ?_
          rw [HW.out]
          rintro e w2 ⟨rfl, hb2⟩
          have hownA := (hown.alloc _).below hb2
          have hblA := (hbl.alloc hbl.size _).trans (hb2.mono (Nat.le_trans hbl.size (by simp)))
          clear hown hbl hb2 HW
          go_wp2_with ((with_reducible show wpList _ _ _ (Oper.mk _ (Op.store 35 _ _) _ _ _ _ :: _) _ _); refine wp_store_l rfl _ _ rfl slW wayLay hownA 8 (by simp) _ rfl rfl (fileW p) _ rfl rfl ?_; clear f1 f2 f3 f4 f5 f6 f7 f8 f9 f10 s0 s1 t0 t1 n0 n1; intro w3 hown hg; have hbl := hblA.grown hg hblA.size (fun k hk => by cases hk; exact hbase); clear hownA hblA hg; obtain ⟨f1, f2, f3, f4, f5, f6, f7, f8, f9, f10, s0, s1, t0, t1, n0, n1⟩ := HFF.out _ hbl)
          go_ret2
          have hw : waysOf p = wayL p := by simp [waysOf, HPC.out]
          exact ⟨HB3.out.trans (hbl.mono HB3.out.size), some ⟨wx.heap.size, 0, none⟩, 9, by rw [hw, HPC.out]; rfl, by rw [hw]; exact hown.rd wayLay⟩
  · have HN := Lib.hid h0
    clear h0
    have e1 : (pc != 0) = true := by simpa using HN.out
    have e2 : (pc == 0) = false := by simpa using HN.out
    go_wp2
    go_ret2
    have hw : waysOf p = [] := by simp [waysOf, HPC.out, HN.out]
    exact ⟨HB1.out, none, 0, by rw [hw, HPC.out]; rfl, by rw [hw]; exact RdL.nil_⟩
end Go.Proofs.Ytebpnlbpdhgacaa
