/- The examples of the documentation: small returns true. -/
import Derived.Test.YtebpnlbpdhgacaaWyL
namespace Go.Proofs.Ytebpnlbpdhgacaa
open Go.RowKit

theorem mailC : profCheck mailP = 0 := by kernel_rfl
theorem roomC : profCheck roomP = 0 := by kernel_rfl
theorem thirdC : profCheck thirdP = 0 := by kernel_rfl
theorem zeroC : profCheck zeroP = 1 := by kernel_rfl
theorem mailW : waysOf mailP = [(0, 0), (4, 0), (3, 2), (3, 2), (3, 2), (0, 0), (0, 0), (2, 2), (4, 1)] := by kernel_rfl
theorem roomW : waysOf roomP = [(0, 0), (1, 1), (0, 0), (0, 0), (0, 1), (0, 0), (0, 0), (0, 0), (0, 0)] := by kernel_rfl
theorem thirdW : waysOf thirdP = [(0, 0), (1, 1), (0, 0), (2, 0), (0, 1), (0, 0), (0, 0), (0, 0), (0, 0)] := by kernel_rfl
theorem zeroW : waysOf zeroP = [] := by kernel_rfl
theorem okMade (p : Prof) (w : World) (A : Option Addr) (h : RdS w w.heap.size A p.types) (hn : p.name.size ≤ 1000) (hl : p.types.length ≤ 1000) (ht : ∀ s ∈ p.types, s.size ≤ 1000) : ProfOk w w.heap.size A p :=
  ⟨h, by omega, by omega, fun s hs => by have := ht s hs; omega⟩
/-- Compile of a profile that is known. -/
theorem compile_known (p : Prof) (A : Option Addr) (c : Nat) (w : World) (hr : ProfOk w w.heap.size A p) (hcap : p.types.length ≤ c) (pc : Int) (ws : List (Int × Int)) (n : Nat) (h1 : profCheck p = pc) (h2 : waysOf p = ws) (hn : ws.length = n) :
    Calls Try.prog 8 #[p.v A c] w fun e w' => ∃ B d, e = .returned (.tuple #[.slice B n d, .int .i64 pc]) ∧ Below w.heap.size w w' ∧ RdL 2 wayC w' w'.heap.size B ws := by
  refine (pCompile_any p A c w hr hcap).mono ?_
  rintro e w' ⟨hb, B, d, rfl, hs⟩
  rw [h2] at hs
  exact ⟨B, d, by rw [h1, h2, hn], hb, hs⟩

theorem same_refl (xs : List (Int × Int)) (n : Nat) (hn : n = xs.length) (hm : n ≤ 1000) (A B : Option Addr) (c d : Nat) (w : World) (hr : RdL 2 wayC w w.heap.size A xs) (hs : RdL 2 wayC w w.heap.size B xs) :
    Calls Try.prog 10 #[.slice A n c, .slice B n d] w fun e w' => e = .returned (.bool true) ∧ Below w.heap.size w w' := by
  have h := same_any xs xs n n hn hn hm hm A B c d w hr hs
  rwa [decide_eq_true (rfl : xs = xs)] at h
set_option maxRecDepth 100000 in
set_option maxHeartbeats 2000000 in
theorem small_any (w : World) : Calls Try.prog 6 #[] w fun e w' => e = .returned (.bool true) ∧ Below w.heap.size w w' := by
  have HB0 := Lib.hid (((Below.refl w.heap.size w).alloc (Nat.le_refl _) (.cells #[.int .i64 0, .int .i64 0] 35)).alloc (by simp) (.cells #[.int .i64 3, .int .i64 2] 35))
  go_enter Try.func6, Try.ntmps6
  go_wp2_with fail
  refine (mail_any _).mono ?_
  rintro e w1 ⟨hb1, A1, rfl, hr1⟩
  have HR1 := Lib.hid (okMade mailP w1 A1 hr1 (by decide) (by decide) (by decide))
  have HX1 := Lib.hid hb1
  clear hb1 hr1
  go_wp2_with fail
  refine (compile_known mailP A1 1 w1 HR1.out (by decide) _ _ 9 mailC mailW rfl).mono ?_
  rintro e w2 ⟨B1, d1, rfl, hb2, hs1⟩
  have HX2 := Lib.hid (HX1.out.trans (hb2.mono HX1.out.size))
  have HS1 := Lib.hid hs1
  clear hb2 HR1 HX1 hs1
  go_wp2_with fail
  refine (room_any _).mono ?_
  rintro e w3 ⟨hb3, A2, rfl, hr2⟩
  have HR2 := Lib.hid (okMade roomP w3 A2 hr2 (by decide) (by decide) (by decide))
  have HX3 := Lib.hid (HX2.out.trans (hb3.mono HX2.out.size))
  have HS1b := Lib.hid (HS1.out.now hb3)
  clear hb3 hr2 HX2 HS1
  go_wp2_with fail
  refine (compile_known roomP A2 1 w3 HR2.out (by decide) _ _ 9 roomC roomW rfl).mono ?_
  rintro e w4 ⟨B2, d2, rfl, hb4, hs2⟩
  have HX4 := Lib.hid (HX3.out.trans (hb4.mono HX3.out.size))
  have HS1c := Lib.hid (HS1b.out.now hb4)
  have HS2 := Lib.hid hs2
  clear hb4 HX3 HS1b hs2 HR2
  go_wp2_with fail
  refine (room_any _).mono ?_
  rintro e w5 ⟨hb5, A3, rfl, hr3⟩
  have HR3 := Lib.hid hr3
  have HX5 := Lib.hid (HX4.out.trans (hb5.mono HX4.out.size))
  have HS1d := Lib.hid (HS1c.out.now hb5)
  have HS2b := Lib.hid (HS2.out.now hb5)
  clear hb5 hr3 HX4 HS1c HS2
  have HTH := Lib.hid (boxThere w5 (zeroP.cs none 0) 24 (Below.refl _ _) w5.heap.size rfl 22 rfl)
  go_wp2_with (first
    | ((with_reducible show wpList _ _ _ (Oper.mk _ (Op.store 24 _ _) _ _ _ _ :: _) _ _); refine wpList_store_box rfl 24 _ _ rfl _ _ rfl rfl HTH.out (by kernel_rfl) (by kernel_rfl) ?_; intro w2 hrg hth hg; have hc3 := range_cell hrg 3 _ rfl; have hfr := there_free hth 3 (show 3 < 22 from by decide); have HRG := Lib.hid hrg; have HG := Lib.hid hg; clear hrg hth hg)
    | ((with_reducible show wpList _ _ _ (Oper.mk _ (Op.load 24 _) _ _ _ _ :: _) _ _); refine wpList_load_g rfl 24 (.tmp 7) rfl w5.heap.size 0 rfl (thirdP.cs A3 1).toList _ (range_set HRG.out 3 (.int .i64 0) _ rfl) Try.underlying24 rfl (by kernel_rfl) ?_))
  have hbx : Below w5.heap.size w5 (w2.setCell ⟨w5.heap.size, 3, none⟩ (.int .i64 0)) := (((Below.refl w5.heap.size w5).alloc (Nat.le_refl _) _).grown HG.out (by simp) (fun k hk => by cases hk; exact Nat.le_refl _)).setCell (by simp) _
  have HR3b := Lib.hid (okMade thirdP _ A3 (HR3.out.now hbx) (by decide) (by decide) (by decide))
  have HX5b := Lib.hid (HX5.out.trans (hbx.mono HX5.out.size))
  have HS1e := Lib.hid (HS1d.out.now hbx)
  have HS2c := Lib.hid (HS2b.out.now hbx)
  clear HX5 HS1d HS2b hc3 hfr hbx
  refine (compile_known thirdP A3 1 _ HR3b.out (by decide) _ _ 9 thirdC thirdW rfl).mono ?_
  rintro e w6 ⟨B3, d3, rfl, hb6, hs3⟩
  have HX6 := Lib.hid (HX5b.out.trans (hb6.mono HX5b.out.size))
  have HS1f := Lib.hid (HS1e.out.now hb6)
  have HS2d := Lib.hid (HS2c.out.now hb6)
  have HS3 := Lib.hid hs3
  clear hb6 hs3 HX5b HS1e HS2c HR3b HTH HR3
  go_wp2_with fail
  refine (compile_known zeroP none 0 w6 (okMade zeroP w6 none RdL.nil_ (by decide) (by decide) (by decide)) (by decide) _ _ 0 zeroC zeroW rfl).mono ?_
  rintro e w7 ⟨B4, d4, rfl, hb7, hs4⟩
  have HX7 := Lib.hid (HX6.out.trans (hb7.mono HX6.out.size))
  have HS1g := Lib.hid (HS1f.out.now hb7)
  have HS2e := Lib.hid (HS2d.out.now hb7)
  have HS3b := Lib.hid (HS3.out.now hb7)
  clear hb7 hs4 HX6 HS1f HS2d HS3
  have c0 := (HX7.out.cell (p := ⟨w.heap.size, 0, none⟩) (by simp; omega)).trans ((cell_old _ _ _ _ (by simp)).trans (boxCell w _ _ (Below.refl _ _) _ rfl 0 _ rfl))
  have c1 := (HX7.out.cell (p := ⟨w.heap.size, 1, none⟩) (by simp; omega)).trans ((cell_old _ _ _ _ (by simp)).trans (boxCell w _ _ (Below.refl _ _) _ rfl 1 _ rfl))
  have c2 := (HX7.out.cell (p := ⟨w.heap.size + 1, 0, none⟩) (by simp)).trans (boxCell _ _ _ (Below.refl _ _) (w.heap.size + 1) (by simp) 0 _ rfl)
  have c3 := (HX7.out.cell (p := ⟨w.heap.size + 1, 1, none⟩) (by simp)).trans (boxCell _ _ _ (Below.refl _ _) (w.heap.size + 1) (by simp) 1 _ rfl)
  go_wp2_with fail
  have hb7a : Below w7.heap.size w7 (w7.alloc (.cells #[.int .i64 0, .int .i64 0, .int .i64 4, .int .i64 0, .int .i64 3, .int .i64 2, .int .i64 3, .int .i64 2, .int .i64 3, .int .i64 2, .int .i64 0, .int .i64 0, .int .i64 0, .int .i64 0, .int .i64 2, .int .i64 2, .int .i64 4, .int .i64 1] 35)) := (Below.refl _ _).alloc (Nat.le_refl _) _
  refine (same_refl _ 9 rfl (by decide) B1 _ d1 9 _ (HS1g.out.now hb7a) (RdL.block wayLay w7 _ _ _ (by rfl) _ rfl)).mono ?_
  rintro e w8 ⟨rfl, hb8⟩
  have HX8 := Lib.hid (HX7.out.trans ((hb7a.trans (hb8.mono hb7a.size)).mono HX7.out.size))
  have HS2f := Lib.hid ((HS2e.out.now hb7a).now hb8)
  have HS3c := Lib.hid ((HS3b.out.now hb7a).now hb8)
  clear hb7a hb8 HX7 HS2e HS3b c0 c1 c2 c3
  have c0 := (HX8.out.cell (p := ⟨w.heap.size, 0, none⟩) (by simp; omega)).trans ((cell_old _ _ _ _ (by simp)).trans (boxCell w _ _ (Below.refl _ _) _ rfl 0 _ rfl))
  have c1 := (HX8.out.cell (p := ⟨w.heap.size, 1, none⟩) (by simp; omega)).trans ((cell_old _ _ _ _ (by simp)).trans (boxCell w _ _ (Below.refl _ _) _ rfl 1 _ rfl))
  go_wp2_with fail
  have hb8a : Below w8.heap.size w8 (w8.alloc (.cells #[.int .i64 0, .int .i64 0, .int .i64 1, .int .i64 1, .int .i64 0, .int .i64 0, .int .i64 0, .int .i64 0, .int .i64 0, .int .i64 1, .int .i64 0, .int .i64 0, .int .i64 0, .int .i64 0, .int .i64 0, .int .i64 0, .int .i64 0, .int .i64 0] 35)) := (Below.refl _ _).alloc (Nat.le_refl _) _
  refine (same_refl _ 9 rfl (by decide) B2 _ d2 9 _ (HS2f.out.now hb8a) (RdL.block wayLay w8 _ _ _ (by rfl) _ rfl)).mono ?_
  rintro e w9 ⟨rfl, hb9⟩
  have HX9 := Lib.hid (HX8.out.trans ((hb8a.trans (hb9.mono hb8a.size)).mono HX8.out.size))
  obtain ⟨b, off, rfl, _, hc⟩ := ((HS3c.out.now hb8a).now hb9).at_ (k := 3) (by decide)
  have v0 := hc 0 _ rfl
  have v1 := hc 1 _ rfl
  simp only [Nat.add_zero] at v0
  have hq := fun w => eql_way 2 0 2 0 w
  clear hc hb8a hb9 HX8 HS2f HS3c c0 c1
  go_wp2
  go_ret
  exact ⟨rfl, HB0.out.trans (HX9.out.mono HB0.out.size)⟩
end Go.Proofs.Ytebpnlbpdhgacaa
