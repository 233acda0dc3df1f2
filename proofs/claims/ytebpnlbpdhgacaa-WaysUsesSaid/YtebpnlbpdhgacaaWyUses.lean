/- The walk of WaysUses. -/
import Derived.Test.YtebpnlbpdhgacaaWyTells
namespace Go.Proofs.Ytebpnlbpdhgacaa
open Go.RowKit

def canL (p : Prof) : List Bool := [true, false, editsB p, p.delete != 0, p.react, p.thread == 2, p.quote, p.mention, p.files == 4]
abbrev canA (p : Prof) : Array Value := #[.bool true, .bool false, .bool (editsB p), .bool (p.delete != 0), .bool p.react, .bool (p.thread == 2), .bool p.quote, .bool p.mention, .bool (p.files == 4)]
theorem canA_eq (p : Prof) : canA p = ((canL p).map Value.bool).toArray := rfl
theorem wayFacts (p : Prof) (hc : profCheck p = 0) (k : Nat) (h f : Int) (cb : Bool) (hw : (wayL p)[k]? = some (h, f)) (hcan : (canL p)[k]? = some cb) :
    cb = (h == 0) ∧ 0 ≤ h ∧ h < 5 ∧ 0 ≤ f ∧ f < 3 ∧ (h = 0 → ¬ f = 2) ∧ (h = 3 → k = 2 ∨ k = 3 ∨ k = 4) ∧ (h = 1 → k = 1) := by
  obtain ⟨b1, b2, b3, b4⟩ := check_bounds p hc
  have hf := check_files p hc
  have hk : k < 9 := (List.getElem?_eq_some_iff.1 hw).1
  rcases k with _ | _ | _ | _ | _ | _ | _ | _ | _ | k
  all_goals simp only [wayL, canL, List.getElem?_cons_zero, List.getElem?_cons_succ, Option.some.injEq] at hw hcan
  · simp at hw; obtain ⟨rfl, rfl⟩ := hw; subst hcan; simp
  · unfold longW at hw; subst hcan; split at hw <;> (try split at hw) <;> (simp at hw; obtain ⟨rfl, rfl⟩ := hw; simp)
  · unfold editW at hw; subst hcan; split at hw <;> (rename_i hx; simp at hw; obtain ⟨rfl, rfl⟩ := hw; simp [hx])
  · unfold goneW at hw; subst hcan; split at hw <;> (try split at hw) <;> (simp at hw; obtain ⟨rfl, rfl⟩ := hw; simp [*])
  · unfold reactW at hw; subst hcan; split at hw <;> (try split at hw) <;> (simp at hw; obtain ⟨rfl, rfl⟩ := hw; simp_all)
  · unfold replyW at hw; subst hcan; split at hw <;> (try split at hw) <;> (simp at hw; obtain ⟨rfl, rfl⟩ := hw; simp_all)
  · unfold ownW at hw; subst hcan; split at hw <;> (simp at hw; obtain ⟨rfl, rfl⟩ := hw; simp_all)
  · unfold ownW at hw; subst hcan; split at hw <;> (simp at hw; obtain ⟨rfl, rfl⟩ := hw; simp_all)
  · unfold fileW at hw; subst hcan; split at hw <;> (try split at hw) <;> (simp at hw; obtain ⟨rfl, rfl⟩ := hw; simp; omega)
  · omega

theorem long_cases (p : Prof) (h : 1 ≤ p.parts) : (longW p = (4, 0) ∧ decide (1 < p.parts) = false ∧ (p.parts == 1) = true) ∨ (longW p = (1, 1) ∧ decide (1 < p.parts) = true ∧ (p.parts == 1) = false ∧ decide (4400 ≤ p.size * p.parts) = true) ∨ (longW p = (4, 1) ∧ decide (1 < p.parts) = true ∧ (p.parts == 1) = false ∧ decide (4400 ≤ p.size * p.parts) = false) := by
  unfold longW
  by_cases h1 : 2 ≤ p.parts
  · have h2 : ¬ p.parts = 1 := by omega
    have h3 : 1 < p.parts := by omega
    by_cases hm : 4400 ≤ p.size * p.parts
    · simp [h1, h2, h3, hm]
    · simp only [h1, h2, h3, hm, if_true, if_false]; simp; omega
  · have h2 : p.parts = 1 := by omega
    have h3 : ¬ 1 < p.parts := by omega
    simp [h2]
theorem gone_cases (p : Prof) : ∃ eb db : Bool, editsB p = eb ∧ (p.delete != 0) = db ∧ goneW p = if db then (0, 0) else if eb then (2, 0) else (3, 2) := by
  refine ⟨_, _, rfl, rfl, ?_⟩
  unfold goneW
  by_cases h : p.delete = 0 <;> simp [h]
set_option maxRecDepth 100000 in
set_option maxHeartbeats 4000000 in
theorem uses_walk (p : Prof) (A : Option Addr) (c : Nat) (w : World) (hr : ProfOk w w.heap.size A p) (hcap : p.types.length ≤ c) : Calls Try.prog 4 #[p.v A c] w fun e w' => e = .returned (.bool true) ∧ Below w.heap.size w w' := by
  have hb0 : Below w.heap.size w (w.alloc (.cells (p.cs A c) 24)) := (Below.refl _ _).alloc (Nat.le_refl _) _
  have hr0 := hr.now hb0
  have hs0 : w.heap.size < (w.alloc (.cells (p.cs A c) 24)).heap.size := by simp
  have HB0 := Lib.hid hb0
  have HR0 := Lib.hid hr0
  have HRA0 := Lib.hid (boxRange w (p.cs A c) 24 (Below.refl _ _))
  clear hb0 hr0
  go_enter Try.func4, Try.ntmps4
  go_wp2_with fail
  refine (small_any _).mono ?_
  rintro e w1 ⟨rfl, hb1⟩
  have HRA1 := Lib.hid (range_below HRA0.out hb1 hs0)
  have HR1 := Lib.hid (HR0.out.now hb1)
  have HB1 := Lib.hid (HB0.out.trans (hb1.mono HB0.out.size))
  have hs1 := Nat.lt_of_lt_of_le hs0 hb1.size
  clear hb1 HRA0 HR0 HB0 hs0
  go_wp2_with ((with_reducible show wpList _ _ _ (Oper.mk _ (Op.load 24 _) _ _ _ _ :: _) _ _); refine wpList_load_g rfl 24 (.tmp 1) rfl w.heap.size 0 rfl (p.cs A c).toList _ HRA1.out Try.underlying24 rfl (by kernel_rfl) ?_)
  refine (few_any p A c w1 HR1.out).mono ?_
  rintro e w2 ⟨⟨b, rfl, hb⟩, hb2⟩
  have HRA2 := Lib.hid (range_below HRA1.out hb2 hs1)
  have HR2 := Lib.hid (HR1.out.now hb2)
  have HB2 := Lib.hid (HB1.out.trans (hb2.mono HB1.out.size))
  have hs2 := Nat.lt_of_lt_of_le hs1 hb2.size
  clear hb2 HRA1 HR1 HB1 hs1 hb
  cases b
  · go_wp2
    go_ret
    exact ⟨rfl, HB2.out⟩
  go_wp2_with ((with_reducible show wpList _ _ _ (Oper.mk _ (Op.load 24 _) _ _ _ _ :: _) _ _); refine wpList_load_g rfl 24 (.tmp 1) rfl w.heap.size 0 rfl (p.cs A c).toList _ HRA2.out Try.underlying24 rfl (by kernel_rfl) ?_)
  refine (pCompile_any p A c w2 HR2.out hcap).mono ?_
  rintro e w3 ⟨hb3, B1, d1, rfl, hq1⟩
  have HRA3 := Lib.hid (range_below HRA2.out hb3 hs2)
  have HR3 := Lib.hid (HR2.out.now hb3)
  have HB3 := Lib.hid (HB2.out.trans (hb3.mono HB2.out.size))
  have hs3 := Nat.lt_of_lt_of_le hs2 hb3.size
  clear hb3 HRA2 HR2 HB2 hs2
  generalize hpc : profCheck p = pc
  by_cases h0 : pc = 0
  · subst h0
    have hwl : waysOf p = wayL p := by simp [waysOf, hpc]
    rw [hwl] at hq1
    rw [hwl]
    have hw9 : (wayL p).length = 9 := rfl
    rw [hw9]
    have HPC := Lib.hid hpc
    have HQ1 := Lib.hid hq1
    clear hwl hw9 hpc hq1
    go_wp2_with ((with_reducible show wpList _ _ _ (Oper.mk _ (Op.load 24 _) _ _ _ _ :: _) _ _); refine wpList_load_g rfl 24 (.tmp 1) rfl w.heap.size 0 rfl (p.cs A c).toList _ HRA3.out Try.underlying24 rfl (by kernel_rfl) ?_)
    refine (pCheck_any p A c w3 HR3.out hcap).mono ?_
    rw [HPC.out]
    rintro e w4 ⟨rfl, hb4⟩
    have HRA4 := Lib.hid (range_below HRA3.out hb4 hs3)
    have HQ4 := Lib.hid (HQ1.out.now hb4)
    have HB4 := Lib.hid (HB3.out.trans (hb4.mono HB3.out.size))
    have hs4 := Nat.lt_of_lt_of_le hs3 hb4.size
    clear hb4 HRA3 HR3 HB3 hs3 HQ1
    have f1 := range_cell HRA4.out 1 _ rfl
    have f2 := range_cell HRA4.out 2 _ rfl
    have f3 := range_cell HRA4.out 3 _ rfl
    have f4 := range_cell HRA4.out 4 _ rfl
    have f5 := range_cell HRA4.out 5 _ rfl
    have f6 := range_cell HRA4.out 6 _ rfl
    have f7 := range_cell HRA4.out 7 _ rfl
    have f10 := range_cell HRA4.out 10 _ rfl
    go_upto_region 9 with fail
    go_cut [6] (fun v wx => v = .slice (some ⟨w4.heap.size, 0, none⟩) 9 9 ∧ wx = w4.alloc (.cells (canA p) 4))
    case first =>
      by_cases h1 : p.edit = 2
      · have e1 : (p.edit == 2) = true := by simpa using h1
        have HE : Hid (editsB p = (p.within_ == 0)) := Lib.hid (by simp [editsB, h1])
        clear h1
        go_wp2
        go_meet
        exact ⟨rfl, by unfold canA; rw [HE.out]⟩
      · have e1 : (p.edit == 2) = false := by simpa using h1
        have HE : Hid (editsB p = false) := Lib.hid (by simp [editsB, h1])
        clear h1
        go_wp2
        go_meet
        exact ⟨rfl, by unfold canA; rw [HE.out]⟩
    case rest =>
      obtain ⟨rfl, hwc⟩ := hcut
      obtain ⟨W5, hW5⟩ : ∃ W5, W5 = w4.alloc (.cells (canA p) 4) := ⟨_, rfl⟩
      have hs6 : w4.heap.size < W5.heap.size := by rw [hW5]; simp
      have hb5 : Below w4.heap.size w4 W5 := by rw [hW5]; exact (Below.refl _ _).alloc (Nat.le_refl _) _
      have HCB := Lib.hid (show ∀ wx, Below W5.heap.size W5 wx → ∀ j v, (canA p)[j]? = some v → wx.cell? ⟨w4.heap.size, j, none⟩ = some v from fun wx h j v hj => by subst hW5; exact boxCell _ _ _ h _ rfl j v hj)
      subst hwc
      rw [← hW5]
      clear hW5 f1 f2 f3 f4 f5 f6 f7 f10
      have HQ5 := Lib.hid (HQ4.out.now hb5)
      have HRA5 := Lib.hid (range_below HRA4.out hb5 hs4)
      have HB5 := Lib.hid (HB4.out.trans (hb5.mono HB4.out.size))
      have hs5 := Nat.lt_of_lt_of_le hs4 hb5.size
      clear hb5 HRA4 HQ4 HB4 hs4
      go_wp2_with fail
      go_loopw [7] (fun i wr => ∃ k : Nat, k ≤ 9 ∧ i = .int .i64 k ∧ Below W5.heap.size W5 wr) (fun i _ => 9 - (intOf i).toNat)
      case atStart => exact ⟨0, Nat.zero_le _, rfl, Below.refl _ _⟩
      case round =>
        obtain ⟨k, hk, rfl, hb⟩ := hrel
        by_cases hlt : k < 9
        · have hlw : k < (wayL p).length := hlt
          obtain ⟨b, off, rfl, hbb, hcl⟩ := (HQ5.out.now hb).at_ hlw
          obtain ⟨⟨h, f⟩, hx⟩ : ∃ x, (wayL p)[k] = x := ⟨_, rfl⟩
          rw [hx] at hcl
          have v0 := hcl 0 _ rfl
          have v1 := hcl 1 _ rfl
          simp only [Nat.add_zero] at v0
          obtain ⟨cb, hcb⟩ : ∃ cb, (canL p)[k]? = some cb := ⟨_, List.getElem?_eq_getElem (show k < (canL p).length from hlt)⟩
          have vc := HCB.out _ hb k (.bool cb) (by rw [canA_eq, List.getElem?_toArray, List.getElem?_map, hcb]; rfl)
          obtain ⟨g1, g2, g3, g4, g5, g6, g7, g8⟩ := wayFacts p HPC.out k h f cb (by rw [List.getElem?_eq_getElem hlw, hx]) hcb
          have hlw4 : w4.heap.size < wr.heap.size := Nat.lt_of_lt_of_le hs6 hb.size
          have vca := fun (o : Obj) => (cell_old wr o w4.heap.size k hlw4).trans vc
          have HBB := Lib.hid hb
          clear hb hx hcb hcl hlw hlw4
          have d3 : decide (f < 0) = false := by simp; omega
          have d4 : decide (3 ≤ f) = false := by simp; omega
          by_cases h0 : h = 0
          · have e5 : (f == 2) = false := by simpa using g6 h0
            subst h0
            have hcb : cb = true := by simp [g1]
            subst hcb
            clear g1 g2 g3 g4 g5 g6 g7 g8
            go_wp2
            go_quiet (fail)
            go_wp2
            go_roundw
            case rel => first | exact ⟨2, by decide, rfl, below_drewN (HBB.out.alloc HBB.out.size _) _⟩ | exact ⟨3, by decide, rfl, below_drewN (HBB.out.alloc HBB.out.size _) _⟩ | exact ⟨4, by decide, rfl, below_drewN (HBB.out.alloc HBB.out.size _) _⟩ | exact ⟨5, by decide, rfl, below_drewN (HBB.out.alloc HBB.out.size _) _⟩ | exact ⟨k + 1, by omega, by go_num, below_drewN (HBB.out.alloc HBB.out.size _) _⟩
            case measure => first | (simp [intOf]; done) | (simp [intOf]; omega)
          by_cases h1 : h = 1
          · have hk1 := g8 h1
            subst h1 hk1
            have hcb : cb = false := by simp [g1]
            subst hcb
            clear g1 g2 g3 g4 g5 g6 g7 g8 h0
            go_wp2
            go_quiet (fail)
            go_wp2
            go_roundw
            case rel => first | exact ⟨2, by decide, rfl, below_drewN (HBB.out.alloc HBB.out.size _) _⟩ | exact ⟨3, by decide, rfl, below_drewN (HBB.out.alloc HBB.out.size _) _⟩ | exact ⟨4, by decide, rfl, below_drewN (HBB.out.alloc HBB.out.size _) _⟩ | exact ⟨5, by decide, rfl, below_drewN (HBB.out.alloc HBB.out.size _) _⟩ | exact ⟨k + 1, by omega, by go_num, below_drewN (HBB.out.alloc HBB.out.size _) _⟩
            case measure => first | (simp [intOf]; done) | (simp [intOf]; omega)
          by_cases h3 : h = 3
          · have hk3 := g7 h3
            subst h3
            have hcb : cb = false := by simp [g1]
            subst hcb
            clear g1 g2 g3 g4 g5 g6 g7 g8 h0 h1
            rcases hk3 with rfl | rfl | rfl
            all_goals
              go_wp2
              go_quiet (fail)
              go_wp2
              go_roundw
              case rel => first | exact ⟨2, by decide, rfl, below_drewN (HBB.out.alloc HBB.out.size _) _⟩ | exact ⟨3, by decide, rfl, below_drewN (HBB.out.alloc HBB.out.size _) _⟩ | exact ⟨4, by decide, rfl, below_drewN (HBB.out.alloc HBB.out.size _) _⟩ | exact ⟨5, by decide, rfl, below_drewN (HBB.out.alloc HBB.out.size _) _⟩ | exact ⟨k + 1, by omega, by go_num, below_drewN (HBB.out.alloc HBB.out.size _) _⟩
              case measure => first | (simp [intOf]; done) | (simp [intOf]; omega)
          · have hcb : cb = false := by simp [g1, h0]
            subst hcb
            have d1 : decide (h < 0) = false := by simp; omega
            have d2 : decide (5 ≤ h) = false := by simp; omega
            have e0 : (h == 0) = false := by simpa using h0
            have e1 : (h == 1) = false := by simpa using h1
            have e3 : (h == 3) = false := by simpa using h3
            clear g1 g2 g3 g4 g5 g6 g7 g8 h0 h1 h3
            go_wp2
            go_quiet (fail)
            go_wp2
            go_roundw
            case rel => first | exact ⟨2, by decide, rfl, below_drewN (HBB.out.alloc HBB.out.size _) _⟩ | exact ⟨3, by decide, rfl, below_drewN (HBB.out.alloc HBB.out.size _) _⟩ | exact ⟨4, by decide, rfl, below_drewN (HBB.out.alloc HBB.out.size _) _⟩ | exact ⟨5, by decide, rfl, below_drewN (HBB.out.alloc HBB.out.size _) _⟩ | exact ⟨k + 1, by omega, by go_num, below_drewN (HBB.out.alloc HBB.out.size _) _⟩
            case measure => first | (simp [intOf]; done) | (simp [intOf]; omega)
        · have hcf := HRA5.out
          have HBE := Lib.hid (HB5.out.trans (hb.mono HB5.out.size))
          have f8 := range_cell (range_below HRA5.out hb hs5) 8 _ rfl
          have f9 := range_cell (range_below HRA5.out hb hs5) 9 _ rfl
          obtain ⟨b1, b2, b3, b4⟩ := check_bounds p HPC.out
          have hm0 : 0 ≤ p.size * p.parts := Int.mul_nonneg (by omega) (by omega)
          have hm1 : p.size * p.parts ≤ 80000 := Int.le_trans (Int.mul_le_mul b2 b4 (by omega) (by omega)) (by omega)
          obtain ⟨b, off, rfl, hbb, hl1⟩ := (HQ5.out.now hb).at_ (k := 1) (show 1 < 9 by decide)
          obtain ⟨b', off', he, hbb', hl3⟩ := (HQ5.out.now hb).at_ (k := 3) (show 3 < 9 by decide)
          injection he with he
          injection he with he1 he2
          subst he1 he2
          have v0 : wr.cell? ⟨b, off + 2, none⟩ = some (.int .i64 (longW p).1) := hl1 0 _ rfl
          have v1 : wr.cell? ⟨b, off + 2 + 1, none⟩ = some (.int .i64 (longW p).2) := hl1 1 _ rfl
          have u0 : wr.cell? ⟨b, off + 6, none⟩ = some (.int .i64 (goneW p).1) := hl3 0 _ rfl
          have vc2 : wr.cell? ⟨w4.heap.size, 2, none⟩ = some (.bool (editsB p)) := HCB.out _ hb 2 _ rfl
          have vc3 : wr.cell? ⟨w4.heap.size, 3, none⟩ = some (.bool (p.delete != 0)) := HCB.out _ hb 3 _ rfl
          obtain ⟨eb, db, he1, hd1, hgw⟩ := gone_cases p
          rw [he1] at vc2
          rw [hd1] at vc3
          rw [hgw] at u0
          clear hcf hl1 hl3 hb he1 hd1 hgw
          rcases long_cases p b3 with ⟨hlw, q1, q2⟩ | ⟨hlw, q1, q2, q3⟩ | ⟨hlw, q1, q2, q3⟩
          all_goals rw [hlw] at v0 v1
          all_goals clear hlw
          all_goals cases eb
          all_goals cases db
          all_goals simp only [Bool.false_eq_true, if_false, if_true] at u0
          all_goals go_wp2
          all_goals go_quiet (fail)
          all_goals go_wp2
          all_goals go_ret
          all_goals exact ⟨rfl, below_drewN HBE.out _⟩
  · have HN := Lib.hid h0
    have HPC := Lib.hid hpc
    have hw0 : waysOf p = [] := by simp [waysOf, hpc, h0]
    have e1 : (pc != 0) = true := by simpa using h0
    rw [hw0]
    clear h0 hpc hw0 hq1
    go_wp2_with ((with_reducible show wpList _ _ _ (Oper.mk _ (Op.load 24 _) _ _ _ _ :: _) _ _); refine wpList_load_g rfl 24 (.tmp 1) rfl w.heap.size 0 rfl (p.cs A c).toList _ HRA3.out Try.underlying24 rfl (by kernel_rfl) ?_)
    refine (pCheck_any p A c w3 HR3.out hcap).mono ?_
    rw [HPC.out]
    rintro e w4 ⟨rfl, hb4⟩
    have HB4 := Lib.hid (HB3.out.trans (hb4.mono HB3.out.size))
    clear hb4
    go_wp2
    go_ret
    exact ⟨by simp, HB4.out⟩
end Go.Proofs.Ytebpnlbpdhgacaa
