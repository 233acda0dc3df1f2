/- The walk of WaysBetter. -/
import Derived.Test.YtebpnlbpdhgacaaWyTells
import Derived.Test.YtebpnlbpdhgacaaWyP
import Derived.Test.YtebpnlbpdhgacaaWyQ
import Derived.Great.BuildSlice
import Derived.Maps.RangeWalk
namespace Go.Proofs.Ytebpnlbpdhgacaa
open Go.RowKit
attribute [local go_sem ↓] Go.wp_at_zero Go.wp_at_succ

theorem rank_sym (h : Int) (w : World) : Calls Try.prog 15 #[.int .i64 h] w fun e w' => e = .returned (.int .i64 (rankI h)) ∧ w' = w := (rank_any h w).mono fun _ _ ⟨h1, h2⟩ => ⟨h1, h2.symm⟩
abbrev PAC := Prof × Option Addr × Nat
def profC (x : PAC) : List Value := (x.1.cs x.2.1 x.2.2).toList
theorem profLay : Lay 22 profC := ⟨fun _ => rfl, fun x u hu => by
  have h : (x.1.cs x.2.1 x.2.2).toList.all (·.oneCell') = true := by kernel_rfl
  exact List.all_eq_true.1 h u hu⟩
/-- The four profiles of the law. -/
structure LOk (g : Nat) (L : List PAC) (w : World) : Prop where
  len : L.length = 4
  rd : RdL 22 profC w w.heap.size (some ⟨g, 0, none⟩) L
  ok : ∀ x ∈ L, ProfOk w w.heap.size x.2.1 x.1 ∧ x.1.types.length ≤ x.2.2
theorem LOk.now {g : Nat} {L : List PAC} {w w' : World} (h : LOk g L w) (hb : Below w.heap.size w w') : LOk g L w' :=
  ⟨h.len, h.rd.now hb, fun x hx => ⟨(h.ok x hx).1.now hb, (h.ok x hx).2⟩⟩
theorem LOk.range {g : Nat} {L : List PAC} {w : World} (h : LOk g L w) (k : Nat) (hk : k < L.length) : w.rangeAt g (k * 22) (L[k].1.cs L[k].2.1 L[k].2.2).toList := by
  obtain ⟨b, off, e, _, hc⟩ := h.rd.at_ hk
  injection e with e
  injection e with e1 e2
  subst e1 e2
  intro j v hj
  have := hc j v hj
  rwa [Nat.zero_add] at this

set_option maxRecDepth 100000 in
set_option maxHeartbeats 4000000 in
theorem better_walk (p q : Prof) (A B : Option Addr) (c d : Nat) (w : World) (hr : ProfOk w w.heap.size A p) (hcp : p.types.length ≤ c) (hq : ProfOk w w.heap.size B q) (hcq : q.types.length ≤ d) : Calls Try.prog 5 #[p.v A c, q.v B d] w fun e w' => e = .returned (.bool true) ∧ Below w.heap.size w w' := by
  obtain ⟨W, hW⟩ : ∃ W, W = (w.alloc (.cells (p.cs A c) 24)).alloc (.cells (q.cs B d) 24) := ⟨_, rfl⟩
  have hb0 : Below w.heap.size w W := by rw [hW]; exact ((Below.refl w.heap.size w).alloc (Nat.le_refl _) (.cells (p.cs A c) 24)).alloc (by simp) (.cells (q.cs B d) 24)
  have hs0 : w.heap.size + 1 < W.heap.size := by rw [hW]; simp
  have hp0 : W.rangeAt w.heap.size 0 (p.cs A c).toList := by rw [hW]; exact boxRange w _ _ ((Below.refl _ _).alloc (by simp) _)
  have hq0 : W.rangeAt (w.heap.size + 1) 0 (q.cs B d).toList := by
    have := boxRange (w.alloc (.cells (p.cs A c) 24)) (q.cs B d) 24 (Below.refl _ _)
    rw [hW]
    simpa using this
  have HB0 := Lib.hid hb0
  have HP0 := Lib.hid hp0
  have HQ0 := Lib.hid hq0
  have HR0 := Lib.hid (hr.now hb0)
  have HS0 := Lib.hid (hq.now hb0)
  clear hb0 hp0 hq0 hr hq
  go_enter Try.func5, Try.ntmps5
  go_upto_region 1 with fail
  rw [← hW]
  clear hW
  go_wp2_with fail
  refine (small_any _).mono ?_
  rintro e w1 ⟨rfl, hb1⟩
  have HP1 := Lib.hid (range_below HP0.out hb1 (Nat.lt_of_succ_lt hs0))
  have HQ1 := Lib.hid (range_below HQ0.out hb1 hs0)
  have HR1 := Lib.hid (HR0.out.now hb1)
  have HS1 := Lib.hid (HS0.out.now hb1)
  have HB1 := Lib.hid (HB0.out.trans (hb1.mono HB0.out.size))
  have hs1 := Nat.lt_of_lt_of_le hs0 hb1.size
  clear hb1 HP0 HQ0 HR0 HS0 HB0 hs0
  go_wp2_with ((with_reducible show wpList _ _ _ (Oper.mk _ (Op.load 24 _) _ _ _ _ :: _) _ _); refine wpList_load_g rfl 24 (.tmp 2) rfl w.heap.size 0 rfl (p.cs A c).toList _ HP1.out Try.underlying24 rfl (by kernel_rfl) ?_)
  refine (few_any p A c w1 HR1.out).mono ?_
  rintro e w2 ⟨⟨b, rfl, hfp⟩, hb2⟩
  have HP2 := Lib.hid (range_below HP1.out hb2 (Nat.lt_of_succ_lt hs1))
  have HQ2 := Lib.hid (range_below HQ1.out hb2 hs1)
  have HR2 := Lib.hid (HR1.out.now hb2)
  have HS2 := Lib.hid (HS1.out.now hb2)
  have HB2 := Lib.hid (HB1.out.trans (hb2.mono HB1.out.size))
  have hs2 := Nat.lt_of_lt_of_le hs1 hb2.size
  clear hb2 HP1 HQ1 HR1 HS1 HB1 hs1
  cases b
  · go_wp2
    go_ret
    exact ⟨rfl, HB2.out⟩
  have hlp := hfp rfl
  clear hfp
  go_wp2_with ((with_reducible show wpList _ _ _ (Oper.mk _ (Op.load 24 _) _ _ _ _ :: _) _ _); refine wpList_load_g rfl 24 (.tmp 3) rfl (w.heap.size + 1) 0 rfl (q.cs B d).toList _ HQ2.out Try.underlying24 rfl (by kernel_rfl) ?_)
  refine (few_any q B d w2 HS2.out).mono ?_
  rintro e w3 ⟨⟨b, rfl, hfq⟩, hb3⟩
  have HP3 := Lib.hid (range_below HP2.out hb3 (Nat.lt_of_succ_lt hs2))
  have HQ3 := Lib.hid (range_below HQ2.out hb3 hs2)
  have HR3 := Lib.hid (HR2.out.now hb3)
  have HS3 := Lib.hid (HS2.out.now hb3)
  have HB3 := Lib.hid (HB2.out.trans (hb3.mono HB2.out.size))
  have hs3 := Nat.lt_of_lt_of_le hs2 hb3.size
  clear hb3 HP2 HQ2 HR2 HS2 HB2 hs2
  cases b
  · go_wp2
    go_ret
    exact ⟨rfl, HB3.out⟩
  have hlq := hfq rfl
  clear hfq
  have HRP := Lib.hid (show ∀ w', Below w3.heap.size w3 w' → w'.rangeAt w.heap.size 0 (p.cs A c).toList from fun w' h => range_below HP3.out h (Nat.lt_of_succ_lt hs3))
  have HRQ := Lib.hid (show ∀ w', Below w3.heap.size w3 w' → w'.rangeAt (w.heap.size + 1) 0 (q.cs B d).toList from fun w' h => range_below HQ3.out h hs3)
  go_wp2_with fail
  refine wp_region_held_drew (S := fun w' => Below w3.heap.size w3 w') (by kernel_rfl) ((Below.refl _ _).drew) (fun hHeld => ?_)
  refine' wpAnyH_take (i := 0) rfl (by kernel_rfl) (by kernel_rfl) (by kernel_rfl) (fun _ _ _ h => h) (yieldsIf_load_mid (by rfl) _ _ rfl _ _ rfl _ _ HRP.out Try.underlying24 rfl (by kernel_rfl)) (by assumption) ?_
  go_frame
  refine' wpAnyH_take (i := 1) rfl (by kernel_rfl) (by kernel_rfl) (by kernel_rfl) (fun _ _ _ h => h) (yieldsIf_load_mid (by rfl) _ _ rfl _ _ rfl _ _ HRQ.out Try.underlying24 rfl (by kernel_rfl)) (by assumption) ?_
  go_frame
  refine' wpAnyH_take (i := 2) rfl (by kernel_rfl) (by kernel_rfl) (by kernel_rfl) (fun _ _ _ h => h) (yieldsIf_load_mid (by rfl) _ _ rfl _ _ rfl _ _ HRP.out Try.underlying24 rfl (by kernel_rfl)) (by assumption) ?_
  go_frame
  refine' wpAnyH_take (i := 3) rfl (by kernel_rfl) (by kernel_rfl) (by kernel_rfl) (fun _ _ _ h => h) (yieldsIf_load_mid (by rfl) _ _ rfl _ _ rfl _ _ HRQ.out Try.underlying24 rfl (by kernel_rfl)) (by assumption) ?_
  go_frame
  refine' wpAnyH_take (i := 5) rfl (by kernel_rfl) (by kernel_rfl) (by kernel_rfl) (fun _ _ _ h => h) (yieldsIf_load_mid (by rfl) _ _ rfl _ _ rfl _ _ HRP.out Try.underlying24 rfl (by kernel_rfl)) (by assumption) ?_
  go_frame
  refine' wpAnyH_take (i := 6) rfl (by kernel_rfl) (by kernel_rfl) (by kernel_rfl) (fun _ _ _ h => h) (yieldsIf_load_mid (by rfl) _ _ rfl _ _ rfl _ _ HRQ.out Try.underlying24 rfl (by kernel_rfl)) (by assumption) ?_
  go_frame
  refine wpAnyH_ready (rs := [4]) (by kernel_rfl) (by simp) ?_
  refine AllReadyH.cons rfl (fun K hK => ?_) AllReadyH.nil
  go_simp
  refine (meet_any p q A B c d _ (HR3.out.now hHeld) (HS3.out.now hHeld) hlp hlq).mono ?_
  rintro e w4 ⟨hb4, m1, A1, c1, rfl, hm1, hcm1, _⟩
  go_wp2_with fail
  have HM1 := Lib.hid hm1
  refine hK.out _ _ (hHeld.trans (hb4.mono hHeld.size)) ?_
  clear hK K hHeld hb4 hm1
  intro hHeld
  refine wpAnyH_ready (rs := [7]) (by kernel_rfl) (by simp) ?_
  refine AllReadyH.cons rfl (fun K hK => ?_) AllReadyH.nil
  go_simp
  refine (join_any p q A B c d _ (HR3.out.now hHeld) (HS3.out.now hHeld) hlp hlq).mono ?_
  rintro e w5 ⟨hb5, m2, A2, c2, rfl, hm2, hcm2, _⟩
  go_wp2_with fail
  have HM2 := Lib.hid hm2
  have HM1b := Lib.hid (HM1.out.now hb5)
  refine hK.out _ _ (hHeld.trans (hb5.mono hHeld.size)) ?_
  clear hK K hHeld hb5 hm2 HM1
  intro hHeld
  obtain ⟨i0, hi0, z0, z1, z2⟩ := info_parts (show (Try.prog.info? 24).map (fun i => (i.zero, i.size, i.bytes)) = some (some (zeroP.v none 0), 22, 192) by kernel_rfl)
  refine wpAnyH_ready (rs := [8]) (by kernel_rfl) (by simp) ?_
  refine AllReadyH.cons rfl (fun K hK => ?_) AllReadyH.nil
  rw [if_pos (by rfl)]
  refine wp_buildSlice 37 24 4 _ rfl ([((p, A, c) : PAC), (q, B, d), (m1, A1, c1), (m2, A2, c2)].flatMap profC).toArray i0 _ Try.underlying37 hi0 z0 (by rw [z1]; decide) (by rw [z1]; decide) (by simp only [z1]; kernel_rfl) ?_
  go_frame
  refine hK.out _ _ (hHeld.alloc hHeld.size _) ?_
  clear hK K
  have hbb : Below w5.heap.size w5 (w5.alloc (.cells ([((p, A, c) : PAC), (q, B, d), (m1, A1, c1), (m2, A2, c2)].flatMap profC).toArray 24)) := (Below.refl _ _).alloc (Nat.le_refl _) _
  have hL : LOk w5.heap.size [((p, A, c) : PAC), (q, B, d), (m1, A1, c1), (m2, A2, c2)] (w5.alloc (.cells ([((p, A, c) : PAC), (q, B, d), (m1, A1, c1), (m2, A2, c2)].flatMap profC).toArray 24)) :=
    ⟨rfl, RdL.block profLay w5 _ _ _ (by simp) _ rfl, fun x hx => by
      simp only [List.mem_cons, List.not_mem_nil, or_false] at hx
      rcases hx with rfl | rfl | rfl | rfl
      · exact ⟨(HR3.out.now hHeld).now hbb, hcp⟩
      · exact ⟨(HS3.out.now hHeld).now hbb, hcq⟩
      · exact ⟨HM1b.out.now hbb, hcm1⟩
      · exact ⟨HM2.out.now hbb, hcm2⟩⟩
  have HBX := Lib.hid (HB3.out.trans ((hHeld.trans (hbb.mono hHeld.size)).mono HB3.out.size))
  generalize ([((p, A, c) : PAC), (q, B, d), (m1, A1, c1), (m2, A2, c2)]) = L at hL HBX ⊢
  generalize w5.heap.size = g at hL ⊢
  intro hHeld
  refine wpAnyH_take (i := 9) (v := ?_) rfl (by kernel_rfl) (by kernel_rfl) (by kernel_rfl) (fun _ _ _ h => h) (Or.inl ⟨by rfl, ?_⟩) (by assumption) ?_
  rotate_left
  · intro wq hSw
    go_simp
    try with_reducible rfl
  simp only [Act.put, List.setIfInBounds_toArray, List.set_cons_zero, List.set_cons_succ, List.getElem_toArray, List.getElem_cons_zero, List.getElem_cons_succ]
  refine wpAnyH_done (by kernel_rfl) (normal_gen (M := fun x => LOk g L x ∧ Below w.heap.size w x) ⟨hL, HBX.out⟩ (fun W6 hM => ?_)) _
  obtain ⟨hL6, hB6⟩ := hM
  clear hL HBX hHeld HM1b HM2 HR3 HS3 HP3 HQ3 HB3 HRP HRQ hi0 z0 z1 z2
  have HL6 := Lib.hid hL6
  have HB6 := Lib.hid hB6
  have hl4 := hL6.len
  clear hL6 hB6
  have HL4 := Lib.hid hl4
  clear hl4
  go_wp2_with fail
  go_loopw [7] (fun i wr => ∃ k : Nat, k ≤ 4 ∧ i = .int .i64 k ∧ LOk g L wr ∧ Below w.heap.size w wr) (fun i _ => 4 - (intOf i).toNat)
  case atStart => exact ⟨0, by omega, rfl, HL6.out, HB6.out⟩
  case round =>
    clear HL6 HB6
    obtain ⟨k, hk, rfl, hL, hB⟩ := hrel
    have HL := Lib.hid hL
    have HB := Lib.hid hB
    clear hL hB
    by_cases hlt : k < 4
    · have ek : decide ((k : Int) < 4) = true := by simp; omega
      have eki : (k : Int) < 4 := by omega
      obtain ⟨wo, rfl⟩ : ∃ wo : World, wo = wr := ⟨_, rfl⟩
      go_wp2_with fail
      go_loopw [8] (fun i wr => ∃ k : Nat, k ≤ 4 ∧ i = .int .i64 k ∧ LOk g L wr ∧ Below w.heap.size w wr) (fun i _ => 4 - (intOf i).toNat)
      case atStart => exact ⟨0, by omega, rfl, HL.out, HB.out⟩
      case round =>
        clear HL HB
        obtain ⟨l, hl, rfl, hL, hB⟩ := hrel
        have HL := Lib.hid hL
        have HB := Lib.hid hB
        clear hL hB
        by_cases hlt2 : l < 4
        · have el : decide ((l : Int) < 4) = true := by simp; omega
          have eli : (l : Int) < 4 := by omega
          have hk4 : k < L.length := by rw [HL4.out]; exact hlt
          have hl4 : l < L.length := by rw [HL4.out]; exact hlt2
          obtain ⟨x, hx⟩ : ∃ x, x = L[k] := ⟨_, rfl⟩
          obtain ⟨y, hy⟩ : ∃ y, y = L[l] := ⟨_, rfl⟩
          have HRX := Lib.hid (show ∀ w', LOk g L w' → w'.rangeAt g (k * 22) (x.1.cs x.2.1 x.2.2).toList from fun w' h => hx ▸ h.range k hk4)
          have HRY := Lib.hid (show ∀ w', LOk g L w' → w'.rangeAt g (l * 22) (y.1.cs y.2.1 y.2.2).toList from fun w' h => hy ▸ h.range l hl4)
          have HOX := Lib.hid (show ∀ w', LOk g L w' → ProfOk w' w'.heap.size x.2.1 x.1 ∧ x.1.types.length ≤ x.2.2 from fun w' h => h.ok x (hx ▸ List.getElem_mem hk4))
          have HOY := Lib.hid (show ∀ w', LOk g L w' → ProfOk w' w'.heap.size y.2.1 y.1 ∧ y.1.types.length ≤ y.2.2 from fun w' h => h.ok y (hy ▸ List.getElem_mem hl4))
          clear hx hy hk4 hl4
          go_wp2_with ((with_reducible show wpList _ _ _ (Oper.mk _ (Op.load 24 _) _ _ _ _ :: _) _ _); refine wpList_load_g rfl 24 (.tmp 44) rfl g (k * 22) rfl (x.1.cs x.2.1 x.2.2).toList _ (HRX.out _ HL.out) Try.underlying24 rfl (by kernel_rfl) ?_)
          refine (pCompile_any x.1 x.2.1 x.2.2 wr (HOX.out _ HL.out).1 (HOX.out _ HL.out).2).mono ?_
          rintro e wa ⟨hba, Ba, da, rfl, hqa⟩
          have HLa := Lib.hid (HL.out.now hba)
          have HBa := Lib.hid (HB.out.trans (hba.mono HB.out.size))
          have HQa := Lib.hid hqa
          clear hba hqa HL HB
          go_wp2_with ((with_reducible show wpList _ _ _ (Oper.mk _ (Op.load 24 _) _ _ _ _ :: _) _ _); refine wpList_load_g rfl 24 (.tmp 52) rfl g (l * 22) rfl (y.1.cs y.2.1 y.2.2).toList _ (HRY.out _ HLa.out) Try.underlying24 rfl (by kernel_rfl) ?_)
          refine (pCompile_any y.1 y.2.1 y.2.2 wa (HOY.out _ HLa.out).1 (HOY.out _ HLa.out).2).mono ?_
          rintro e wb ⟨hbb, Bb, db, rfl, hqb⟩
          have HLb := Lib.hid (HLa.out.now hbb)
          have HBb := Lib.hid (HBa.out.trans (hbb.mono HBa.out.size))
          have HQab := Lib.hid (HQa.out.now hbb)
          have HQb := Lib.hid hqb
          clear hbb hqb HLa HBa HQa
          generalize hpx : profCheck x.1 = ex
          generalize hpy : profCheck y.1 = ey
          have HPX := Lib.hid hpx
          have HPY := Lib.hid hpy
          clear hpx hpy
          by_cases h1 : ex = 0
          rotate_left
          · have e1 : (ex != 0) = true := by simpa using h1
            clear h1
            go_wp2_with fail
            refine wp_region_held_drew (S := fun w' => LOk g L w' ∧ Below w.heap.size w w' ∧ Below wb.heap.size wb w') (by kernel_rfl) ⟨HLb.out.now (Below.refl _ _).drew, HBb.out.drew, (Below.refl _ _).drew⟩ ?_
            clear HLb HBb
            intro hHeld
            refine wpAnyH_take (i := 0) (v := ?_) rfl (by kernel_rfl) (by kernel_rfl) (by kernel_rfl) (fun _ _ _ h => h) (Or.inl ⟨by rfl, ?_⟩) (by assumption) ?_
            rotate_left
            · intro wq hSw
              go_simp
              try with_reducible rfl
            simp only [Act.put, List.setIfInBounds_toArray, List.set_cons_zero, List.set_cons_succ, List.getElem_toArray, List.getElem_cons_zero]
            refine wpAnyH_take (i := 1) (v := ?_) rfl (by kernel_rfl) (by kernel_rfl) (by kernel_rfl) (fun _ _ _ h => h) (Or.inl ⟨by rfl, ?_⟩) (by assumption) ?_
            rotate_left
            · intro wq hSw
              go_simp
              try with_reducible rfl
            simp only [Act.put, List.setIfInBounds_toArray, List.set_cons_zero, List.set_cons_succ, List.getElem_toArray, List.getElem_cons_zero, List.getElem_cons_succ]
            refine wpAnyH_take (i := 2) (v := ?_) rfl (by kernel_rfl) (by kernel_rfl) (by kernel_rfl) (fun _ _ _ h => h) (Or.inl ⟨by rfl, ?_⟩) (by assumption) ?_
            rotate_left
            · intro wq hSw
              go_simp
              try with_reducible rfl
            simp only [Act.put, List.setIfInBounds_toArray, List.set_cons_zero, List.set_cons_succ, List.getElem_toArray, List.getElem_cons_zero, List.getElem_cons_succ]
            refine wpAnyH_take (i := 3) (v := undef) rfl (by kernel_rfl) (by kernel_rfl) (by kernel_rfl) (fun _ _ _ h => h) (Or.inr ⟨by rfl, rfl⟩) (by assumption) ?_
            simp only [Act.put, List.setIfInBounds_toArray, List.set_cons_zero, List.set_cons_succ, List.getElem_toArray, List.getElem_cons_zero, List.getElem_cons_succ]
            refine wpAnyH_take (i := 4) (v := undef) rfl (by kernel_rfl) (by kernel_rfl) (by kernel_rfl) (fun _ _ _ h => h) (Or.inr ⟨by rfl, rfl⟩) (by assumption) ?_
            simp only [Act.put, List.setIfInBounds_toArray, List.set_cons_zero, List.set_cons_succ, List.getElem_toArray, List.getElem_cons_zero, List.getElem_cons_succ]
            refine wpAnyH_take (i := 5) (v := ?_) rfl (by kernel_rfl) (by kernel_rfl) (by kernel_rfl) (fun _ _ _ h => h) (Or.inl ⟨by rfl, ?_⟩) (by assumption) ?_
            rotate_left
            · intro wq hSw
              go_simp
              try with_reducible rfl
            simp only [Act.put, List.setIfInBounds_toArray, List.set_cons_zero, List.set_cons_succ, List.getElem_toArray, List.getElem_cons_zero, List.getElem_cons_succ]
            refine wpAnyH_take (i := 6) (v := ?_) rfl (by kernel_rfl) (by kernel_rfl) (by kernel_rfl) (fun _ _ _ h => h) (Or.inl ⟨by rfl, ?_⟩) (by assumption) ?_
            rotate_left
            · intro wq hSw
              go_simp
              try with_reducible rfl
            simp only [Act.put, List.setIfInBounds_toArray, List.set_cons_zero, List.set_cons_succ, List.getElem_toArray, List.getElem_cons_zero, List.getElem_cons_succ]
            refine wpAnyH_take (i := 7) (v := undef) rfl (by kernel_rfl) (by kernel_rfl) (by kernel_rfl) (fun _ _ _ h => h) (Or.inr ⟨by rfl, rfl⟩) (by assumption) ?_
            simp only [Act.put, List.setIfInBounds_toArray, List.set_cons_zero, List.set_cons_succ, List.getElem_toArray, List.getElem_cons_zero, List.getElem_cons_succ]
            refine wpAnyH_take (i := 8) (v := undef) rfl (by kernel_rfl) (by kernel_rfl) (by kernel_rfl) (fun _ _ _ h => h) (Or.inr ⟨by rfl, rfl⟩) (by assumption) ?_
            simp only [Act.put, List.setIfInBounds_toArray, List.set_cons_zero, List.set_cons_succ, List.getElem_toArray, List.getElem_cons_zero, List.getElem_cons_succ]
            refine wpAnyH_take (i := 9) (v := undef) rfl (by kernel_rfl) (by kernel_rfl) (by kernel_rfl) (fun _ _ _ h => h) (Or.inr ⟨by rfl, rfl⟩) (by assumption) ?_
            simp only [Act.put, List.setIfInBounds_toArray, List.set_cons_zero, List.set_cons_succ, List.getElem_toArray, List.getElem_cons_zero, List.getElem_cons_succ]
            refine wpAnyH_take (i := 10) (v := undef) rfl (by kernel_rfl) (by kernel_rfl) (by kernel_rfl) (fun _ _ _ h => h) (Or.inr ⟨by rfl, rfl⟩) (by assumption) ?_
            simp only [Act.put, List.setIfInBounds_toArray, List.set_cons_zero, List.set_cons_succ, List.getElem_toArray, List.getElem_cons_zero, List.getElem_cons_succ]
            refine wpAnyH_take (i := 11) (v := undef) rfl (by kernel_rfl) (by kernel_rfl) (by kernel_rfl) (fun _ _ _ h => h) (Or.inr ⟨by rfl, rfl⟩) (by assumption) ?_
            simp only [Act.put, List.setIfInBounds_toArray, List.set_cons_zero, List.set_cons_succ, List.getElem_toArray, List.getElem_cons_zero, List.getElem_cons_succ]
            refine wpAnyH_take (i := 12) (v := undef) rfl (by kernel_rfl) (by kernel_rfl) (by kernel_rfl) (fun _ _ _ h => h) (Or.inr ⟨by rfl, rfl⟩) (by assumption) ?_
            simp only [Act.put, List.setIfInBounds_toArray, List.set_cons_zero, List.set_cons_succ, List.getElem_toArray, List.getElem_cons_zero, List.getElem_cons_succ]
            refine wpAnyH_take (i := 13) (v := undef) rfl (by kernel_rfl) (by kernel_rfl) (by kernel_rfl) (fun _ _ _ h => h) (Or.inr ⟨by rfl, rfl⟩) (by assumption) ?_
            simp only [Act.put, List.setIfInBounds_toArray, List.set_cons_zero, List.set_cons_succ, List.getElem_toArray, List.getElem_cons_zero, List.getElem_cons_succ]
            refine wpAnyH_take (i := 14) (v := undef) rfl (by kernel_rfl) (by kernel_rfl) (by kernel_rfl) (fun _ _ _ h => h) (Or.inr ⟨by rfl, rfl⟩) (by assumption) ?_
            simp only [Act.put, List.setIfInBounds_toArray, List.set_cons_zero, List.set_cons_succ, List.getElem_toArray, List.getElem_cons_zero, List.getElem_cons_succ]
            refine wpAnyH_take (i := 15) (v := undef) rfl (by kernel_rfl) (by kernel_rfl) (by kernel_rfl) (fun _ _ _ h => h) (Or.inr ⟨by rfl, rfl⟩) (by assumption) ?_
            simp only [Act.put, List.setIfInBounds_toArray, List.set_cons_zero, List.set_cons_succ, List.getElem_toArray, List.getElem_cons_zero, List.getElem_cons_succ]
            refine wpAnyH_take (i := 16) (v := undef) rfl (by kernel_rfl) (by kernel_rfl) (by kernel_rfl) (fun _ _ _ h => h) (Or.inr ⟨by rfl, rfl⟩) (by assumption) ?_
            simp only [Act.put, List.setIfInBounds_toArray, List.set_cons_zero, List.set_cons_succ, List.getElem_toArray, List.getElem_cons_zero, List.getElem_cons_succ]
            refine wpAnyH_take (i := 17) (v := ?_) rfl (by kernel_rfl) (by kernel_rfl) (by kernel_rfl) (fun _ _ _ h => h) (Or.inl ⟨by rfl, ?_⟩) (by assumption) ?_
            rotate_left
            · intro wq hSw
              go_simp
              try with_reducible rfl
            simp only [Act.put, List.setIfInBounds_toArray, List.set_cons_zero, List.set_cons_succ, List.getElem_toArray, List.getElem_cons_zero, List.getElem_cons_succ]
            have HZ0 := Lib.hid hHeld
            clear hHeld
            refine wpAnyH_done (by kernel_rfl) (normal_gen (M := fun w' => LOk g L w' ∧ Below w.heap.size w w' ∧ Below wb.heap.size wb w') HZ0.out (fun wz hM => ?_)) _
            obtain ⟨hLz, hBz, hBw⟩ := hM
            have HLz := Lib.hid hLz
            have HBz := Lib.hid hBz
            clear HZ0 hLz hBz
            go_wp2
            go_roundw
            case rel => exact ⟨l + 1, by omega, by go_num, HLz.out, HBz.out⟩
            case measure => simp [intOf]; omega
          subst h1
          by_cases h2 : ey = 0
          rotate_left
          · have e1 : (ey != 0) = true := by simpa using h2
            clear h2
            go_wp2_with fail
            refine wp_region_held_drew (S := fun w' => LOk g L w' ∧ Below w.heap.size w w' ∧ Below wb.heap.size wb w') (by kernel_rfl) ⟨HLb.out.now (Below.refl _ _).drew, HBb.out.drew, (Below.refl _ _).drew⟩ ?_
            clear HLb HBb
            intro hHeld
            refine wpAnyH_take (i := 0) (v := ?_) rfl (by kernel_rfl) (by kernel_rfl) (by kernel_rfl) (fun _ _ _ h => h) (Or.inl ⟨by rfl, ?_⟩) (by assumption) ?_
            rotate_left
            · intro wq hSw
              go_simp
              try with_reducible rfl
            simp only [Act.put, List.setIfInBounds_toArray, List.set_cons_zero, List.set_cons_succ, List.getElem_toArray, List.getElem_cons_zero]
            refine wpAnyH_take (i := 1) (v := ?_) rfl (by kernel_rfl) (by kernel_rfl) (by kernel_rfl) (fun _ _ _ h => h) (Or.inl ⟨by rfl, ?_⟩) (by assumption) ?_
            rotate_left
            · intro wq hSw
              go_simp
              try with_reducible rfl
            simp only [Act.put, List.setIfInBounds_toArray, List.set_cons_zero, List.set_cons_succ, List.getElem_toArray, List.getElem_cons_zero, List.getElem_cons_succ]
            refine wpAnyH_take (i := 2) (v := ?_) rfl (by kernel_rfl) (by kernel_rfl) (by kernel_rfl) (fun _ _ _ h => h) (Or.inl ⟨by rfl, ?_⟩) (by assumption) ?_
            rotate_left
            · intro wq hSw
              go_simp
              try with_reducible rfl
            simp only [Act.put, List.setIfInBounds_toArray, List.set_cons_zero, List.set_cons_succ, List.getElem_toArray, List.getElem_cons_zero, List.getElem_cons_succ]
            refine wpAnyH_take (i := 3) (v := ?_) rfl (by kernel_rfl) (by kernel_rfl) (by kernel_rfl) (fun _ _ _ h => h) (Or.inl ⟨by rfl, ?_⟩) (by assumption) ?_
            rotate_left
            · intro wq hSw
              go_simp
              try with_reducible rfl
            simp only [Act.put, List.setIfInBounds_toArray, List.set_cons_zero, List.set_cons_succ, List.getElem_toArray, List.getElem_cons_zero, List.getElem_cons_succ]
            refine wpAnyH_take (i := 4) (v := ?_) rfl (by kernel_rfl) (by kernel_rfl) (by kernel_rfl) (fun _ _ _ h => h) (Or.inl ⟨by rfl, ?_⟩) (by assumption) ?_
            rotate_left
            · intro wq hSw
              go_simp
              try with_reducible rfl
            simp only [Act.put, List.setIfInBounds_toArray, List.set_cons_zero, List.set_cons_succ, List.getElem_toArray, List.getElem_cons_zero, List.getElem_cons_succ]
            refine wpAnyH_take (i := 5) (v := ?_) rfl (by kernel_rfl) (by kernel_rfl) (by kernel_rfl) (fun _ _ _ h => h) (Or.inl ⟨by rfl, ?_⟩) (by assumption) ?_
            rotate_left
            · intro wq hSw
              go_simp
              try with_reducible rfl
            simp only [Act.put, List.setIfInBounds_toArray, List.set_cons_zero, List.set_cons_succ, List.getElem_toArray, List.getElem_cons_zero, List.getElem_cons_succ]
            refine wpAnyH_take (i := 6) (v := ?_) rfl (by kernel_rfl) (by kernel_rfl) (by kernel_rfl) (fun _ _ _ h => h) (Or.inl ⟨by rfl, ?_⟩) (by assumption) ?_
            rotate_left
            · intro wq hSw
              go_simp
              try with_reducible rfl
            simp only [Act.put, List.setIfInBounds_toArray, List.set_cons_zero, List.set_cons_succ, List.getElem_toArray, List.getElem_cons_zero, List.getElem_cons_succ]
            refine wpAnyH_take (i := 7) (v := undef) rfl (by kernel_rfl) (by kernel_rfl) (by kernel_rfl) (fun _ _ _ h => h) (Or.inr ⟨by rfl, rfl⟩) (by assumption) ?_
            simp only [Act.put, List.setIfInBounds_toArray, List.set_cons_zero, List.set_cons_succ, List.getElem_toArray, List.getElem_cons_zero, List.getElem_cons_succ]
            refine wpAnyH_take (i := 8) (v := undef) rfl (by kernel_rfl) (by kernel_rfl) (by kernel_rfl) (fun _ _ _ h => h) (Or.inr ⟨by rfl, rfl⟩) (by assumption) ?_
            simp only [Act.put, List.setIfInBounds_toArray, List.set_cons_zero, List.set_cons_succ, List.getElem_toArray, List.getElem_cons_zero, List.getElem_cons_succ]
            refine wpAnyH_take (i := 9) (v := undef) rfl (by kernel_rfl) (by kernel_rfl) (by kernel_rfl) (fun _ _ _ h => h) (Or.inr ⟨by rfl, rfl⟩) (by assumption) ?_
            simp only [Act.put, List.setIfInBounds_toArray, List.set_cons_zero, List.set_cons_succ, List.getElem_toArray, List.getElem_cons_zero, List.getElem_cons_succ]
            refine wpAnyH_take (i := 10) (v := undef) rfl (by kernel_rfl) (by kernel_rfl) (by kernel_rfl) (fun _ _ _ h => h) (Or.inr ⟨by rfl, rfl⟩) (by assumption) ?_
            simp only [Act.put, List.setIfInBounds_toArray, List.set_cons_zero, List.set_cons_succ, List.getElem_toArray, List.getElem_cons_zero, List.getElem_cons_succ]
            refine wpAnyH_take (i := 11) (v := undef) rfl (by kernel_rfl) (by kernel_rfl) (by kernel_rfl) (fun _ _ _ h => h) (Or.inr ⟨by rfl, rfl⟩) (by assumption) ?_
            simp only [Act.put, List.setIfInBounds_toArray, List.set_cons_zero, List.set_cons_succ, List.getElem_toArray, List.getElem_cons_zero, List.getElem_cons_succ]
            refine wpAnyH_take (i := 12) (v := undef) rfl (by kernel_rfl) (by kernel_rfl) (by kernel_rfl) (fun _ _ _ h => h) (Or.inr ⟨by rfl, rfl⟩) (by assumption) ?_
            simp only [Act.put, List.setIfInBounds_toArray, List.set_cons_zero, List.set_cons_succ, List.getElem_toArray, List.getElem_cons_zero, List.getElem_cons_succ]
            refine wpAnyH_take (i := 13) (v := undef) rfl (by kernel_rfl) (by kernel_rfl) (by kernel_rfl) (fun _ _ _ h => h) (Or.inr ⟨by rfl, rfl⟩) (by assumption) ?_
            simp only [Act.put, List.setIfInBounds_toArray, List.set_cons_zero, List.set_cons_succ, List.getElem_toArray, List.getElem_cons_zero, List.getElem_cons_succ]
            refine wpAnyH_take (i := 14) (v := undef) rfl (by kernel_rfl) (by kernel_rfl) (by kernel_rfl) (fun _ _ _ h => h) (Or.inr ⟨by rfl, rfl⟩) (by assumption) ?_
            simp only [Act.put, List.setIfInBounds_toArray, List.set_cons_zero, List.set_cons_succ, List.getElem_toArray, List.getElem_cons_zero, List.getElem_cons_succ]
            refine wpAnyH_take (i := 15) (v := undef) rfl (by kernel_rfl) (by kernel_rfl) (by kernel_rfl) (fun _ _ _ h => h) (Or.inr ⟨by rfl, rfl⟩) (by assumption) ?_
            simp only [Act.put, List.setIfInBounds_toArray, List.set_cons_zero, List.set_cons_succ, List.getElem_toArray, List.getElem_cons_zero, List.getElem_cons_succ]
            refine wpAnyH_take (i := 16) (v := undef) rfl (by kernel_rfl) (by kernel_rfl) (by kernel_rfl) (fun _ _ _ h => h) (Or.inr ⟨by rfl, rfl⟩) (by assumption) ?_
            simp only [Act.put, List.setIfInBounds_toArray, List.set_cons_zero, List.set_cons_succ, List.getElem_toArray, List.getElem_cons_zero, List.getElem_cons_succ]
            refine wpAnyH_take (i := 17) (v := ?_) rfl (by kernel_rfl) (by kernel_rfl) (by kernel_rfl) (fun _ _ _ h => h) (Or.inl ⟨by rfl, ?_⟩) (by assumption) ?_
            rotate_left
            · intro wq hSw
              go_simp
              try with_reducible rfl
            simp only [Act.put, List.setIfInBounds_toArray, List.set_cons_zero, List.set_cons_succ, List.getElem_toArray, List.getElem_cons_zero, List.getElem_cons_succ]
            have HZ0 := Lib.hid hHeld
            clear hHeld
            refine wpAnyH_done (by kernel_rfl) (normal_gen (M := fun w' => LOk g L w' ∧ Below w.heap.size w w' ∧ Below wb.heap.size wb w') HZ0.out (fun wz hM => ?_)) _
            obtain ⟨hLz, hBz, hBw⟩ := hM
            have HLz := Lib.hid hLz
            have HBz := Lib.hid hBz
            clear HZ0 hLz hBz
            go_wp2
            go_roundw
            case rel => exact ⟨l + 1, by omega, by go_num, HLz.out, HBz.out⟩
            case measure => simp [intOf]; omega
          subst h2
          · have hwx : waysOf x.1 = wayL x.1 := by simp [waysOf, HPX.out]
            have hwy : waysOf y.1 = wayL y.1 := by simp [waysOf, HPY.out]
            have h9x : (waysOf x.1).length = 9 := by rw [hwx]; rfl
            have h9y : (waysOf y.1).length = 9 := by rw [hwy]; rfl
            have hqx := HQab.out
            have hqy := HQb.out
            rw [hwx] at hqx
            rw [hwy] at hqy
            have HQX := Lib.hid hqx
            have HQY := Lib.hid hqy
            rw [h9x, h9y]
            clear hwx hwy h9x h9y hqx hqy HQab HQb
            go_wp2_with fail
            refine wp_region_held_drew (S := fun w' => LOk g L w' ∧ Below w.heap.size w w' ∧ Below wb.heap.size wb w') (by kernel_rfl) ⟨HLb.out.now (Below.refl _ _).drew, HBb.out.drew, (Below.refl _ _).drew⟩ ?_
            clear HLb HBb
            intro hHeld
            refine wpAnyH_take (i := 0) (v := ?_) rfl (by kernel_rfl) (by kernel_rfl) (by kernel_rfl) (fun _ _ _ h => h) (Or.inl ⟨by rfl, ?_⟩) (by assumption) ?_
            rotate_left
            · intro wq hSw
              go_simp
              try with_reducible rfl
            simp only [Act.put, List.setIfInBounds_toArray, List.set_cons_zero, List.set_cons_succ, List.getElem_toArray, List.getElem_cons_zero]
            refine wpAnyH_take (i := 1) (v := ?_) rfl (by kernel_rfl) (by kernel_rfl) (by kernel_rfl) (fun _ _ _ h => h) (Or.inl ⟨by rfl, ?_⟩) (by assumption) ?_
            rotate_left
            · intro wq hSw
              go_simp
              try with_reducible rfl
            simp only [Act.put, List.setIfInBounds_toArray, List.set_cons_zero, List.set_cons_succ, List.getElem_toArray, List.getElem_cons_zero, List.getElem_cons_succ]
            refine wpAnyH_take (i := 2) (v := ?_) rfl (by kernel_rfl) (by kernel_rfl) (by kernel_rfl) (fun _ _ _ h => h) (Or.inl ⟨by rfl, ?_⟩) (by assumption) ?_
            rotate_left
            · intro wq hSw
              go_simp
              try with_reducible rfl
            simp only [Act.put, List.setIfInBounds_toArray, List.set_cons_zero, List.set_cons_succ, List.getElem_toArray, List.getElem_cons_zero, List.getElem_cons_succ]
            refine wpAnyH_take (i := 3) (v := ?_) rfl (by kernel_rfl) (by kernel_rfl) (by kernel_rfl) (fun _ _ _ h => h) (Or.inl ⟨by rfl, ?_⟩) (by assumption) ?_
            rotate_left
            · intro wq hSw
              go_simp
              try with_reducible rfl
            simp only [Act.put, List.setIfInBounds_toArray, List.set_cons_zero, List.set_cons_succ, List.getElem_toArray, List.getElem_cons_zero, List.getElem_cons_succ]
            refine wpAnyH_take (i := 4) (v := ?_) rfl (by kernel_rfl) (by kernel_rfl) (by kernel_rfl) (fun _ _ _ h => h) (Or.inl ⟨by rfl, ?_⟩) (by assumption) ?_
            rotate_left
            · intro wq hSw
              go_simp
              try with_reducible rfl
            simp only [Act.put, List.setIfInBounds_toArray, List.set_cons_zero, List.set_cons_succ, List.getElem_toArray, List.getElem_cons_zero, List.getElem_cons_succ]
            refine wpAnyH_take (i := 5) (v := ?_) rfl (by kernel_rfl) (by kernel_rfl) (by kernel_rfl) (fun _ _ _ h => h) (Or.inl ⟨by rfl, ?_⟩) (by assumption) ?_
            rotate_left
            · intro wq hSw
              go_simp
              try with_reducible rfl
            simp only [Act.put, List.setIfInBounds_toArray, List.set_cons_zero, List.set_cons_succ, List.getElem_toArray, List.getElem_cons_zero, List.getElem_cons_succ]
            refine wpAnyH_take (i := 6) (v := ?_) rfl (by kernel_rfl) (by kernel_rfl) (by kernel_rfl) (fun _ _ _ h => h) (Or.inl ⟨by rfl, ?_⟩) (by assumption) ?_
            rotate_left
            · intro wq hSw
              go_simp
              try with_reducible rfl
            simp only [Act.put, List.setIfInBounds_toArray, List.set_cons_zero, List.set_cons_succ, List.getElem_toArray, List.getElem_cons_zero, List.getElem_cons_succ]
            refine wpAnyH_take (i := 7) (v := ?_) rfl (by kernel_rfl) (by kernel_rfl) (by kernel_rfl) (fun _ _ _ h => h) (Or.inl ⟨by rfl, ?_⟩) (by assumption) ?_
            rotate_left
            · intro wq hSw
              go_simp
              try with_reducible rfl
            simp only [Act.put, List.setIfInBounds_toArray, List.set_cons_zero, List.set_cons_succ, List.getElem_toArray, List.getElem_cons_zero, List.getElem_cons_succ]
            refine wpAnyH_take (i := 8) (v := ?_) rfl (by kernel_rfl) (by kernel_rfl) (by kernel_rfl) (fun _ _ _ h => h) (Or.inl ⟨by rfl, ?_⟩) (by assumption) ?_
            rotate_left
            · intro wq hSw
              go_simp
              try with_reducible rfl
            simp only [Act.put, List.setIfInBounds_toArray, List.set_cons_zero, List.set_cons_succ, List.getElem_toArray, List.getElem_cons_zero, List.getElem_cons_succ]
            refine wpAnyH_take (i := 9) (v := ?_) rfl (by kernel_rfl) (by kernel_rfl) (by kernel_rfl) (fun _ _ _ h => h) (Or.inl ⟨by rfl, ?_⟩) (by assumption) ?_
            rotate_left
            · intro wq hSw
              go_simp
              try with_reducible rfl
            simp only [Act.put, List.setIfInBounds_toArray, List.set_cons_zero, List.set_cons_succ, List.getElem_toArray, List.getElem_cons_zero, List.getElem_cons_succ]
            refine' wpAnyH_take (i := 10) rfl (by kernel_rfl) (by kernel_rfl) (by kernel_rfl) (fun _ _ _ h => h) (yieldsIf_load_mid (by rfl) _ _ rfl _ _ rfl _ _ (fun w' h => HRX.out w' h.1) Try.underlying24 rfl (by kernel_rfl)) (by assumption) ?_
            go_frame
            refine wpAnyH_take (i := 11) (v := ?_) rfl (by kernel_rfl) (by kernel_rfl) (by kernel_rfl) (fun _ _ _ h => h) (Or.inl ⟨by rfl, ?_⟩) (by assumption) ?_
            rotate_left
            · intro wq hSw
              go_simp
              try with_reducible rfl
            simp only [Act.put, List.setIfInBounds_toArray, List.set_cons_zero, List.set_cons_succ, List.getElem_toArray, List.getElem_cons_zero, List.getElem_cons_succ]
            refine wpAnyH_take (i := 12) (v := ?_) rfl (by kernel_rfl) (by kernel_rfl) (by kernel_rfl) (fun _ _ _ h => h) (Or.inl ⟨by rfl, ?_⟩) (by assumption) ?_
            rotate_left
            · intro wq hSw
              go_simp
              try with_reducible rfl
            simp only [Act.put, List.setIfInBounds_toArray, List.set_cons_zero, List.set_cons_succ, List.getElem_toArray, List.getElem_cons_zero, List.getElem_cons_succ]
            refine wpAnyH_take (i := 13) (v := ?_) rfl (by kernel_rfl) (by kernel_rfl) (by kernel_rfl) (fun _ _ _ h => h) (Or.inl ⟨by rfl, ?_⟩) (by assumption) ?_
            rotate_left
            · intro wq hSw
              go_simp
              try with_reducible rfl
            simp only [Act.put, List.setIfInBounds_toArray, List.set_cons_zero, List.set_cons_succ, List.getElem_toArray, List.getElem_cons_zero, List.getElem_cons_succ]
            refine' wpAnyH_take (i := 14) rfl (by kernel_rfl) (by kernel_rfl) (by kernel_rfl) (fun _ _ _ h => h) (yieldsIf_load_mid (by rfl) _ _ rfl _ _ rfl _ _ (fun w' h => HRY.out w' h.1) Try.underlying24 rfl (by kernel_rfl)) (by assumption) ?_
            go_frame
            refine wpAnyH_ready (rs := [15]) (by kernel_rfl) (by simp) ?_
            refine AllReadyH.cons rfl (fun K hK => ?_) AllReadyH.nil
            go_simp
            refine (atMost_any x.1 y.1 x.2.1 y.2.1 x.2.2 y.2.2 _ (HOX.out _ hHeld.1).1 (HOY.out _ hHeld.1).1).mono ?_
            rintro e wm ⟨rfl, hbm⟩
            go_wp2_with fail
            refine hK.out _ _ ⟨hHeld.1.now hbm, hHeld.2.1.trans (hbm.mono hHeld.2.1.size), hHeld.2.2.trans (hbm.mono hHeld.2.2.size)⟩ ?_
            clear hK K hHeld hbm
            intro hHeld
            generalize ham : atMostB x.1 y.1 = am
            have HAM := Lib.hid ham
            clear ham
            refine wpAnyH_take (i := 16) (v := ?_) rfl (by kernel_rfl) (by kernel_rfl) (by kernel_rfl) (fun _ _ _ h => h) (Or.inl ⟨by rfl, ?_⟩) (by assumption) ?_
            rotate_left
            · intro wq hSw
              go_simp
              try with_reducible rfl
            simp only [Act.put, List.setIfInBounds_toArray, List.set_cons_zero, List.set_cons_succ, List.getElem_toArray, List.getElem_cons_zero, List.getElem_cons_succ]
            refine wpAnyH_take (i := 17) (v := ?_) rfl (by kernel_rfl) (by kernel_rfl) (by kernel_rfl) (fun _ _ _ h => h) (Or.inl ⟨by rfl, ?_⟩) (by assumption) ?_
            rotate_left
            · intro wq hSw
              go_simp
              try with_reducible rfl
            simp only [Act.put, List.setIfInBounds_toArray, List.set_cons_zero, List.set_cons_succ, List.getElem_toArray, List.getElem_cons_zero, List.getElem_cons_succ]
            have HZ0 := Lib.hid hHeld
            clear hHeld
            refine wpAnyH_done (by kernel_rfl) (normal_gen (M := fun w' => LOk g L w' ∧ Below w.heap.size w w' ∧ Below wb.heap.size wb w') HZ0.out (fun wz hM => ?_)) _
            obtain ⟨hLz, hBz, hBw⟩ := hM
            have HLz := Lib.hid hLz
            have HBz := Lib.hid hBz
            clear HZ0 hLz hBz
            cases am
            · skip
              go_wp2
              go_roundw
              case rel => exact ⟨l + 1, by omega, by go_num, HLz.out, HBz.out⟩
              case measure => simp [intOf]; omega
            · have HCE := Lib.hid (show ∀ (j : Nat) (u v : Int × Int), (wayL x.1)[j]? = some u → (wayL y.1)[j]? = some v → rankI v.1 ≤ rankI u.1 from fun j u v hu hv => rank_le x.1 y.1 HPX.out HPY.out HAM.out j u v hu hv)
              have HQXz := Lib.hid (HQX.out.now hBw)
              have HQYz := Lib.hid (HQY.out.now hBw)
              clear hBw HQX HQY
              go_wp2_with fail
              go_loopw [13] (fun i wr => ∃ j : Nat, j ≤ 9 ∧ i = .int .i64 j ∧ Below wz.heap.size wz wr) (fun i _ => 9 - (intOf i).toNat)
              case atStart => exact ⟨0, by omega, rfl, Below.refl _ _⟩
              case round =>
                obtain ⟨j, hj, rfl, hbj⟩ := hrel
                by_cases hlt3 : j < 9
                · have hjx : j < (wayL x.1).length := hlt3
                  have hjy : j < (wayL y.1).length := hlt3
                  obtain ⟨⟨u1, u2⟩, hu⟩ : ∃ u, (wayL x.1)[j]? = some u := ⟨_, List.getElem?_eq_getElem hjx⟩
                  obtain ⟨⟨v1, v2⟩, hv⟩ : ∃ u, (wayL y.1)[j]? = some u := ⟨_, List.getElem?_eq_getElem hjy⟩
                  obtain ⟨bx, ox, rfl, hbx, hcx⟩ := (HQXz.out.now hbj) j _ hu
                  obtain ⟨by_, oy, rfl, hby, hcy⟩ := (HQYz.out.now hbj) j _ hv
                  have hrk := HCE.out j (u1, u2) (v1, v2) hu hv
                  have cx := hcx 0 _ rfl
                  have cy := hcy 0 _ rfl
                  simp only [Nat.add_zero] at cx cy
                  have er : decide (rankI u1 < rankI v1) = false := by simp; exact hrk
                  clear hrk hu hv hcx hcy hjx hjy
                  go_wp2_with fail
                  go_quiet ((go_at_call 15; exact Calls.quiet_of_same (rank_sym _ _)))
                  go_wp2
                  go_roundw
                  case rel => exact ⟨j + 1, by omega, by go_num, below_drewN hbj _⟩
                  case measure => simp [intOf]; omega
                · have HLy := Lib.hid (HLz.out.now hbj)
                  have HBy := Lib.hid (HBz.out.trans (hbj.mono HBz.out.size))
                  clear hbj
                  go_wp2
                  go_roundw
                  case rel => exact ⟨l + 1, by omega, by go_num, HLy.out, HBy.out⟩
                  case measure => simp [intOf]; omega
        · go_wp2
          go_roundw
          case rel => exact ⟨k + 1, by omega, by go_num, HL.out, HB.out⟩
          case measure => simp [intOf]; omega
    · go_wp2
      go_ret
      exact ⟨rfl, HB.out⟩
end Go.Proofs.Ytebpnlbpdhgacaa
