/- Contract of the reference of ways.Compile. -/
import Derived.Test.YtebpnlbpdhgacaaWyH
import Derived.Deep.RegionHeld3
import Derived.Deep.DrawnRows
namespace Go.Proofs.Ytebpnlbpdhgacaa
open Go.RowKit
attribute [local go_sem ↓] Go.wp_at_zero Go.wp_at_succ

def wayC (x : Int × Int) : List Value := [.int .i64 x.1, .int .i64 x.2]
def wayL (p : Prof) : List (Int × Int) := [(0, 0), longW p, editW p, goneW p, reactW p, replyW p, ownW p.quote, ownW p.mention, fileW p]
def waysOf (p : Prof) : List (Int × Int) := if profCheck p = 0 then wayL p else []
/-- What both Compile return. -/
def WaysOut (p : Prof) (w : World) (e : Ending) (w' : World) : Prop :=
  Below w.heap.size w w' ∧ ∃ A c, e = .returned (.tuple #[.slice A (waysOf p).length c, .int .i64 (profCheck p)]) ∧ RdL 2 wayC w' w'.heap.size A (waysOf p)
theorem check_bounds (p : Prof) (h : profCheck p = 0) : 40 ≤ p.size ∧ p.size ≤ 4000 ∧ 1 ≤ p.parts ∧ p.parts ≤ 20 := by
  unfold profCheck at h
  split at h
  · split at h
    · cases h
    · rename_i h2
      simp [offB, boundsB, inR] at h2
      omega
  · cases h

theorem RdL.block {T : Type} {sz : Nat} {enc : T → List Value} (L : Lay sz enc) (w : World) (xs : List T) (cs : Array Value) (t : TypeId) (h : cs.toList = xs.flatMap enc) (b : Nat) (hb : b = w.heap.size) :
    RdL sz enc (w.alloc (.cells cs t)) (w.alloc (.cells cs t)).heap.size (some ⟨b, 0, none⟩) xs := by
  subst hb
  intro k x hx
  refine ⟨_, _, rfl, by simp, fun j v hj => ?_⟩
  have hg := flat_get L xs k j x v hx hj
  rw [← h] at hg
  unfold World.cell?
  simp only [heap_alloc_new]
  simpa using hg
theorem wayLay : Lay 2 wayC := ⟨fun _ => rfl, fun x u hu => by simp only [wayC, List.mem_cons, List.not_mem_nil, or_false] at hu; rcases hu with rfl | rfl <;> rfl⟩

set_option maxRecDepth 100000 in
set_option maxHeartbeats 4000000 in
theorem rCompile_any (p : Prof) (A : Option Addr) (c : Nat) (w : World) (hr : ProfOk w w.heap.size A p) : Calls Try.prog 9 #[p.v A c] w (WaysOut p w) := by
  have hb0 : Below w.heap.size w (w.alloc (.cells (p.cs A c) 24)) := (Below.refl _ _).alloc (Nat.le_refl _) _
  have hr0 := hr.now hb0
  have HB := Lib.hid hb0
  clear hb0
  have HRA := Lib.hid (boxRange w (p.cs A c) 24 (Below.refl _ _))
  go_enter Try.func9, Try.ntmps9
  go_wp2_with ((with_reducible show wpList _ _ _ (Oper.mk _ (Op.load 24 _) _ _ _ _ :: _) _ _); refine wpList_load_g rfl 24 (.tmp 1) rfl w.heap.size 0 rfl (p.cs A c).toList _ HRA.out Try.underlying24 rfl (by kernel_rfl) ?_)
  refine (rCheck_any p A c _ hr0).mono ?_
  rintro e w1 ⟨rfl, hb1⟩
  have hcc := boxCells w _ _ hb1
  have hra := boxRange w _ _ hb1
  have HB1 := Lib.hid (HB.out.trans (hb1.mono HB.out.size))
  have hs1 : w.heap.size < w1.heap.size := by have := hb1.size; simp at this; omega
  clear hb1 hr0 HRA
  have f6 := hcc 6 _ rfl
  have f7 := hcc 7 _ rfl
  clear hcc
  generalize hpc : profCheck p = pc
  have HPC := Lib.hid hpc
  clear hpc
  by_cases h0 : pc = 0
  · subst h0
    obtain ⟨b1, b2, b3, b4⟩ := check_bounds p HPC.out
    obtain ⟨cs, hcs⟩ : ∃ cs, cs = (p.cs A c).toList := ⟨_, rfl⟩
    have hv : p.v A c = .agg cs.toArray := by rw [hcs]
    have hi : (Try.prog.info? 24).map (·.size) = some cs.length := by rw [hcs]; kernel_rfl
    have hu := Try.underlying24
    rw [← hcs] at hra
    have k2 := fun w => Lib.hid (hv ▸ rLong_any p A c w b1 b2 b3 b4)
    have k3 := fun w => Lib.hid (hv ▸ rEdit_any p A c w)
    have k4 := fun w => Lib.hid (hv ▸ rGone_any p A c w)
    have k5 := fun w => Lib.hid (hv ▸ rReact_any p A c w)
    have k6 := fun w => Lib.hid (hv ▸ rReply_any p A c w)
    have k7 := fun w => Lib.hid (hv ▸ rFile_any p A c w)
    have HCS := Lib.hid hcs
    clear hcs hv
    have HRS := Lib.hid (show ∀ w', Below w1.heap.size w1 w' → w'.rangeAt w.heap.size 0 cs from fun w' h j v hj => (h.cell (p := ⟨_, _, none⟩) hs1).trans (hra j v hj))
    have HF6 := Lib.hid (show ∀ w', Below w1.heap.size w1 w' → w'.cell? ⟨w.heap.size, 6, none⟩ = some (.bool p.quote) from fun w' h => (h.cell (p := ⟨_, _, none⟩) hs1).trans f6)
    have HF7 := Lib.hid (show ∀ w', Below w1.heap.size w1 w' → w'.cell? ⟨w.heap.size, 7, none⟩ = some (.bool p.mention) from fun w' h => (h.cell (p := ⟨_, _, none⟩) hs1).trans f7)
    clear hra f6 f7
    go_wp2_with fail
    refine wp_region_held_drew (S := fun w' => Below w1.heap.size w1 w') (by kernel_rfl) ((Below.refl _ _).drew) (fun hHeld => ?_)
    refine' wpAnyH_take (i := 1) rfl (by kernel_rfl) (by kernel_rfl) (by kernel_rfl) (fun _ _ _ h => h) (yieldsIf_load_mid (by rfl) _ _ rfl _ _ rfl _ _ HRS.out hu rfl hi) (by assumption) ?_
    simp only [Act.put, List.setIfInBounds_toArray, List.set_cons_zero, List.set_cons_succ, List.getElem_toArray, List.getElem_cons_zero, List.getElem_cons_succ]
    refine' wpAnyH_take (i := 3) rfl (by kernel_rfl) (by kernel_rfl) (by kernel_rfl) (fun _ _ _ h => h) (yieldsIf_load_mid (by rfl) _ _ rfl _ _ rfl _ _ HRS.out hu rfl hi) (by assumption) ?_
    simp only [Act.put, List.setIfInBounds_toArray, List.set_cons_zero, List.set_cons_succ, List.getElem_toArray, List.getElem_cons_zero, List.getElem_cons_succ]
    refine' wpAnyH_take (i := 5) rfl (by kernel_rfl) (by kernel_rfl) (by kernel_rfl) (fun _ _ _ h => h) (yieldsIf_load_mid (by rfl) _ _ rfl _ _ rfl _ _ HRS.out hu rfl hi) (by assumption) ?_
    simp only [Act.put, List.setIfInBounds_toArray, List.set_cons_zero, List.set_cons_succ, List.getElem_toArray, List.getElem_cons_zero, List.getElem_cons_succ]
    refine' wpAnyH_take (i := 7) rfl (by kernel_rfl) (by kernel_rfl) (by kernel_rfl) (fun _ _ _ h => h) (yieldsIf_load_mid (by rfl) _ _ rfl _ _ rfl _ _ HRS.out hu rfl hi) (by assumption) ?_
    simp only [Act.put, List.setIfInBounds_toArray, List.set_cons_zero, List.set_cons_succ, List.getElem_toArray, List.getElem_cons_zero, List.getElem_cons_succ]
    refine' wpAnyH_take (i := 9) rfl (by kernel_rfl) (by kernel_rfl) (by kernel_rfl) (fun _ _ _ h => h) (yieldsIf_load_mid (by rfl) _ _ rfl _ _ rfl _ _ HRS.out hu rfl hi) (by assumption) ?_
    simp only [Act.put, List.setIfInBounds_toArray, List.set_cons_zero, List.set_cons_succ, List.getElem_toArray, List.getElem_cons_zero, List.getElem_cons_succ]
    refine' wpAnyH_take (i := 17) rfl (by kernel_rfl) (by kernel_rfl) (by kernel_rfl) (fun _ _ _ h => h) (yieldsIf_load_mid (by rfl) _ _ rfl _ _ rfl _ _ HRS.out hu rfl hi) (by assumption) ?_
    simp only [Act.put, List.setIfInBounds_toArray, List.set_cons_zero, List.set_cons_succ, List.getElem_toArray, List.getElem_cons_zero, List.getElem_cons_succ]
    refine wpAnyH_take (i := 11) (v := ?_) rfl (by kernel_rfl) (by kernel_rfl) (by kernel_rfl) (fun _ _ _ h => h) (Or.inl ⟨by rfl, ?_⟩) (by assumption) ?_
    rotate_left
    · intro wq hSw
      have hf6 := HF6.out _ hSw
      have hf7 := HF7.out _ hSw
      go_simp
      try with_reducible rfl
    simp only [Act.put, List.setIfInBounds_toArray, List.set_cons_zero, List.set_cons_succ, List.getElem_toArray, List.getElem_cons_zero, List.getElem_cons_succ]
    refine wpAnyH_take (i := 12) (v := ?_) rfl (by kernel_rfl) (by kernel_rfl) (by kernel_rfl) (fun _ _ _ h => h) (Or.inl ⟨by rfl, ?_⟩) (by assumption) ?_
    rotate_left
    · intro wq hSw
      have hf6 := HF6.out _ hSw
      have hf7 := HF7.out _ hSw
      go_simp
      try with_reducible rfl
    simp only [Act.put, List.setIfInBounds_toArray, List.set_cons_zero, List.set_cons_succ, List.getElem_toArray, List.getElem_cons_zero, List.getElem_cons_succ]
    refine wpAnyH_take (i := 14) (v := ?_) rfl (by kernel_rfl) (by kernel_rfl) (by kernel_rfl) (fun _ _ _ h => h) (Or.inl ⟨by rfl, ?_⟩) (by assumption) ?_
    rotate_left
    · intro wq hSw
      have hf6 := HF6.out _ hSw
      have hf7 := HF7.out _ hSw
      go_simp
      try with_reducible rfl
    simp only [Act.put, List.setIfInBounds_toArray, List.set_cons_zero, List.set_cons_succ, List.getElem_toArray, List.getElem_cons_zero, List.getElem_cons_succ]
    refine wpAnyH_take (i := 15) (v := ?_) rfl (by kernel_rfl) (by kernel_rfl) (by kernel_rfl) (fun _ _ _ h => h) (Or.inl ⟨by rfl, ?_⟩) (by assumption) ?_
    rotate_left
    · intro wq hSw
      have hf6 := HF6.out _ hSw
      have hf7 := HF7.out _ hSw
      go_simp
      try with_reducible rfl
    simp only [Act.put, List.setIfInBounds_toArray, List.set_cons_zero, List.set_cons_succ, List.getElem_toArray, List.getElem_cons_zero, List.getElem_cons_succ]
    refine wpAnyH_ready (rs := [0]) (by kernel_rfl) (by simp) ?_
    refine AllReadyH.cons rfl (fun K hK => ?_) AllReadyH.nil
    go_simp
    refine (way_any _ _ _).mono ?_
    rintro e w' ⟨rfl, hb'⟩
    go_wp2_with fail
    refine hK.out _ _ (hHeld.trans (hb'.mono hHeld.size)) ?_
    clear hK K hHeld hb'
    intro hHeld
    refine wpAnyH_ready (rs := [2]) (by kernel_rfl) (by simp) ?_
    refine AllReadyH.cons rfl (fun K hK => ?_) AllReadyH.nil
    go_simp
    refine (k2 _).out.mono ?_
    rintro e w' ⟨rfl, hb'⟩
    go_wp2_with fail
    refine hK.out _ _ (hHeld.trans (hb'.mono hHeld.size)) ?_
    clear hK K hHeld hb'
    intro hHeld
    refine wpAnyH_ready (rs := [4]) (by kernel_rfl) (by simp) ?_
    refine AllReadyH.cons rfl (fun K hK => ?_) AllReadyH.nil
    go_simp
    refine (k3 _).out.mono ?_
    rintro e w' ⟨rfl, hb'⟩
    go_wp2_with fail
    refine hK.out _ _ (hHeld.trans (hb'.mono hHeld.size)) ?_
    clear hK K hHeld hb'
    intro hHeld
    refine wpAnyH_ready (rs := [6]) (by kernel_rfl) (by simp) ?_
    refine AllReadyH.cons rfl (fun K hK => ?_) AllReadyH.nil
    go_simp
    refine (k4 _).out.mono ?_
    rintro e w' ⟨rfl, hb'⟩
    go_wp2_with fail
    refine hK.out _ _ (hHeld.trans (hb'.mono hHeld.size)) ?_
    clear hK K hHeld hb'
    intro hHeld
    refine wpAnyH_ready (rs := [8]) (by kernel_rfl) (by simp) ?_
    refine AllReadyH.cons rfl (fun K hK => ?_) AllReadyH.nil
    go_simp
    refine (k5 _).out.mono ?_
    rintro e w' ⟨rfl, hb'⟩
    go_wp2_with fail
    refine hK.out _ _ (hHeld.trans (hb'.mono hHeld.size)) ?_
    clear hK K hHeld hb'
    intro hHeld
    refine wpAnyH_ready (rs := [10]) (by kernel_rfl) (by simp) ?_
    refine AllReadyH.cons rfl (fun K hK => ?_) AllReadyH.nil
    go_simp
    refine (k6 _).out.mono ?_
    rintro e w' ⟨rfl, hb'⟩
    go_wp2_with fail
    refine hK.out _ _ (hHeld.trans (hb'.mono hHeld.size)) ?_
    clear hK K hHeld hb'
    intro hHeld
    refine wpAnyH_ready (rs := [13]) (by kernel_rfl) (by simp) ?_
    refine AllReadyH.cons rfl (fun K hK => ?_) AllReadyH.nil
    go_simp
    refine (rOwn_any _ _).mono ?_
    rintro e w' ⟨rfl, hb'⟩
    go_wp2_with fail
    refine hK.out _ _ (hHeld.trans (hb'.mono hHeld.size)) ?_
    clear hK K hHeld hb'
    intro hHeld
    refine wpAnyH_ready (rs := [16]) (by kernel_rfl) (by simp) ?_
    refine AllReadyH.cons rfl (fun K hK => ?_) AllReadyH.nil
    go_simp
    refine (rOwn_any _ _).mono ?_
    rintro e w' ⟨rfl, hb'⟩
    go_wp2_with fail
    refine hK.out _ _ (hHeld.trans (hb'.mono hHeld.size)) ?_
    clear hK K hHeld hb'
    intro hHeld
    refine wpAnyH_ready (rs := [18]) (by kernel_rfl) (by simp) ?_
    refine AllReadyH.cons rfl (fun K hK => ?_) AllReadyH.nil
    go_simp
    refine (k7 _).out.mono ?_
    rintro e w' ⟨rfl, hb'⟩
    go_wp2_with fail
    refine hK.out _ _ (hHeld.trans (hb'.mono hHeld.size)) ?_
    clear hK K hHeld hb'
    intro hHeld
    refine wpAnyH_ready (rs := [19]) (by kernel_rfl) (by simp) ?_
    refine AllReadyH.cons rfl (fun K hK => ?_) AllReadyH.nil
    unfold wayV
    go_simp
    refine hK.out _ _ (hHeld.alloc hHeld.size _) ?_
    clear hK K hHeld
    intro hHeld
    refine wpAnyH_take (i := 20) (v := ?_) rfl (by kernel_rfl) (by kernel_rfl) (by kernel_rfl) (fun _ _ _ h => h) (Or.inl ⟨by rfl, ?_⟩) (by assumption) ?_
    rotate_left
    · intro wq hSw
      have hf6 := HF6.out _ hSw
      have hf7 := HF7.out _ hSw
      go_simp
      try with_reducible rfl
    simp only [Act.put, List.setIfInBounds_toArray, List.set_cons_zero, List.set_cons_succ, List.getElem_toArray, List.getElem_cons_zero, List.getElem_cons_succ]
    refine wpAnyH_take (i := 21) (v := ?_) rfl (by kernel_rfl) (by kernel_rfl) (by kernel_rfl) (fun _ _ _ h => h) (Or.inl ⟨by rfl, ?_⟩) (by assumption) ?_
    rotate_left
    · intro wq hSw
      have hf6 := HF6.out _ hSw
      have hf7 := HF7.out _ hSw
      go_simp
      try with_reducible rfl
    simp only [Act.put, List.setIfInBounds_toArray, List.set_cons_zero, List.set_cons_succ, List.getElem_toArray, List.getElem_cons_zero, List.getElem_cons_succ]
    refine wpAnyH_done (by kernel_rfl) ?_ _
    have HH := Lib.hid (HB1.out.trans (hHeld.mono HB1.out.size))
    clear hHeld
    go_wp2
    go_ret2
    have hw : waysOf p = wayL p := by simp [waysOf, HPC.out]
    refine ⟨HH.out, some ⟨w'.heap.size, 0, none⟩, 9, ?_, ?_⟩
    · rw [hw, HPC.out]; simp [wayL]
    · rw [hw]; exact RdL.block wayLay w' (wayL p) _ _ rfl _ rfl
  · have HN := Lib.hid h0
    clear h0
    have e1 : (pc != 0) = true := by simpa using HN.out
    have e2 : (pc == 0) = false := by simpa using HN.out
    go_wp2
    go_ret2
    have hw : waysOf p = [] := by simp [waysOf, HPC.out, HN.out]
    exact ⟨HB1.out, none, 0, by rw [hw, HPC.out]; rfl, by rw [hw]; exact RdL.nil_⟩
end Go.Proofs.Ytebpnlbpdhgacaa
