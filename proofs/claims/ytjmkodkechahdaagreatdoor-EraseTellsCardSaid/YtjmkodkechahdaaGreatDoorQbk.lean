/- Contracts and plain laws, joined: ErXd, ErXe, ErMyOpen. -/
import Derived.Test.YtjmkodkechahdaaGreatDoorQbj
import Derived.Test.YtjmkodkechahdaaGreatDoorQbi
import Derived.Test.YtjmkodkechahdaaGreatDoorQbh
import Derived.Test.YtjmkodkechahdaaGreatDoorQau
import Derived.Test.YtjmkodkechahdaaGreatDoorQbe
/- Contracts of lingualaw43.does and models: an act on a disk, and on a disk of the reference. -/
set_option linter.unusedSimpArgs false
set_option linter.unusedVariables false
namespace Go.Proofs.YtjmkodkechahdaaGreatDoor
open Go.RowKit
set_option maxRecDepth 100000

def hdL (l : List (List UInt8)) : List UInt8 := l.headD []
def eaC (S : DS) (a : EA) : Int := if a.kind = 0 then (rewE S a.file a.recs).1 else if a.kind = 1 then recC S a.file else if a.kind = 2 ∧ a.recs ≠ [] then S.writeC a.file a.n (bs (hdL a.recs)) else 0
def eaS (S : DS) (a : EA) : DS :=
  if a.kind = 0 then (rewE S a.file a.recs).2 else if a.kind = 1 then recS S a.file else if a.kind = 2 ∧ a.recs ≠ [] then S.write a.file a.n (bs (hdL a.recs)) else if a.kind = 3 then S.lose a.n else if a.kind = 4 then S.arm a.n a.keep
  else if a.kind = 5 then S.crash a.keep else if a.kind = 6 then S.start else S
def eaL (S : DS) (a : EA) : List (List UInt8) := if a.kind = 1 then recL S a.file else []
theorem eaS_keep {S : DS} {a : EA} (hk : S.keep.length ≤ 20) (ha : a.keep.length ≤ 20) : (eaS S a).keep.length ≤ 20 := by
  unfold eaS
  split
  · rw [rewE_keep]; exact hk
  split
  · rw [recS_keep]; exact hk
  split
  · rw [write_keep]; exact hk
  split
  · exact hk
  split
  · exact ha
  split
  · rw [crash_keep]; exact hk
  split
  · exact hk
  · exact hk
theorem head_cell {w : World} {B : Nat} {A : Option Addr} {l : List (List UInt8)} (h : RdL 1 strE w B A l) (hl : 0 < l.length) : ∃ b off, A = some ⟨b, off, none⟩ ∧ b < B ∧ w.cell? ⟨b, off, none⟩ = some (.string (bs (hdL l))) := by
  obtain ⟨b, off, e, hb, hc⟩ := h.at_ hl
  refine ⟨b, off, e, hb, ?_⟩
  cases l with
  | nil => simp at hl
  | cons x r => simpa [hdL] using hc 0 _ rfl
def DoesPost (p : Nat) (S : DS) (D : DL) (a : EA) (w : World) (e : Ending) (w' : World) : Prop :=
  ∃ D' A c, e = .returned (.tuple #[.slice A (eaL S a).length c, .int .i64 (eaC S a)]) ∧ OUpd (dOb p S D) ((dOb p (eaS S a) D').sep (slOb A c (eaL S a))) w w'
def ModsPost (p : Nat) (S : DS) (D : RL) (a : EA) (w : World) (e : Ending) (w' : World) : Prop :=
  ∃ D' A c, e = .returned (.tuple #[.slice A (eaL S a).length c, .int .i64 (eaC S a)]) ∧ OUpd (fOb p S D) ((fOb p (eaS S a) D').sep (slOb A c (eaL S a))) w w'
-- acNil X : the end where no list comes back: hu : OUpd X X' w w'
-- the drawn region of a Write
set_option maxHeartbeats 4000000 in
theorem lDoes_any {B : Nat} (p : Nat) (S : DS) (D : DL) (a : EA) (w : World) (hV : Vs B w) (hB : ∀ i, D.own p i → B ≤ i) (hRK : RdK (dOb p S D) w a.rA a.recs) (ha : EAOk w w.heap.size a) (hfew : FewL a.recs ∧ a.keep.length ≤ 20) (hk : S.keep.length ≤ 20) (hA : a.keep ≠ [] → ∀ i, slBlk a.kA = some i → ¬ D.own p i) (h : DK w p S D) :
    Calls Tryz.prog 9 #[.pointer (some ⟨p, 0, none⟩), .agg #[.int .i64 a.kind, .int .i64 a.file, .int .i64 a.n, .slice a.kA a.keep.length a.kc, .slice a.rA a.recs.length a.rc]] w (DoesPost p S D a w) := by
  have hb1 : Below w.heap.size w (w.alloc (.cells #[.int .i64 a.kind, .int .i64 a.file, .int .i64 a.n, .slice a.kA a.keep.length a.kc, .slice a.rA a.recs.length a.rc] 34)) := (Below.refl _ _).alloc (Nat.le_refl _) _
  have hlo : ∀ i, D.own p i → i < w.heap.size := fun i hi => h.lt i hi
  have D1 := Lib.hid (Ob.below (a := dOb p S D) h hb1)
  have T0 := Lib.hid (OUpd.of_below (a := dOb p S D) h hb1)
  have V1 := Lib.hid (hV.now hb1)
  have HO := Lib.hid hB
  have R1 := Lib.hid (hRK.now hb1)
  have K1 := Lib.hid (ha.keep.now hb1)
  have HA := Lib.hid ha
  have HF := Lib.hid hfew
  have hrl := hfew.1.1
  have hkl := hfew.2
  clear hb1 h hV hB hRK ha hfew
  by_cases m0 : a.kind = 0
  · have E0 : Hid (eaC S a = (rewE S a.file a.recs).1 ∧ eaS S a = (rewE S a.file a.recs).2 ∧ eaL S a = []) := Lib.hid (by unfold eaC eaS eaL; simp [m0])
    have q0 : (a.kind == 0) = true := by simpa using m0
    clear m0
    go_enter Tryz.func9, Tryz.ntmps9
    go_wp2_with fail
    refine (eRewrite_any p S D a.file a.recs a.rA a.rc _ V1.out R1.out.rd (by omega) HA.out.i2 (by omega) D1.out).mono ?_
    rintro e w2 ⟨rfl, D', hu⟩
    go_wp2_with fail
    have HQ := Lib.hid (T0.out.trans hu)
    clear hu
    go_ret2
    exact ⟨_, none, 0, by rw [E0.out.1, E0.out.2.2]; rfl, by rw [E0.out.2.1, E0.out.2.2]; exact slOb_nil HQ.out⟩
  by_cases m1 : a.kind = 1
  · have E0 : Hid (eaC S a = recC S a.file ∧ eaS S a = recS S a.file ∧ eaL S a = recL S a.file) := Lib.hid (by unfold eaC eaS eaL; simp [m1])
    have q0 : (a.kind == 0) = false := by simpa using m0
    have q1 : (a.kind == 1) = true := by simpa using m1
    clear m1 m0
    go_enter Tryz.func9, Tryz.ntmps9
    go_wp2_with fail
    refine (eRecover_any p S D a.file _ V1.out HO.out HA.out.i2 (by omega) D1.out).mono ?_
    rintro e w2 ⟨D', A2, c2, rfl, hu⟩
    go_wp2_with fail
    have HQ := Lib.hid (T0.out.trans hu)
    clear hu
    go_ret2
    exact ⟨D', A2, c2, by rw [E0.out.1, E0.out.2.2]; rfl, by rw [E0.out.2.1, E0.out.2.2]; exact HQ.out⟩
  by_cases m2 : a.kind = 2
  · by_cases g : a.recs = []
    · have E0 : Hid (eaC S a = 0 ∧ eaS S a = S ∧ eaL S a = []) := Lib.hid (by unfold eaC eaS eaL; simp [m2, g])
      have q0 : (a.kind == 0) = false := by simpa using m0
      have q1 : (a.kind == 1) = false := by simpa using m1
      have q2 : (a.kind == 2) = true := by simpa using m2
      clear m0 m1 m2
      obtain ⟨ak, af, an, akp, akA, akc, ar, arA, arc⟩ := a
      simp only at g q0 q1 q2 ⊢
      subst g
      go_enter Tryz.func9, Tryz.ntmps9
      go_wp2_with fail
      have hu := OUpd.refl (a := dOb p S D) D1.out
      have HQ := Lib.hid (T0.out.trans hu)
      clear hu
      go_ret2
      exact ⟨_, none, 0, by rw [E0.out.1, E0.out.2.2]; rfl, by rw [E0.out.2.1, E0.out.2.2]; exact slOb_nil HQ.out⟩
    · have E0 : Hid (eaC S a = S.writeC a.file a.n (bs (hdL a.recs)) ∧ eaS S a = S.write a.file a.n (bs (hdL a.recs)) ∧ eaL S a = []) := Lib.hid (by unfold eaC eaS eaL; simp [m2, g])
      have hl0 : 0 < a.recs.length := List.length_pos_iff.2 g
      have d1 : decide ((0 : Int) < (a.recs.length : Int)) = true := by simp; omega
      have d2 : decide (0 < a.recs.length) = true := by simp; omega
      obtain ⟨b, off, hra, hbw, hc⟩ := head_cell R1.out.rd hl0
      have hs : (bs (hdL a.recs)).size ≤ 200 := by
        rw [bs_size]
        refine HF.out.1.2 _ ?_
        cases hr : a.recs with
        | nil => exact absurd hr g
        | cons x r => simp [hdL]
      have q0 : (a.kind == 0) = false := by simpa using m0
      have q1 : (a.kind == 1) = false := by simpa using m1
      have q2 : (a.kind == 2) = true := by simpa using m2
      clear m0 m1 m2 g
      obtain ⟨ak, af, an, akp, akA, akc, ar, arA, arc⟩ := a
      have hl1 : (0 : Int) < (ar.length : Int) := by have := hl0; simp only at this; omega
      simp only at hra hc d1 d2 q0 q1 q2 hs hl0 ⊢
      subst hra
      go_enter Tryz.func9, Tryz.ntmps9
      go_wp2_with fail
      have hcx : Hid (∀ wq, (w.alloc (.cells #[.int .i64 ak, .int .i64 af, .int .i64 an, .slice akA akp.length akc, .slice (some ⟨b, off, none⟩) ar.length arc] 34)).drew = wq → wq.cell? ⟨w.heap.size, 1, none⟩ = some (.int .i64 af) ∧ wq.cell? ⟨w.heap.size, 2, none⟩ = some (.int .i64 an) ∧ wq.cell? ⟨w.heap.size, 4, none⟩ = some (.slice (some ⟨b, off, none⟩) ar.length arc) ∧ wq.cell? ⟨b, off, none⟩ = some (.string (bs (hdL ar)))) := Lib.hid (by
        rintro _ rfl
        exact ⟨by simp, by simp, by simp, hc⟩)
      have hcy : Hid (∀ w2, Turn (D.own p) (w.alloc (.cells #[.int .i64 ak, .int .i64 af, .int .i64 an, .slice akA akp.length akc, .slice (some ⟨b, off, none⟩) ar.length arc] 34)).drew w2 → w2.cell? ⟨w.heap.size, 1, none⟩ = some (.int .i64 af) ∧ w2.cell? ⟨w.heap.size, 2, none⟩ = some (.int .i64 an) ∧ w2.cell? ⟨w.heap.size, 4, none⟩ = some (.slice (some ⟨b, off, none⟩) ar.length arc) ∧ w2.cell? ⟨b, off, none⟩ = some (.string (bs (hdL ar)))) := Lib.hid (by
        intro w2 ht
        obtain ⟨x1, x2, x3, x4⟩ := hcx.out _ rfl
        have n1 : ¬ D.own p w.heap.size := fun ho => by have := hlo _ ho; omega
        have n2 : ¬ D.own p b := R1.out.ap (List.length_pos_iff.1 hl0) b rfl
        have h1 := ht.block w.heap.size (by simp) n1
        have h2 := ht.block b (by simpa using hbw) n2
        exact ⟨(World.cell?_of_block h1).trans x1, (World.cell?_of_block h1).trans x2, (World.cell?_of_block h1).trans x3, (World.cell?_of_block h2).trans x4⟩)
      have HDd := Lib.hid (Ob.below (a := dOb p S D) D1.out (Below.drew (Below.refl _ _)))
      have T0d := Lib.hid (T0.out.below (Below.drew (Below.refl _ _)))
      refine wp_region_held_drew (S := fun wq => wq.cell? ⟨w.heap.size, 1, none⟩ = some (.int .i64 af) ∧ wq.cell? ⟨w.heap.size, 2, none⟩ = some (.int .i64 an) ∧ wq.cell? ⟨w.heap.size, 4, none⟩ = some (.slice (some ⟨b, off, none⟩) ar.length arc) ∧ wq.cell? ⟨b, off, none⟩ = some (.string (bs (hdL ar)))) (by kernel_rfl) (hcx.out _ rfl) (fun hHeld => ?_)
      refine wpAnyH_take (i := 0) (v := ?_) rfl (by kernel_rfl) (by kernel_rfl) (by kernel_rfl) (fun _ _ _ h => h) (Or.inl ⟨by rfl, ?_⟩) (by assumption) ?_
      rotate_left
      · rintro wq ⟨s0, s1, s2, s3⟩
        go_simp
        try with_reducible rfl
      simp only [Act.put, List.setIfInBounds_toArray, List.set_cons_zero, List.set_cons_succ, List.getElem_toArray, List.getElem_cons_zero, List.getElem_cons_succ]
      try rfl
      refine wpAnyH_take (i := 1) (v := ?_) rfl (by kernel_rfl) (by kernel_rfl) (by kernel_rfl) (fun _ _ _ h => h) (Or.inl ⟨by rfl, ?_⟩) (by assumption) ?_
      rotate_left
      · rintro wq ⟨s0, s1, s2, s3⟩
        go_simp
        try with_reducible rfl
      simp only [Act.put, List.setIfInBounds_toArray, List.set_cons_zero, List.set_cons_succ, List.getElem_toArray, List.getElem_cons_zero, List.getElem_cons_succ]
      try rfl
      refine wpAnyH_take (i := 2) (v := ?_) rfl (by kernel_rfl) (by kernel_rfl) (by kernel_rfl) (fun _ _ _ h => h) (Or.inl ⟨by rfl, ?_⟩) (by assumption) ?_
      rotate_left
      · rintro wq ⟨s0, s1, s2, s3⟩
        go_simp
        try with_reducible rfl
      simp only [Act.put, List.setIfInBounds_toArray, List.set_cons_zero, List.set_cons_succ, List.getElem_toArray, List.getElem_cons_zero, List.getElem_cons_succ]
      try rfl
      refine wpAnyH_take (i := 3) (v := ?_) rfl (by kernel_rfl) (by kernel_rfl) (by kernel_rfl) (fun _ _ _ h => h) (Or.inl ⟨by rfl, ?_⟩) (by assumption) ?_
      rotate_left
      · rintro wq ⟨s0, s1, s2, s3⟩
        go_simp
        try with_reducible rfl
      simp only [Act.put, List.setIfInBounds_toArray, List.set_cons_zero, List.set_cons_succ, List.getElem_toArray, List.getElem_cons_zero, List.getElem_cons_succ]
      try rfl
      refine wpAnyH_take (i := 4) (v := ?_) rfl (by kernel_rfl) (by kernel_rfl) (by kernel_rfl) (fun _ _ _ h => h) (Or.inl ⟨by rfl, ?_⟩) (by assumption) ?_
      rotate_left
      · rintro wq ⟨s0, s1, s2, s3⟩
        go_simp
        try with_reducible rfl
      simp only [Act.put, List.setIfInBounds_toArray, List.set_cons_zero, List.set_cons_succ, List.getElem_toArray, List.getElem_cons_zero, List.getElem_cons_succ]
      try rfl
      refine wpAnyH_take (i := 5) (v := ?_) rfl (by kernel_rfl) (by kernel_rfl) (by kernel_rfl) (fun _ _ _ h => h) (Or.inl ⟨by rfl, ?_⟩) (by assumption) ?_
      rotate_left
      · rintro wq ⟨s0, s1, s2, s3⟩
        go_simp
        try with_reducible rfl
      simp only [Act.put, List.setIfInBounds_toArray, List.set_cons_zero, List.set_cons_succ, List.getElem_toArray, List.getElem_cons_zero, List.getElem_cons_succ]
      try rfl
      refine wpAnyH_take (i := 6) (v := ?_) rfl (by kernel_rfl) (by kernel_rfl) (by kernel_rfl) (fun _ _ _ h => h) (Or.inl ⟨by rfl, ?_⟩) (by assumption) ?_
      rotate_left
      · rintro wq ⟨s0, s1, s2, s3⟩
        go_simp
        try with_reducible rfl
      simp only [Act.put, List.setIfInBounds_toArray, List.set_cons_zero, List.set_cons_succ, List.getElem_toArray, List.getElem_cons_zero, List.getElem_cons_succ]
      try rfl
      refine wpAnyH_take (i := 7) (v := ?_) rfl (by kernel_rfl) (by kernel_rfl) (by kernel_rfl) (fun _ _ _ h => h) (Or.inl ⟨by rfl, ?_⟩) (by assumption) ?_
      rotate_left
      · rintro wq ⟨s0, s1, s2, s3⟩
        go_simp
        try with_reducible rfl
      simp only [Act.put, List.setIfInBounds_toArray, List.set_cons_zero, List.set_cons_succ, List.getElem_toArray, List.getElem_cons_zero, List.getElem_cons_succ]
      try rfl
      refine wpAnyH_take (i := 8) (v := ?_) rfl (by kernel_rfl) (by kernel_rfl) (by kernel_rfl) (fun _ _ _ h => h) (Or.inl ⟨by rfl, ?_⟩) (by assumption) ?_
      rotate_left
      · rintro wq ⟨s0, s1, s2, s3⟩
        go_simp
        try with_reducible rfl
      simp only [Act.put, List.setIfInBounds_toArray, List.set_cons_zero, List.set_cons_succ, List.getElem_toArray, List.getElem_cons_zero, List.getElem_cons_succ]
      try rfl
      refine wpAnyH_ready (rs := [9]) (by kernel_rfl) (by simp) ?_
      refine AllReadyH.cons rfl (fun K hK => ?_) AllReadyH.nil
      go_simp
      refine (dWrite_any p S D _ af an (bs (hdL ar)) HA.out.i2 HA.out.i3 (by omega) (by omega) HDd.out).mono ?_
      rintro e w2 ⟨rfl, hu⟩
      obtain ⟨D', hu⟩ := hu.ob (S := S)
      have HU2 := Lib.hid hu
      clear hu
      go_wp2_with fail
      refine hK.out _ _ (hcy.out _ HU2.out.turn) ?_
      clear hK K hHeld
      intro hHeld
      refine wpAnyH_take (i := 10) (v := ?_) rfl (by kernel_rfl) (by kernel_rfl) (by kernel_rfl) (fun _ _ _ h => h) (Or.inl ⟨by rfl, ?_⟩) (by assumption) ?_
      rotate_left
      · rintro wq ⟨s0, s1, s2, s3⟩
        go_simp
        try with_reducible rfl
      simp only [Act.put, List.setIfInBounds_toArray, List.set_cons_zero, List.set_cons_succ, List.getElem_toArray, List.getElem_cons_zero, List.getElem_cons_succ]
      try rfl
      refine wpAnyH_take (i := 11) (v := ?_) rfl (by kernel_rfl) (by kernel_rfl) (by kernel_rfl) (fun _ _ _ h => h) (Or.inl ⟨by rfl, ?_⟩) (by assumption) ?_
      rotate_left
      · rintro wq ⟨s0, s1, s2, s3⟩
        go_simp
        try with_reducible rfl
      simp only [Act.put, List.setIfInBounds_toArray, List.set_cons_zero, List.set_cons_succ, List.getElem_toArray, List.getElem_cons_zero, List.getElem_cons_succ]
      try rfl
      refine wpAnyH_done (by kernel_rfl) ?_ _
      have hu := HU2.out
      clear T0
      have T0 := T0d
      go_wp2_with fail
      have HQ := Lib.hid (T0.out.trans hu)
      clear hu
      go_ret2
      exact ⟨_, none, 0, by rw [E0.out.1, E0.out.2.2]; rfl, by rw [E0.out.2.1, E0.out.2.2]; exact slOb_nil HQ.out⟩
  by_cases m3 : a.kind = 3
  · have E0 : Hid (eaC S a = 0 ∧ eaS S a = S.lose a.n ∧ eaL S a = []) := Lib.hid (by unfold eaC eaS eaL; simp [m3])
    have q0 : (a.kind == 0) = false := by simpa using m0
    have q1 : (a.kind == 1) = false := by simpa using m1
    have q2 : (a.kind == 2) = false := by simpa using m2
    have q3 : (a.kind == 3) = true := by simpa using m3
    clear m0 m1 m2 m3
    go_enter Tryz.func9, Tryz.ntmps9
    go_wp2_with fail
    refine (dLose_any p S D _ a.n HA.out.i3 D1.out).mono ?_
    rintro e w2 ⟨rfl, hu⟩
    go_wp2_with fail
    obtain ⟨D', hu⟩ := hu.ob (S := S)
    have HQ := Lib.hid (T0.out.trans hu)
    clear hu
    go_ret2
    exact ⟨_, none, 0, by rw [E0.out.1, E0.out.2.2]; rfl, by rw [E0.out.2.1, E0.out.2.2]; exact slOb_nil HQ.out⟩
  by_cases m4 : a.kind = 4
  · have E0 : Hid (eaC S a = 0 ∧ eaS S a = S.arm a.n a.keep ∧ eaL S a = []) := Lib.hid (by unfold eaC eaS eaL; simp [m4])
    have q0 : (a.kind == 0) = false := by simpa using m0
    have q1 : (a.kind == 1) = false := by simpa using m1
    have q2 : (a.kind == 2) = false := by simpa using m2
    have q3 : (a.kind == 3) = false := by simpa using m3
    have q4 : (a.kind == 4) = true := by simpa using m4
    clear m0 m1 m2 m3 m4
    go_enter Tryz.func9, Tryz.ntmps9
    go_wp2_with fail
    refine (dArm_any p S D _ a.n HA.out.i3 a.keep a.kA a.keep.length a.kc rfl K1.out (by omega) HA.out.ki D1.out).mono ?_
    rintro e w2 ⟨rfl, hu⟩
    go_wp2_with fail
    obtain ⟨D', hu⟩ := hu.ob (S := S)
    have HQ := Lib.hid (T0.out.trans hu)
    clear hu
    go_ret2
    exact ⟨_, none, 0, by rw [E0.out.1, E0.out.2.2]; rfl, by rw [E0.out.2.1, E0.out.2.2]; exact slOb_nil HQ.out⟩
  by_cases m5 : a.kind = 5
  · have E0 : Hid (eaC S a = 0 ∧ eaS S a = S.crash a.keep ∧ eaL S a = []) := Lib.hid (by unfold eaC eaS eaL; simp [m5])
    have q0 : (a.kind == 0) = false := by simpa using m0
    have q1 : (a.kind == 1) = false := by simpa using m1
    have q2 : (a.kind == 2) = false := by simpa using m2
    have q3 : (a.kind == 3) = false := by simpa using m3
    have q4 : (a.kind == 4) = false := by simpa using m4
    have q5 : (a.kind == 5) = true := by simpa using m5
    clear m0 m1 m2 m3 m4 m5
    go_enter Tryz.func9, Tryz.ntmps9
    go_wp2_with fail
    refine (dCrash_any p S D _ a.keep a.kA a.kc K1.out (by omega) hA D1.out).mono ?_
    rintro e w2 ⟨rfl, hu⟩
    go_wp2_with fail
    obtain ⟨D', hu⟩ := hu.ob (S := S)
    have HQ := Lib.hid (T0.out.trans hu)
    clear hu
    go_ret2
    exact ⟨_, none, 0, by rw [E0.out.1, E0.out.2.2]; rfl, by rw [E0.out.2.1, E0.out.2.2]; exact slOb_nil HQ.out⟩
  by_cases m6 : a.kind = 6
  · have E0 : Hid (eaC S a = 0 ∧ eaS S a = S.start ∧ eaL S a = []) := Lib.hid (by unfold eaC eaS eaL; simp [m6])
    have q0 : (a.kind == 0) = false := by simpa using m0
    have q1 : (a.kind == 1) = false := by simpa using m1
    have q2 : (a.kind == 2) = false := by simpa using m2
    have q3 : (a.kind == 3) = false := by simpa using m3
    have q4 : (a.kind == 4) = false := by simpa using m4
    have q5 : (a.kind == 5) = false := by simpa using m5
    have q6 : (a.kind == 6) = true := by simpa using m6
    clear m0 m1 m2 m3 m4 m5 m6
    go_enter Tryz.func9, Tryz.ntmps9
    go_wp2_with fail
    refine (dStart_any p S D _ D1.out).mono ?_
    rintro e w2 ⟨rfl, hu⟩
    go_wp2_with fail
    obtain ⟨D', hu⟩ := hu.ob (S := S)
    have HQ := Lib.hid (T0.out.trans hu)
    clear hu
    go_ret2
    exact ⟨_, none, 0, by rw [E0.out.1, E0.out.2.2]; rfl, by rw [E0.out.2.1, E0.out.2.2]; exact slOb_nil HQ.out⟩
  have E0 : Hid (eaC S a = 0 ∧ eaS S a = S ∧ eaL S a = []) := Lib.hid (by unfold eaC eaS eaL; simp [m0, m1, m2, m3, m4, m5, m6])
  have b0 : (a.kind == 0) = false := by simpa using m0
  have b1 : (a.kind == 1) = false := by simpa using m1
  have b2 : (a.kind == 2) = false := by simpa using m2
  have b3 : (a.kind == 3) = false := by simpa using m3
  have b4 : (a.kind == 4) = false := by simpa using m4
  have b5 : (a.kind == 5) = false := by simpa using m5
  have b6 : (a.kind == 6) = false := by simpa using m6
  clear m0 m1 m2 m3 m4 m5 m6
  go_enter Tryz.func9, Tryz.ntmps9
  go_wp2_with fail
  have hu := OUpd.refl (a := dOb p S D) D1.out
  have HQ := Lib.hid (T0.out.trans hu)
  clear hu
  go_ret2
  exact ⟨_, none, 0, by rw [E0.out.1, E0.out.2.2]; rfl, by rw [E0.out.2.1, E0.out.2.2]; exact slOb_nil HQ.out⟩
set_option maxHeartbeats 4000000 in
theorem lModels_any {B : Nat} (p : Nat) (S : DS) (D : RL) (a : EA) (w : World) (hV : Vs B w) (hRK : RdK (fOb p S D) w a.rA a.recs) (ha : EAOk w w.heap.size a) (hfew : FewL a.recs ∧ a.keep.length ≤ 20) (hk : S.keep.length ≤ 20) (hA : a.keep ≠ [] → ∀ i, slBlk a.kA = some i → ¬ D.own p i) (h : RK w p S D) :
    Calls Tryz.prog 10 #[.pointer (some ⟨p, 0, none⟩), .agg #[.int .i64 a.kind, .int .i64 a.file, .int .i64 a.n, .slice a.kA a.keep.length a.kc, .slice a.rA a.recs.length a.rc]] w (ModsPost p S D a w) := by
  have hb1 : Below w.heap.size w (w.alloc (.cells #[.int .i64 a.kind, .int .i64 a.file, .int .i64 a.n, .slice a.kA a.keep.length a.kc, .slice a.rA a.recs.length a.rc] 34)) := (Below.refl _ _).alloc (Nat.le_refl _) _
  have hlo : ∀ i, D.own p i → i < w.heap.size := fun i hi => h.lt i hi
  have D1 := Lib.hid (Ob.below (a := fOb p S D) h hb1)
  have T0 := Lib.hid (OUpd.of_below (a := fOb p S D) h hb1)
  have V1 := Lib.hid (hV.now hb1)
  have R1 := Lib.hid (hRK.now hb1)
  have K1 := Lib.hid (ha.keep.now hb1)
  have HA := Lib.hid ha
  have HF := Lib.hid hfew
  have hrl := hfew.1.1
  have hkl := hfew.2
  clear hb1 h hV hRK ha hfew
  by_cases m0 : a.kind = 0
  · have E0 : Hid (eaC S a = (rewE S a.file a.recs).1 ∧ eaS S a = (rewE S a.file a.recs).2 ∧ eaL S a = []) := Lib.hid (by unfold eaC eaS eaL; simp [m0])
    have q0 : (a.kind == 0) = true := by simpa using m0
    clear m0
    go_enter Tryz.func10, Tryz.ntmps10
    go_wp2_with fail
    refine (rRew43_any p S D a.file a.recs a.rA a.rc _ V1.out R1.out HF.out.1 HA.out.i2 (by omega) D1.out).mono ?_
    rintro e w2 ⟨rfl, D', hu⟩
    go_wp2_with fail
    have HQ := Lib.hid (T0.out.trans hu)
    clear hu
    go_ret2
    exact ⟨_, none, 0, by rw [E0.out.1, E0.out.2.2]; rfl, by rw [E0.out.2.1, E0.out.2.2]; exact slOb_nil HQ.out⟩
  by_cases m1 : a.kind = 1
  · have E0 : Hid (eaC S a = recC S a.file ∧ eaS S a = recS S a.file ∧ eaL S a = recL S a.file) := Lib.hid (by unfold eaC eaS eaL; simp [m1])
    have q0 : (a.kind == 0) = false := by simpa using m0
    have q1 : (a.kind == 1) = true := by simpa using m1
    clear m1 m0
    go_enter Tryz.func10, Tryz.ntmps10
    go_wp2_with fail
    refine (rRec43_any p S D a.file _ HA.out.i2 (by omega) D1.out).mono ?_
    rintro e w2 ⟨D', A2, c2, rfl, hu⟩
    go_wp2_with fail
    have HQ := Lib.hid (T0.out.trans hu)
    clear hu
    go_ret2
    exact ⟨D', A2, c2, by rw [E0.out.1, E0.out.2.2]; rfl, by rw [E0.out.2.1, E0.out.2.2]; exact HQ.out⟩
  by_cases m2 : a.kind = 2
  · by_cases g : a.recs = []
    · have E0 : Hid (eaC S a = 0 ∧ eaS S a = S ∧ eaL S a = []) := Lib.hid (by unfold eaC eaS eaL; simp [m2, g])
      have q0 : (a.kind == 0) = false := by simpa using m0
      have q1 : (a.kind == 1) = false := by simpa using m1
      have q2 : (a.kind == 2) = true := by simpa using m2
      clear m0 m1 m2
      obtain ⟨ak, af, an, akp, akA, akc, ar, arA, arc⟩ := a
      simp only at g q0 q1 q2 ⊢
      subst g
      go_enter Tryz.func10, Tryz.ntmps10
      go_wp2_with fail
      have hu := OUpd.refl (a := fOb p S D) D1.out
      have HQ := Lib.hid (T0.out.trans hu)
      clear hu
      go_ret2
      exact ⟨_, none, 0, by rw [E0.out.1, E0.out.2.2]; rfl, by rw [E0.out.2.1, E0.out.2.2]; exact slOb_nil HQ.out⟩
    · have E0 : Hid (eaC S a = S.writeC a.file a.n (bs (hdL a.recs)) ∧ eaS S a = S.write a.file a.n (bs (hdL a.recs)) ∧ eaL S a = []) := Lib.hid (by unfold eaC eaS eaL; simp [m2, g])
      have hl0 : 0 < a.recs.length := List.length_pos_iff.2 g
      have d1 : decide ((0 : Int) < (a.recs.length : Int)) = true := by simp; omega
      have d2 : decide (0 < a.recs.length) = true := by simp; omega
      obtain ⟨b, off, hra, hbw, hc⟩ := head_cell R1.out.rd hl0
      have hs : (bs (hdL a.recs)).size ≤ 200 := by
        rw [bs_size]
        refine HF.out.1.2 _ ?_
        cases hr : a.recs with
        | nil => exact absurd hr g
        | cons x r => simp [hdL]
      have q0 : (a.kind == 0) = false := by simpa using m0
      have q1 : (a.kind == 1) = false := by simpa using m1
      have q2 : (a.kind == 2) = true := by simpa using m2
      clear m0 m1 m2 g
      obtain ⟨ak, af, an, akp, akA, akc, ar, arA, arc⟩ := a
      have hl1 : (0 : Int) < (ar.length : Int) := by have := hl0; simp only at this; omega
      simp only at hra hc d1 d2 q0 q1 q2 hs hl0 ⊢
      subst hra
      go_enter Tryz.func10, Tryz.ntmps10
      go_wp2_with fail
      have hcx : Hid (∀ wq, (w.alloc (.cells #[.int .i64 ak, .int .i64 af, .int .i64 an, .slice akA akp.length akc, .slice (some ⟨b, off, none⟩) ar.length arc] 34)).drew = wq → wq.cell? ⟨w.heap.size, 1, none⟩ = some (.int .i64 af) ∧ wq.cell? ⟨w.heap.size, 2, none⟩ = some (.int .i64 an) ∧ wq.cell? ⟨w.heap.size, 4, none⟩ = some (.slice (some ⟨b, off, none⟩) ar.length arc) ∧ wq.cell? ⟨b, off, none⟩ = some (.string (bs (hdL ar)))) := Lib.hid (by
        rintro _ rfl
        exact ⟨by simp, by simp, by simp, hc⟩)
      have hcy : Hid (∀ w2, Turn (D.own p) (w.alloc (.cells #[.int .i64 ak, .int .i64 af, .int .i64 an, .slice akA akp.length akc, .slice (some ⟨b, off, none⟩) ar.length arc] 34)).drew w2 → w2.cell? ⟨w.heap.size, 1, none⟩ = some (.int .i64 af) ∧ w2.cell? ⟨w.heap.size, 2, none⟩ = some (.int .i64 an) ∧ w2.cell? ⟨w.heap.size, 4, none⟩ = some (.slice (some ⟨b, off, none⟩) ar.length arc) ∧ w2.cell? ⟨b, off, none⟩ = some (.string (bs (hdL ar)))) := Lib.hid (by
        intro w2 ht
        obtain ⟨x1, x2, x3, x4⟩ := hcx.out _ rfl
        have n1 : ¬ D.own p w.heap.size := fun ho => by have := hlo _ ho; omega
        have n2 : ¬ D.own p b := R1.out.ap (List.length_pos_iff.1 hl0) b rfl
        have h1 := ht.block w.heap.size (by simp) n1
        have h2 := ht.block b (by simpa using hbw) n2
        exact ⟨(World.cell?_of_block h1).trans x1, (World.cell?_of_block h1).trans x2, (World.cell?_of_block h1).trans x3, (World.cell?_of_block h2).trans x4⟩)
      have HDd := Lib.hid (Ob.below (a := fOb p S D) D1.out (Below.drew (Below.refl _ _)))
      have T0d := Lib.hid (T0.out.below (Below.drew (Below.refl _ _)))
      refine wp_region_held_drew (S := fun wq => wq.cell? ⟨w.heap.size, 1, none⟩ = some (.int .i64 af) ∧ wq.cell? ⟨w.heap.size, 2, none⟩ = some (.int .i64 an) ∧ wq.cell? ⟨w.heap.size, 4, none⟩ = some (.slice (some ⟨b, off, none⟩) ar.length arc) ∧ wq.cell? ⟨b, off, none⟩ = some (.string (bs (hdL ar)))) (by kernel_rfl) (hcx.out _ rfl) (fun hHeld => ?_)
      refine wpAnyH_take (i := 0) (v := ?_) rfl (by kernel_rfl) (by kernel_rfl) (by kernel_rfl) (fun _ _ _ h => h) (Or.inl ⟨by rfl, ?_⟩) (by assumption) ?_
      rotate_left
      · rintro wq ⟨s0, s1, s2, s3⟩
        go_simp
        try with_reducible rfl
      simp only [Act.put, List.setIfInBounds_toArray, List.set_cons_zero, List.set_cons_succ, List.getElem_toArray, List.getElem_cons_zero, List.getElem_cons_succ]
      try rfl
      refine wpAnyH_take (i := 1) (v := ?_) rfl (by kernel_rfl) (by kernel_rfl) (by kernel_rfl) (fun _ _ _ h => h) (Or.inl ⟨by rfl, ?_⟩) (by assumption) ?_
      rotate_left
      · rintro wq ⟨s0, s1, s2, s3⟩
        go_simp
        try with_reducible rfl
      simp only [Act.put, List.setIfInBounds_toArray, List.set_cons_zero, List.set_cons_succ, List.getElem_toArray, List.getElem_cons_zero, List.getElem_cons_succ]
      try rfl
      refine wpAnyH_take (i := 2) (v := ?_) rfl (by kernel_rfl) (by kernel_rfl) (by kernel_rfl) (fun _ _ _ h => h) (Or.inl ⟨by rfl, ?_⟩) (by assumption) ?_
      rotate_left
      · rintro wq ⟨s0, s1, s2, s3⟩
        go_simp
        try with_reducible rfl
      simp only [Act.put, List.setIfInBounds_toArray, List.set_cons_zero, List.set_cons_succ, List.getElem_toArray, List.getElem_cons_zero, List.getElem_cons_succ]
      try rfl
      refine wpAnyH_take (i := 3) (v := ?_) rfl (by kernel_rfl) (by kernel_rfl) (by kernel_rfl) (fun _ _ _ h => h) (Or.inl ⟨by rfl, ?_⟩) (by assumption) ?_
      rotate_left
      · rintro wq ⟨s0, s1, s2, s3⟩
        go_simp
        try with_reducible rfl
      simp only [Act.put, List.setIfInBounds_toArray, List.set_cons_zero, List.set_cons_succ, List.getElem_toArray, List.getElem_cons_zero, List.getElem_cons_succ]
      try rfl
      refine wpAnyH_take (i := 4) (v := ?_) rfl (by kernel_rfl) (by kernel_rfl) (by kernel_rfl) (fun _ _ _ h => h) (Or.inl ⟨by rfl, ?_⟩) (by assumption) ?_
      rotate_left
      · rintro wq ⟨s0, s1, s2, s3⟩
        go_simp
        try with_reducible rfl
      simp only [Act.put, List.setIfInBounds_toArray, List.set_cons_zero, List.set_cons_succ, List.getElem_toArray, List.getElem_cons_zero, List.getElem_cons_succ]
      try rfl
      refine wpAnyH_take (i := 5) (v := ?_) rfl (by kernel_rfl) (by kernel_rfl) (by kernel_rfl) (fun _ _ _ h => h) (Or.inl ⟨by rfl, ?_⟩) (by assumption) ?_
      rotate_left
      · rintro wq ⟨s0, s1, s2, s3⟩
        go_simp
        try with_reducible rfl
      simp only [Act.put, List.setIfInBounds_toArray, List.set_cons_zero, List.set_cons_succ, List.getElem_toArray, List.getElem_cons_zero, List.getElem_cons_succ]
      try rfl
      refine wpAnyH_take (i := 6) (v := ?_) rfl (by kernel_rfl) (by kernel_rfl) (by kernel_rfl) (fun _ _ _ h => h) (Or.inl ⟨by rfl, ?_⟩) (by assumption) ?_
      rotate_left
      · rintro wq ⟨s0, s1, s2, s3⟩
        go_simp
        try with_reducible rfl
      simp only [Act.put, List.setIfInBounds_toArray, List.set_cons_zero, List.set_cons_succ, List.getElem_toArray, List.getElem_cons_zero, List.getElem_cons_succ]
      try rfl
      refine wpAnyH_take (i := 7) (v := ?_) rfl (by kernel_rfl) (by kernel_rfl) (by kernel_rfl) (fun _ _ _ h => h) (Or.inl ⟨by rfl, ?_⟩) (by assumption) ?_
      rotate_left
      · rintro wq ⟨s0, s1, s2, s3⟩
        go_simp
        try with_reducible rfl
      simp only [Act.put, List.setIfInBounds_toArray, List.set_cons_zero, List.set_cons_succ, List.getElem_toArray, List.getElem_cons_zero, List.getElem_cons_succ]
      try rfl
      refine wpAnyH_take (i := 8) (v := ?_) rfl (by kernel_rfl) (by kernel_rfl) (by kernel_rfl) (fun _ _ _ h => h) (Or.inl ⟨by rfl, ?_⟩) (by assumption) ?_
      rotate_left
      · rintro wq ⟨s0, s1, s2, s3⟩
        go_simp
        try with_reducible rfl
      simp only [Act.put, List.setIfInBounds_toArray, List.set_cons_zero, List.set_cons_succ, List.getElem_toArray, List.getElem_cons_zero, List.getElem_cons_succ]
      try rfl
      refine wpAnyH_ready (rs := [9]) (by kernel_rfl) (by simp) ?_
      refine AllReadyH.cons rfl (fun K hK => ?_) AllReadyH.nil
      go_simp
      refine (rWrite_any p S D _ af an (bs (hdL ar)) HA.out.i3 (by omega) (by omega) HDd.out).mono ?_
      rintro e w2 ⟨rfl, hu⟩
      obtain ⟨D', hu⟩ := hu.fob (S := S)
      have HU2 := Lib.hid hu
      clear hu
      go_wp2_with fail
      refine hK.out _ _ (hcy.out _ HU2.out.turn) ?_
      clear hK K hHeld
      intro hHeld
      refine wpAnyH_take (i := 10) (v := ?_) rfl (by kernel_rfl) (by kernel_rfl) (by kernel_rfl) (fun _ _ _ h => h) (Or.inl ⟨by rfl, ?_⟩) (by assumption) ?_
      rotate_left
      · rintro wq ⟨s0, s1, s2, s3⟩
        go_simp
        try with_reducible rfl
      simp only [Act.put, List.setIfInBounds_toArray, List.set_cons_zero, List.set_cons_succ, List.getElem_toArray, List.getElem_cons_zero, List.getElem_cons_succ]
      try rfl
      refine wpAnyH_take (i := 11) (v := ?_) rfl (by kernel_rfl) (by kernel_rfl) (by kernel_rfl) (fun _ _ _ h => h) (Or.inl ⟨by rfl, ?_⟩) (by assumption) ?_
      rotate_left
      · rintro wq ⟨s0, s1, s2, s3⟩
        go_simp
        try with_reducible rfl
      simp only [Act.put, List.setIfInBounds_toArray, List.set_cons_zero, List.set_cons_succ, List.getElem_toArray, List.getElem_cons_zero, List.getElem_cons_succ]
      try rfl
      refine wpAnyH_done (by kernel_rfl) ?_ _
      have hu := HU2.out
      clear T0
      have T0 := T0d
      go_wp2_with fail
      have HQ := Lib.hid (T0.out.trans hu)
      clear hu
      go_ret2
      exact ⟨_, none, 0, by rw [E0.out.1, E0.out.2.2]; rfl, by rw [E0.out.2.1, E0.out.2.2]; exact slOb_nil HQ.out⟩
  by_cases m3 : a.kind = 3
  · have E0 : Hid (eaC S a = 0 ∧ eaS S a = S.lose a.n ∧ eaL S a = []) := Lib.hid (by unfold eaC eaS eaL; simp [m3])
    have q0 : (a.kind == 0) = false := by simpa using m0
    have q1 : (a.kind == 1) = false := by simpa using m1
    have q2 : (a.kind == 2) = false := by simpa using m2
    have q3 : (a.kind == 3) = true := by simpa using m3
    clear m0 m1 m2 m3
    go_enter Tryz.func10, Tryz.ntmps10
    go_wp2_with fail
    refine (rLose_any p S D _ a.n HA.out.i3 D1.out).mono ?_
    rintro e w2 ⟨rfl, hu⟩
    go_wp2_with fail
    obtain ⟨D', hu⟩ := hu.fob (S := S)
    have HQ := Lib.hid (T0.out.trans hu)
    clear hu
    go_ret2
    exact ⟨_, none, 0, by rw [E0.out.1, E0.out.2.2]; rfl, by rw [E0.out.2.1, E0.out.2.2]; exact slOb_nil HQ.out⟩
  by_cases m4 : a.kind = 4
  · have E0 : Hid (eaC S a = 0 ∧ eaS S a = S.arm a.n a.keep ∧ eaL S a = []) := Lib.hid (by unfold eaC eaS eaL; simp [m4])
    have q0 : (a.kind == 0) = false := by simpa using m0
    have q1 : (a.kind == 1) = false := by simpa using m1
    have q2 : (a.kind == 2) = false := by simpa using m2
    have q3 : (a.kind == 3) = false := by simpa using m3
    have q4 : (a.kind == 4) = true := by simpa using m4
    clear m0 m1 m2 m3 m4
    go_enter Tryz.func10, Tryz.ntmps10
    go_wp2_with fail
    refine (rArm_any p S D _ a.n HA.out.i3 a.keep a.kA a.keep.length a.kc rfl K1.out (by omega) HA.out.ki D1.out (fun i hne hi e => hA hne i hi (.inl e))).mono ?_
    rintro e w2 ⟨rfl, hu⟩
    go_wp2_with fail
    obtain ⟨D', hu⟩ := hu.fob (S := S)
    have HQ := Lib.hid (T0.out.trans hu)
    clear hu
    go_ret2
    exact ⟨_, none, 0, by rw [E0.out.1, E0.out.2.2]; rfl, by rw [E0.out.2.1, E0.out.2.2]; exact slOb_nil HQ.out⟩
  by_cases m5 : a.kind = 5
  · have E0 : Hid (eaC S a = 0 ∧ eaS S a = S.crash a.keep ∧ eaL S a = []) := Lib.hid (by unfold eaC eaS eaL; simp [m5])
    have q0 : (a.kind == 0) = false := by simpa using m0
    have q1 : (a.kind == 1) = false := by simpa using m1
    have q2 : (a.kind == 2) = false := by simpa using m2
    have q3 : (a.kind == 3) = false := by simpa using m3
    have q4 : (a.kind == 4) = false := by simpa using m4
    have q5 : (a.kind == 5) = true := by simpa using m5
    clear m0 m1 m2 m3 m4 m5
    go_enter Tryz.func10, Tryz.ntmps10
    go_wp2_with fail
    refine (rCrash_any p S D _ a.keep a.kA a.kc K1.out (by omega) hA D1.out).mono ?_
    rintro e w2 ⟨rfl, hu⟩
    go_wp2_with fail
    obtain ⟨D', hu⟩ := hu.fob (S := S)
    have HQ := Lib.hid (T0.out.trans hu)
    clear hu
    go_ret2
    exact ⟨_, none, 0, by rw [E0.out.1, E0.out.2.2]; rfl, by rw [E0.out.2.1, E0.out.2.2]; exact slOb_nil HQ.out⟩
  by_cases m6 : a.kind = 6
  · have E0 : Hid (eaC S a = 0 ∧ eaS S a = S.start ∧ eaL S a = []) := Lib.hid (by unfold eaC eaS eaL; simp [m6])
    have q0 : (a.kind == 0) = false := by simpa using m0
    have q1 : (a.kind == 1) = false := by simpa using m1
    have q2 : (a.kind == 2) = false := by simpa using m2
    have q3 : (a.kind == 3) = false := by simpa using m3
    have q4 : (a.kind == 4) = false := by simpa using m4
    have q5 : (a.kind == 5) = false := by simpa using m5
    have q6 : (a.kind == 6) = true := by simpa using m6
    clear m0 m1 m2 m3 m4 m5 m6
    go_enter Tryz.func10, Tryz.ntmps10
    go_wp2_with fail
    refine (rStart_any p S D _ D1.out).mono ?_
    rintro e w2 ⟨rfl, hu⟩
    go_wp2_with fail
    obtain ⟨D', hu⟩ := hu.fob (S := S)
    have HQ := Lib.hid (T0.out.trans hu)
    clear hu
    go_ret2
    exact ⟨_, none, 0, by rw [E0.out.1, E0.out.2.2]; rfl, by rw [E0.out.2.1, E0.out.2.2]; exact slOb_nil HQ.out⟩
  have E0 : Hid (eaC S a = 0 ∧ eaS S a = S ∧ eaL S a = []) := Lib.hid (by unfold eaC eaS eaL; simp [m0, m1, m2, m3, m4, m5, m6])
  have b0 : (a.kind == 0) = false := by simpa using m0
  have b1 : (a.kind == 1) = false := by simpa using m1
  have b2 : (a.kind == 2) = false := by simpa using m2
  have b3 : (a.kind == 3) = false := by simpa using m3
  have b4 : (a.kind == 4) = false := by simpa using m4
  have b5 : (a.kind == 5) = false := by simpa using m5
  have b6 : (a.kind == 6) = false := by simpa using m6
  clear m0 m1 m2 m3 m4 m5 m6
  go_enter Tryz.func10, Tryz.ntmps10
  go_wp2_with fail
  have hu := OUpd.refl (a := fOb p S D) D1.out
  have HQ := Lib.hid (T0.out.trans hu)
  clear hu
  go_ret2
  exact ⟨_, none, 0, by rw [E0.out.1, E0.out.2.2]; rfl, by rw [E0.out.2.1, E0.out.2.2]; exact slOb_nil HQ.out⟩
end Go.Proofs.YtjmkodkechahdaaGreatDoor
/- The walk of EraseTells. -/
set_option linter.unusedSimpArgs false
set_option linter.unusedVariables false
namespace Go.Proofs.YtjmkodkechahdaaGreatDoor
open Go.RowKit
set_option maxRecDepth 100000

def ftOb (p q : Nat) (S : DS) (D : DL) (M : RL) : Ob := (dOb p S D).sep (fOb q S M)
theorem fOb_own {w wr : World} {q : Nat} {S : DS} {M : RL} {R : Ob} (h : St w ((fOb q S M).sep R) wr) {A : Option Addr} {xs : List Int} (hr : RdL 1 intC w w.heap.size A xs) : xs ≠ [] → ∀ i, slBlk A = some i → ¬ M.own q i := fun hne i hi ho => by
  obtain ⟨b, off, e, hb, _⟩ := hr.at_ (List.length_pos_iff.2 hne)
  rw [e] at hi
  have h1 := Option.some.inj hi
  have h2 := h.own i (.inl ho)
  simp only at h1
  omega
theorem flat_ge {l : List (List UInt8)} : l.length ≤ (l.flatMap encT).length := by
  induction l with
  | nil => simp
  | cons x r ih =>
    simp only [List.flatMap_cons, List.length_append, List.length_cons]
    have : 1 ≤ (encT x).length := by simp only [encT, List.length_append, List.length_cons, List.length_nil]; omega
    omega
theorem setR_wf {S : DS} (h : S.wf) (f : Int) (p : List UInt8) : (setR f p S).2.wf := by
  unfold setR
  split
  · exact h
  · exact DS.sync0_wf (DS.come_wf h) _
theorem recL_len {S : DS} (h : S.wf) (f : Int) : (recL S f).length ≤ 16777216 := by
  unfold recL
  split
  · rename_i hc
    unfold listE
    split
    · simp
    · rename_i hp
      have h2 : readE (setR f (sideE S f) S).2 f (sideE S f) = 0 := by
        unfold recC at hc
        split at hc
        · contradiction
        split at hc
        · contradiction
        split at hc
        · contradiction
        · rename_i h0
          exact Decidable.of_not_not h0
      have h3 := h2
      unfold readE at h3
      rw [if_neg hp] at h3
      have hw := file_short (setR_wf h f (sideE S f)) (nowF f (sideE S f))
      generalize fileE (setR f (sideE S f) S).2 (nowF f (sideE S f)) = ft at *
      generalize fileC (setR f (sideE S f) S).2 (nowF f (sideE S f)) = fc at *
      by_cases hd : rDone (parseE ft).2 = false
      · split at h3
        · cases h3
        · rename_i h4
          exact absurd ⟨h3, hd⟩ h4
      · have hb : (parseE ft).2.bad = false := by
          unfold rDone at hd
          cases hx : (parseE ft).2.bad with
          | true => rw [hx] at hd; simp at hd
          | false => rfl
        have h5 := (rItems_inv encT (fun s h => rText_inv h) hb).2
        have h6 : ft.length = (encL encT (parseE ft).1 ++ (parseE ft).2.rest).length := congrArg List.length h5
        have h7 := @flat_ge (parseE ft).1
        simp only [encL, List.length_append] at h6
        omega
  · simp
theorem eaL_len {S : DS} (h : S.wf) (a : EA) : (eaL S a).length ≤ 16777216 := by
  unfold eaL
  split
  · exact recL_len h _
  · simp
theorem ea_rdk {w wr : World} {O R : Ob} (h : St w (O.sep R) wr) {A : Option Addr} {xs : List (List UInt8)} (hr : RdL 1 strE w w.heap.size A xs) : RdK O wr A xs :=
  ⟨hr.now h.bl, fun hne i hi ho => by have := rd_blk hr hne hi; have := h.own i (.inl ho); omega⟩
-- ftRound : an act, behind the test
theorem planL_len {l : List PlM} {ev : Int} (h : l.length ≤ 1000000000) : (planL l ev).length ≤ 1000000000 := by
  unfold planL
  split
  · unfold orderP
    split
    · rw [List.length_reverse]
      have h2 := idxF_len (mkF l.length (reachP l (rootsF ev 0 l))) 0
      rw [mkF_len] at h2
      omega
    · simp
  · simp
theorem ea_now {w wr : World} {a : EA} (h : EAOk w w.heap.size a) (hb : Below w.heap.size w wr) : EAOk wr wr.heap.size a := h.now hb
theorem St.forget2 {w wr : World} {a b c d : Ob} (h : St w ((a.sep b).sep (c.sep d)) wr) : St w (c.sep a) wr := h.swap.assoc.drop2.assoc2.forget
set_option maxHeartbeats 16000000 in
theorem tells43_any (l : List EA) (A : Option Addr) (c : Nat) (ps : List PlM) (B : Option Addr) (d : Nat) (ev : Int) (w : World) (hV : Vs w.heap.size w) (h : EasAt w A l) (hp : PlsRaw w B ps) :
    Calls Tryz.prog 3 #[.slice A l.length c, .slice B ps.length d, .int .i64 ev] w fun e w' => e = .returned (.bool true) ∧ Below w.heap.size w w' := by
  have HV := Lib.hid hV
  have HA := Lib.hid h
  have HPs := Lib.hid hp
  have hln := h.len
  clear hV h hp
  go_enter Tryz.func3, Tryz.ntmps3
  go_wp2_with fail
  refine (small43_any w HV.out).mono ?_
  rintro e w1 ⟨rfl, hb1⟩
  have HB1 := Lib.hid hb1
  clear hb1
  go_wp2_with fail
  refine (rFew43_any l 16 A c w1 (HA.out.now HB1.out) (by decide)).mono ?_
  rintro e wz ⟨b0, rfl, hf0, hw⟩
  obtain rfl := hw
  cases b0 with
  | false =>
    go_wp2_with fail
    go_ret
    exact ⟨rfl, HB1.out⟩
  | true =>
  have HF := Lib.hid (hf0 rfl)
  clear hf0
  go_wp2_with fail
  refine (rFew41_any ps 14 B d w1 (HPs.out.now HB1.out) (by decide)).mono ?_
  rintro e wz ⟨b0, rfl, hf0, hw⟩
  obtain rfl := hw
  cases b0 with
  | false =>
    go_wp2_with fail
    go_ret
    exact ⟨rfl, HB1.out⟩
  | true =>
  have HP := Lib.hid (HPs.out.pls (by have := hf0 rfl; omega))
  clear hf0 HPs
  go_wp2_with fail
  refine (dNew_any w1).mono ?_
  rintro e w2 ⟨rfl, hb2, D0, hd0, ho0, -⟩
  have hz1 := HB1.out.size
  have H0 : Hid (St w (dOb (w1.heap.size + 2) DS.new D0) w2) := Lib.hid ⟨hd0, HB1.out.trans (hb2.mono hz1), fun i hi => Nat.le_trans hz1 (ho0 i hi)⟩
  generalize w1.heap.size + 2 = p at *
  clear hb2 hd0 ho0 HB1 hz1
  go_wp2_with fail
  refine (rNew_any w2).mono ?_
  rintro e w3 ⟨rfl, hb3, M0, hm0, hmo, hmk⟩
  have hs2 := H0.out.bl.size
  have H1 : Hid (St w (ftOb p w2.heap.size DS.new D0 M0) w3) := Lib.hid (H0.out.more hb3 (c := fOb w2.heap.size DS.new M0) hm0 hmo (fun i hi => by
    have hi2 : slBlk M0.kA = some i := hi
    rw [hmk] at hi2
    cases hi2))
  generalize w2.heap.size = q at *
  clear hb3 hm0 hmo hmk H0 hs2
  go_wp2_with fail
  go_loopw [10, 11, 12, 13, 14, 15, 16, 17, 18, 19] (fun i _ _ _ _ _ _ _ _ _ wr => ∃ (k : Nat) (S : DS) (D : DL) (M : RL), k ≤ l.length ∧ i = .int .i64 k ∧ Hid (St w (ftOb p q S D M) wr ∧ S.keep.length ≤ 20)) (fun i _ _ _ _ _ _ _ _ _ _ => l.length - (intOf i).toNat)
  case atStart => exact ⟨0, DS.new, D0, M0, Nat.zero_le _, rfl, Lib.hid ⟨H1.out, by simp [DS.new]⟩⟩
  case round =>
    obtain ⟨k, S, D, M, hk, rfl, HI⟩ := hrel
    clear H1
    by_cases hlt : k < l.length
    · have d1 : decide ((k : Int) < (l.length : Int)) = true := by simp; omega
      obtain ⟨a, ha⟩ : ∃ a, l[k]? = some a := ⟨_, List.getElem?_eq_getElem hlt⟩
      have hRd := HA.out.now HI.out.1.bl
      obtain ⟨b, off, rfl, hb, x0, x1, x2, x3, x4⟩ := rd_ea hRd.rd ha
      have HOk := Lib.hid (HA.out.ok a (List.mem_of_getElem? ha))
      have HFa := Lib.hid (HF.out.2 a (List.mem_of_getElem? ha))
      have HAk := Lib.hid ha
      clear hRd ha
      by_cases hsk : a.kind = 2 ∧ 4000 < a.n
      · have q1 : (a.kind == 2) = true := by simpa using hsk.1
        have q2 : decide (4000 < a.n) = true := by simpa using hsk.2
        clear hsk
        go_wp2_with fail
        go_roundw
        case rel => exact ⟨k + 1, S, D, M, by omega, by go_num, HI⟩
        case measure => simp [intOf]; omega
      · have hq : (a.kind == 2) = false ∨ ((a.kind == 2) = true ∧ decide (4000 < a.n) = false) := by
          by_cases h2 : a.kind = 2
          · exact .inr ⟨by simpa using h2, by simp; omega⟩
          · exact .inl (by simpa using h2)
        clear hsk
        rcases hq with q1 | ⟨q1, q2⟩
        · skip
          go_wp2_with fail
          have hkp := HI.out.2
          refine (lDoes_any p S D a wr (HI.out.1.vs HV.out) (fun i hi => HI.out.1.own i (.inl hi)) (ea_rdk HI.out.1 HOk.out.recs) (ea_now HOk.out HI.out.1.bl) HFa.out hkp (HI.out.1.notOwn HOk.out.keep) HI.out.1.disk).mono ?_
          rintro e w4 ⟨D4, A4, c4, rfl, hu⟩
          have H4 := Lib.hid ((HI.out.1.upd (OUpd.left HI.out.1.ok hu)).swap)
          obtain ⟨-, y0, y1, y2, y3, y4⟩ := rd_ea2 (HA.out.now H4.out.bl).rd HAk.out
          have HKp := Lib.hid (eaS_keep hkp HFa.out.2)
          have HLn := Lib.hid (eaL_len HI.out.1.disk.wf a)
          clear hu x0 x1 x2 x3 x4 hb HI
          have hb4 : b < w4.heap.size := (rd_ea2 (HA.out.now H4.out.bl).rd HAk.out).1
          go_wp2_with fail
          refine (lModels_any q S M a w4 (H4.out.vs HV.out) (ea_rdk H4.out HOk.out.recs) (ea_now HOk.out H4.out.bl) HFa.out hkp (fOb_own H4.out HOk.out.keep) H4.out.ok.1.1).mono ?_
          rintro e w5 ⟨M5, A5, c5, rfl, hu⟩
          have H5 := Lib.hid (H4.out.upd (OUpd.left H4.out.ok hu))
          have HRa := Lib.hid (slOb.rd H5.out.ok.1.2.1.2)
          have HRb := Lib.hid (slOb.rd H5.out.ok.1.1.1.2)
          have HS5 : Hid (St w (ftOb p q (eaS S a) D4 M5) w5) := Lib.hid (H5.out.forget2)
          clear hu H4 y0 y1 y2 y3 y4 hb4 hkp H5
          generalize eaC S a = x at *
          generalize eaL S a = L at *
          generalize eaS S a = T at *
          have hxx : (x != x) = false := by simp
          have hLn := HLn.out
          go_wp2_with fail
          refine (strs_any L L A4 A5 c4 c5 w5 HRa.out HRb.out (by omega) (by omega)).mono ?_
          rintro e w6 ⟨rfl, hb6⟩
          rw [show (L == L) = true from by simp]
          have HS6 := Lib.hid (HS5.out.on hb6)
          clear hb6 HS5 HRa HRb HLn hLn
          go_wp2_with fail
          refine (dDown_any p T D4 w6 HS6.out.ok.1.1).mono ?_
          rintro e wq ⟨rfl, hw⟩
          obtain rfl : w6 = wq := hw.symm
          go_wp2_with fail
          refine (rDown_any q T M5 w6 HS6.out.ok.1.2).mono ?_
          rintro e wq ⟨rfl, hw⟩
          obtain rfl : w6 = wq := hw.symm
          have hdd : (T.down != T.down) = false := by simp
          generalize T.down = dn at *
          go_wp2_with fail
          go_loopw [15, 16, 17, 18, 19] (fun i _ _ _ _ wi => ∃ (j : Nat) (M6 : RL), j ≤ 16 ∧ i = .int .i64 j ∧ Hid (St w (ftOb p q T D4 M6) wi)) (fun i _ _ _ _ _ => 17 - (intOf i).toNat)
          case atStart => exact ⟨0, M5, by omega, rfl, HS6⟩
          case round =>
            obtain ⟨j, M6, hj, rfl, HJ⟩ := hrel
            clear HS6
            by_cases hj2 : j = 16
            · subst hj2
              go_wp2_with fail
              go_roundw
              case rel => exact ⟨k + 1, T, D4, M6, by omega, by go_num, Lib.hid ⟨HJ.out, HKp.out⟩⟩
              case measure => simp [intOf]; omega
            · have d5 : decide ((j : Int) < 16) = true := by simp; omega
              have hji : inI64 (j : Int) := by unfold inI64; omega
              go_wp2_with fail
              refine (dSize_any p T D4 wr (j : Int) hji HJ.out.ok.1.1).mono ?_
              rintro e wq ⟨rfl, hw⟩
              obtain rfl : wr = wq := hw.symm
              have hsz := (show DK wr p T D4 from HJ.out.ok.1.1).wf.now (j : Int)
              have HRr := Lib.hid (fun (w' : World) (h : RK w' q T M6) => rRead_any q T M6 w' (j : Int) 0 (T.files (j : Int)).1.size h (by unfold inI64; omega) (by unfold inI64; omega))
              have HRd := Lib.hid (dRead_any p T D4 wr (j : Int) 0 (T.files (j : Int)).1.size hji HJ.out.ok.1.1)
              have HRs := Lib.hid (rSize_any q T M6 wr (j : Int) HJ.out.ok.1.2)
              clear hsz
              generalize T.readS (j : Int) 0 (T.files (j : Int)).1.size = rs at *
              generalize T.readC (j : Int) 0 (T.files (j : Int)).1.size = rc at *
              generalize (T.files (j : Int)).1.size = fz at *
              go_wp2_with fail
              refine HRd.out.mono ?_
              rintro e wq ⟨rfl, hw⟩
              obtain rfl : wr = wq := hw.symm
              go_wp2_with fail
              refine HRs.out.mono ?_
              rintro e w7 ⟨rfl, hb7⟩
              have HJ7 := Lib.hid (HJ.out.on hb7)
              clear hb7 HRd HRs
              go_wp2_with fail
              refine (HRr.out w7 HJ7.out.ok.1.2).mono ?_
              rintro e w8 ⟨rfl, hb8⟩
              have HJ8 := Lib.hid (HJ7.out.on hb8)
              clear hb8 HRr HJ7 HJ
              have hss : (rs.toList == rs.toList) = true := by simp
              have hrr : (rc != rc) = false := by simp
              go_wp2_with fail
              go_roundw
              case rel => exact ⟨j + 1, M6, by omega, by go_num, HJ8⟩
              case measure => simp [intOf]; omega
        · skip
          go_wp2_with fail
          have hkp := HI.out.2
          refine (lDoes_any p S D a wr (HI.out.1.vs HV.out) (fun i hi => HI.out.1.own i (.inl hi)) (ea_rdk HI.out.1 HOk.out.recs) (ea_now HOk.out HI.out.1.bl) HFa.out hkp (HI.out.1.notOwn HOk.out.keep) HI.out.1.disk).mono ?_
          rintro e w4 ⟨D4, A4, c4, rfl, hu⟩
          have H4 := Lib.hid ((HI.out.1.upd (OUpd.left HI.out.1.ok hu)).swap)
          obtain ⟨-, y0, y1, y2, y3, y4⟩ := rd_ea2 (HA.out.now H4.out.bl).rd HAk.out
          have HKp := Lib.hid (eaS_keep hkp HFa.out.2)
          have HLn := Lib.hid (eaL_len HI.out.1.disk.wf a)
          clear hu x0 x1 x2 x3 x4 hb HI
          have hb4 : b < w4.heap.size := (rd_ea2 (HA.out.now H4.out.bl).rd HAk.out).1
          go_wp2_with fail
          refine (lModels_any q S M a w4 (H4.out.vs HV.out) (ea_rdk H4.out HOk.out.recs) (ea_now HOk.out H4.out.bl) HFa.out hkp (fOb_own H4.out HOk.out.keep) H4.out.ok.1.1).mono ?_
          rintro e w5 ⟨M5, A5, c5, rfl, hu⟩
          have H5 := Lib.hid (H4.out.upd (OUpd.left H4.out.ok hu))
          have HRa := Lib.hid (slOb.rd H5.out.ok.1.2.1.2)
          have HRb := Lib.hid (slOb.rd H5.out.ok.1.1.1.2)
          have HS5 : Hid (St w (ftOb p q (eaS S a) D4 M5) w5) := Lib.hid (H5.out.forget2)
          clear hu H4 y0 y1 y2 y3 y4 hb4 hkp H5
          generalize eaC S a = x at *
          generalize eaL S a = L at *
          generalize eaS S a = T at *
          have hxx : (x != x) = false := by simp
          have hLn := HLn.out
          go_wp2_with fail
          refine (strs_any L L A4 A5 c4 c5 w5 HRa.out HRb.out (by omega) (by omega)).mono ?_
          rintro e w6 ⟨rfl, hb6⟩
          rw [show (L == L) = true from by simp]
          have HS6 := Lib.hid (HS5.out.on hb6)
          clear hb6 HS5 HRa HRb HLn hLn
          go_wp2_with fail
          refine (dDown_any p T D4 w6 HS6.out.ok.1.1).mono ?_
          rintro e wq ⟨rfl, hw⟩
          obtain rfl : w6 = wq := hw.symm
          go_wp2_with fail
          refine (rDown_any q T M5 w6 HS6.out.ok.1.2).mono ?_
          rintro e wq ⟨rfl, hw⟩
          obtain rfl : w6 = wq := hw.symm
          have hdd : (T.down != T.down) = false := by simp
          generalize T.down = dn at *
          go_wp2_with fail
          go_loopw [15, 16, 17, 18, 19] (fun i _ _ _ _ wi => ∃ (j : Nat) (M6 : RL), j ≤ 16 ∧ i = .int .i64 j ∧ Hid (St w (ftOb p q T D4 M6) wi)) (fun i _ _ _ _ _ => 17 - (intOf i).toNat)
          case atStart => exact ⟨0, M5, by omega, rfl, HS6⟩
          case round =>
            obtain ⟨j, M6, hj, rfl, HJ⟩ := hrel
            clear HS6
            by_cases hj2 : j = 16
            · subst hj2
              go_wp2_with fail
              go_roundw
              case rel => exact ⟨k + 1, T, D4, M6, by omega, by go_num, Lib.hid ⟨HJ.out, HKp.out⟩⟩
              case measure => simp [intOf]; omega
            · have d5 : decide ((j : Int) < 16) = true := by simp; omega
              have hji : inI64 (j : Int) := by unfold inI64; omega
              go_wp2_with fail
              refine (dSize_any p T D4 wr (j : Int) hji HJ.out.ok.1.1).mono ?_
              rintro e wq ⟨rfl, hw⟩
              obtain rfl : wr = wq := hw.symm
              have hsz := (show DK wr p T D4 from HJ.out.ok.1.1).wf.now (j : Int)
              have HRr := Lib.hid (fun (w' : World) (h : RK w' q T M6) => rRead_any q T M6 w' (j : Int) 0 (T.files (j : Int)).1.size h (by unfold inI64; omega) (by unfold inI64; omega))
              have HRd := Lib.hid (dRead_any p T D4 wr (j : Int) 0 (T.files (j : Int)).1.size hji HJ.out.ok.1.1)
              have HRs := Lib.hid (rSize_any q T M6 wr (j : Int) HJ.out.ok.1.2)
              clear hsz
              generalize T.readS (j : Int) 0 (T.files (j : Int)).1.size = rs at *
              generalize T.readC (j : Int) 0 (T.files (j : Int)).1.size = rc at *
              generalize (T.files (j : Int)).1.size = fz at *
              go_wp2_with fail
              refine HRd.out.mono ?_
              rintro e wq ⟨rfl, hw⟩
              obtain rfl : wr = wq := hw.symm
              go_wp2_with fail
              refine HRs.out.mono ?_
              rintro e w7 ⟨rfl, hb7⟩
              have HJ7 := Lib.hid (HJ.out.on hb7)
              clear hb7 HRd HRs
              go_wp2_with fail
              refine (HRr.out w7 HJ7.out.ok.1.2).mono ?_
              rintro e w8 ⟨rfl, hb8⟩
              have HJ8 := Lib.hid (HJ7.out.on hb8)
              clear hb8 HRr HJ7 HJ
              have hss : (rs.toList == rs.toList) = true := by simp
              have hrr : (rc != rc) = false := by simp
              go_wp2_with fail
              go_roundw
              case rel => exact ⟨j + 1, M6, by omega, by go_num, HJ8⟩
              case measure => simp [intOf]; omega
    · obtain rfl : k = l.length := by omega
      have d1 : decide ((l.length : Int) < (l.length : Int)) = false := by simp
      go_wp2_with fail
      have HBz := Lib.hid HI.out.1.bl
      clear HI
      refine (ePlan_any ps ev B d wr (HP.out.now HBz.out)).mono ?_
      rintro e w2 ⟨A2, c2, rfl, hown, hb2⟩
      have HB2 := Lib.hid (HBz.out.trans (hb2.mono HBz.out.size))
      have HO := Lib.hid (hown.rd intLayQ)
      clear hown hb2 HBz
      go_wp2_with fail
      refine (rPlan43_any ps ev B d w2 (HP.out.now HB2.out)).mono ?_
      rintro e w3 ⟨A3, c3, rfl, hown, hb3⟩
      have HB3 := Lib.hid (HB2.out.trans (hb3.mono HB2.out.size))
      have HO2 := Lib.hid (hown.rd intLayQ)
      have HO1 := Lib.hid (HO.out.now hb3)
      have hpl : (planL ps ev).length ≤ 1000000000 := planL_len (HP.out.len)
      clear hown hb3 HB2 HO
      generalize planL ps ev = P at *
      generalize planC ps ev = pc at *
      have hcc : (pc == pc) = true := by simp
      go_wp2_with fail
      refine (same41_any P P A2 A3 c2 c3 w3 HO1.out HO2.out (by omega) (by omega)).mono ?_
      rintro e w4 ⟨rfl, hb4⟩
      rw [show (P == P) = true from by simp]
      have HB4 := Lib.hid (HB3.out.trans (hb4.mono HB3.out.size))
      clear hb4 HB3
      go_wp2_with fail
      go_ret
      exact ⟨rfl, HB4.out⟩
end Go.Proofs.YtjmkodkechahdaaGreatDoor
/- Acts among the arguments of a law. -/
set_option linter.unusedSimpArgs false
set_option linter.unusedVariables false
namespace Go.Proofs.YtjmkodkechahdaaGreatDoor
open Go.ChangeShapes Go.WideShapes Go.RowKit Go.Deep
section
variable {H : Type} {enc0 : TypeId × Value → H} {w : World} {base : Nat} {spare : Nat → Bool} {held : Bool}
theorem fieldsAct : ∃ fs : Array Field, Tryz.prog.underlying 34 = some (.struct fs) ∧ fs.size = 5 ∧ fs.toList.map (·.type) = [3, 3, 3, 31, 32] ∧ oneCellFields Tryz.prog fs = true :=
  ⟨_, Tryz.underlying34, by kernel_rfl, by kernel_rfl, by kernel_rfl⟩
theorem cellsAct : Tryz.prog.cellsOf 34 = 5 := by kernel_rfl
theorem elemAct : ∀ m cs x, DataW.trod enc0 Tryz.prog w base spare held m 34 cs = some x → ∃ y : EA, EA.cs y = cs ∧ EAOk w w.heap.size y := by
  intro m l x hf
  obtain ⟨fs, hu, hsz, hty, hone⟩ := fieldsAct
  obtain ⟨hl, hc⟩ := struct_cells hu hone (by rw [cellsAct, hsz]) hf
  have hg : ∀ (i : Nat) (t : TypeId), (fs.toList.map (·.type))[i]? = some t → ∃ v n y, l[i]? = some v ∧ DataW.trod enc0 Tryz.prog w base spare held n t [v] = some y := by
    intro i t hi
    rw [List.getElem?_map] at hi
    obtain ⟨f, hf, rfl⟩ := Option.map_eq_some_iff.1 hi
    exact hc i f (by simpa using hf)
  rw [hty] at hg
  have hl4 : l.length = 5 := by rw [← hsz]; exact hl
  obtain ⟨v0, n0, y0, e0, h0⟩ := hg 0 _ rfl
  obtain ⟨x0, rfl, w0⟩ := int_cell Tryz.underlying3 h0
  obtain ⟨v1, n1, y1, e1, h1⟩ := hg 1 _ rfl
  obtain ⟨x1, rfl, w1⟩ := int_cell Tryz.underlying3 h1
  obtain ⟨v2, n2, y2, e2, h2⟩ := hg 2 _ rfl
  obtain ⟨x2, rfl, w2⟩ := int_cell Tryz.underlying3 h2
  obtain ⟨v3, n3, y3, e3, h3⟩ := hg 3 _ rfl
  obtain ⟨A, n, c, d4, p4, rfl, k4⟩ := slice_cell Tryz.underlying31 h3
  obtain ⟨ts, rfl, g1, g2, g3⟩ := open_intsC k4
  obtain ⟨v4, n4, y4, e4, h4⟩ := hg 4 _ rfl
  obtain ⟨A5, n5, c5, d5, p5, rfl, k5⟩ := slice_cell Tryz.underlying32 h4
  obtain ⟨ss, rfl, g4, g5, g6, _⟩ := open_strsJ k5
  have hcs : l = [.int .i64 x0, .int .i64 x1, .int .i64 x2, .slice A ts.length c, .slice A5 ss.length c5] := List.ext_getElem? (fun i => match i with
    | 0 => e0
    | 1 => e1
    | 2 => e2
    | 3 => e3
    | 4 => e4
    | n + 5 => by rw [List.getElem?_eq_none (by omega), List.getElem?_eq_none (by simp)])
  subst hcs
  exact ⟨⟨x0, x1, x2, ts, A, c, ss, A5, c5⟩, rfl, ⟨g1, g4, g3, g6, g2, inI64_of_wf w0, inI64_of_wf w1, inI64_of_wf w2⟩⟩
theorem open_acts {A : Option Addr} {n c : Nat} {d : DataW H} {p : List MemPlace} (h : DataW.Trod enc0 Tryz.prog w base spare held 22 (.slice A n c) d p) :
    ∃ xs : List EA, n = xs.length ∧ EasAt w A xs := by
  obtain ⟨xs, h1, h2, h3, h4⟩ := open_list Tryz.underlying22 cellsAct (by decide) (fun _ => rfl) elemAct h
  refine ⟨xs, h1, h2, h3, ?_⟩
  simp only [maxLen] at h4
  omega
end
end Go.Proofs.YtjmkodkechahdaaGreatDoor
