/- Contracts of the small functions of the reference of the ways. -/
import Derived.Test.YtebpnlbpdhgacaaWyG
namespace Go.Proofs.Ytebpnlbpdhgacaa
open Go.RowKit

abbrev wayV (x : Int × Int) : Value := .agg #[.int .i64 x.1, .int .i64 x.2]
def longW (p : Prof) : Int × Int := if 2 ≤ p.parts then (if 4400 ≤ p.size * p.parts then (1, 1) else (4, 1)) else (4, 0)
def editsB (p : Prof) : Bool := (p.edit == 2) && (p.within_ == 0)
def editW (p : Prof) : Int × Int := if editsB p then (0, 0) else (3, 2)
def goneW (p : Prof) : Int × Int := if p.delete = 0 then (if editsB p then (2, 0) else (3, 2)) else (0, 0)
def reactW (p : Prof) : Int × Int := if p.react then (if p.parts = 1 then (0, 0) else (0, 1)) else (3, 2)
def replyW (p : Prof) : Int × Int := if p.thread = 2 then (0, 0) else if p.thread = 1 then (2, 1) else (2, 2)
def ownW (b : Bool) : Int × Int := if b then (0, 0) else (2, 2)
def fileW (p : Prof) : Int × Int := if 4 ≤ p.files then (0, 0) else if 1 ≤ p.files then (4, 1) else (2, 2)

theorem boxFree (w : World) (cs : Array Value) (t : TypeId) {w' : World} (hb : Below (w.alloc (.cells cs t)).heap.size (w.alloc (.cells cs t)) w') (b : Nat) (he : b = w.heap.size) (o : Nat) : w'.frozen? ⟨b, o, none⟩ = false := by
  subst he
  rw [hb.frozen (p := ⟨w.heap.size, o, none⟩) (by simp)]
  simp
theorem boxCell (w : World) (cs : Array Value) (t : TypeId) {w' : World} (hb : Below (w.alloc (.cells cs t)).heap.size (w.alloc (.cells cs t)) w') (b : Nat) (he : b = w.heap.size) (j : Nat) (v : Value) (hj : cs[j]? = some v) : w'.cell? ⟨b, j, none⟩ = some v := by
  subst he
  exact boxCells w cs t hb j v hj
theorem below_res {B : Nat} {w0 w w1 : World} {cs : Array Value} {t : TypeId} (h : Below B w0 w) (hb : Below (w.alloc (.cells cs t)).heap.size (w.alloc (.cells cs t)) w1) (hs : B ≤ w.heap.size) : Below B w0 w1 :=
  (h.alloc hs _).trans (hb.mono (by simp; omega))

set_option maxHeartbeats 400000 in
theorem way_any (a b : Int) (w : World) : Calls Try.prog 20 #[.int .i64 a, .int .i64 b] w fun e w' => e = .returned (wayV (a, b)) ∧ Below w.heap.size w w' := by
  go_enter Try.func20, Try.ntmps20
  go_wp2
  exact bodyPost_ret (v := wayV (a, b)) (by simp [results, Try.results20, go_sem]) rfl ⟨rfl, (Below.refl _ _).alloc (Nat.le_refl _) _⟩
set_option maxHeartbeats 400000 in
theorem rOwn_any (b : Bool) (w : World) : Calls Try.prog 26 #[.bool b] w fun e w' => e = .returned (wayV (ownW b)) ∧ Below w.heap.size w w' := by
  have HB := Lib.hid (Below.refl w.heap.size w)
  cases b
  all_goals go_enter Try.func26, Try.ntmps26
  all_goals go_wp2_with fail
  · skip
    refine (way_any _ _ _).mono ?_
    rintro e w1 ⟨rfl, hb1⟩
    have c0 := boxCell _ _ _ hb1 w.heap.size (by simp) 0 _ rfl
    have c1 := boxCell _ _ _ hb1 w.heap.size (by simp) 1 _ rfl
    have g := boxFree _ _ _ hb1 w.heap.size (by simp)
    have HS := Lib.hid (below_res HB.out hb1 (by simp))
    clear hb1
    go_wp2
    refine bodyPost_ret (v := wayV (2, 2)) (by simp [results, Try.results26, go_sem, c0, c1]) rfl ⟨?_, (HS.out.setCell (by simp) _).setCell (by simp) _⟩
    rfl
  · skip
    refine (way_any _ _ _).mono ?_
    rintro e w1 ⟨rfl, hb1⟩
    have c0 := boxCell _ _ _ hb1 w.heap.size (by simp) 0 _ rfl
    have c1 := boxCell _ _ _ hb1 w.heap.size (by simp) 1 _ rfl
    have g := boxFree _ _ _ hb1 w.heap.size (by simp)
    have HS := Lib.hid (below_res HB.out hb1 (by simp))
    clear hb1
    go_wp2
    refine bodyPost_ret (v := wayV (0, 0)) (by simp [results, Try.results26, go_sem, c0, c1]) rfl ⟨?_, (HS.out.setCell (by simp) _).setCell (by simp) _⟩
    rfl
set_option maxHeartbeats 400000 in
theorem rEdit_any (p : Prof) (A : Option Addr) (c : Nat) (w : World) : Calls Try.prog 22 #[p.v A c] w fun e w' => e = .returned (wayV (editW p)) ∧ Below w.heap.size w w' := by
  have HB := Lib.hid ((Below.refl w.heap.size w).alloc (Nat.le_refl _) (.cells (p.cs A c) 24))
  have HE : Hid (editsB p = ((p.edit == 2) && (p.within_ == 0))) := Lib.hid rfl
  by_cases h1 : p.edit = 2 <;> by_cases h2 : p.within_ = 0
  all_goals go_enter Try.func22, Try.ntmps22
  all_goals go_wp2_with fail
  · skip
    refine (way_any _ _ _).mono ?_
    rintro e w1 ⟨rfl, hb1⟩
    have c0 := boxCell _ _ _ hb1 (w.heap.size + 1) (by simp) 0 _ rfl
    have c1 := boxCell _ _ _ hb1 (w.heap.size + 1) (by simp) 1 _ rfl
    have g := boxFree _ _ _ hb1 (w.heap.size + 1) (by simp)
    have HS := Lib.hid (below_res HB.out hb1 (by simp))
    clear hb1
    go_wp2
    refine bodyPost_ret (v := wayV (0, 0)) (by simp [results, Try.results22, go_sem, c0, c1]) rfl ⟨?_, (HS.out.setCell (by simp) _).setCell (by simp) _⟩
    simp [editW, HE.out, h1, h2]
  · skip
    refine (way_any _ _ _).mono ?_
    rintro e w1 ⟨rfl, hb1⟩
    have c0 := boxCell _ _ _ hb1 (w.heap.size + 1) (by simp) 0 _ rfl
    have c1 := boxCell _ _ _ hb1 (w.heap.size + 1) (by simp) 1 _ rfl
    have g := boxFree _ _ _ hb1 (w.heap.size + 1) (by simp)
    have HS := Lib.hid (below_res HB.out hb1 (by simp))
    clear hb1
    go_wp2
    refine bodyPost_ret (v := wayV (3, 2)) (by simp [results, Try.results22, go_sem, c0, c1]) rfl ⟨?_, (HS.out.setCell (by simp) _).setCell (by simp) _⟩
    simp [editW, HE.out, h1, h2]
  · skip
    refine (way_any _ _ _).mono ?_
    rintro e w1 ⟨rfl, hb1⟩
    have c0 := boxCell _ _ _ hb1 (w.heap.size + 1) (by simp) 0 _ rfl
    have c1 := boxCell _ _ _ hb1 (w.heap.size + 1) (by simp) 1 _ rfl
    have g := boxFree _ _ _ hb1 (w.heap.size + 1) (by simp)
    have HS := Lib.hid (below_res HB.out hb1 (by simp))
    clear hb1
    go_wp2
    refine bodyPost_ret (v := wayV (3, 2)) (by simp [results, Try.results22, go_sem, c0, c1]) rfl ⟨?_, (HS.out.setCell (by simp) _).setCell (by simp) _⟩
    simp [editW, HE.out, h1, h2]
  · skip
    refine (way_any _ _ _).mono ?_
    rintro e w1 ⟨rfl, hb1⟩
    have c0 := boxCell _ _ _ hb1 (w.heap.size + 1) (by simp) 0 _ rfl
    have c1 := boxCell _ _ _ hb1 (w.heap.size + 1) (by simp) 1 _ rfl
    have g := boxFree _ _ _ hb1 (w.heap.size + 1) (by simp)
    have HS := Lib.hid (below_res HB.out hb1 (by simp))
    clear hb1
    go_wp2
    refine bodyPost_ret (v := wayV (3, 2)) (by simp [results, Try.results22, go_sem, c0, c1]) rfl ⟨?_, (HS.out.setCell (by simp) _).setCell (by simp) _⟩
    simp [editW, HE.out, h1, h2]
set_option maxHeartbeats 400000 in
theorem rLong_any (p : Prof) (A : Option Addr) (c : Nat) (w : World) (hs1 : 40 ≤ p.size) (hs2 : p.size ≤ 4000) (hp1 : 1 ≤ p.parts) (hp2 : p.parts ≤ 20) : Calls Try.prog 21 #[p.v A c] w fun e w' => e = .returned (wayV (longW p)) ∧ Below w.heap.size w w' := by
  have HB := Lib.hid ((Below.refl w.heap.size w).alloc (Nat.le_refl _) (.cells (p.cs A c) 24))
  have hm0 : 0 ≤ p.size * p.parts := Int.mul_nonneg (by omega) (by omega)
  have hm1 : p.size * p.parts ≤ 80000 := Int.le_trans (Int.mul_le_mul hs2 hp2 (by omega) (by omega)) (by omega)
  by_cases h1 : p.parts < 2
  · have e1 : decide (2 ≤ p.parts) = false := by simpa using h1
    go_enter Try.func21, Try.ntmps21
    go_wp2_with fail
    refine (way_any _ _ _).mono ?_
    rintro e w1 ⟨rfl, hb1⟩
    have c0 := boxCell _ _ _ hb1 (w.heap.size + 1) (by simp) 0 _ rfl
    have c1 := boxCell _ _ _ hb1 (w.heap.size + 1) (by simp) 1 _ rfl
    have g := boxFree _ _ _ hb1 (w.heap.size + 1) (by simp)
    have HS := Lib.hid (below_res HB.out hb1 (by simp))
    clear hb1
    go_wp2
    refine bodyPost_ret (v := wayV (4, 0)) (by simp [results, Try.results21, go_sem, c0, c1]) rfl ⟨?_, (HS.out.setCell (by simp) _).setCell (by simp) _⟩
    simp [longW, show ¬ 2 ≤ p.parts by omega]
  · have e1 : decide (2 ≤ p.parts) = true := by simpa using h1
    by_cases h2 : 4400 ≤ p.size * p.parts
    all_goals go_enter Try.func21, Try.ntmps21
    all_goals go_wp2_with fail
    · skip
      refine (way_any _ _ _).mono ?_
      rintro e w1 ⟨rfl, hb1⟩
      have c0 := boxCell _ _ _ hb1 (w.heap.size + 1) (by simp) 0 _ rfl
      have c1 := boxCell _ _ _ hb1 (w.heap.size + 1) (by simp) 1 _ rfl
      have g := boxFree _ _ _ hb1 (w.heap.size + 1) (by simp)
      have HS := Lib.hid (below_res HB.out hb1 (by simp))
      clear hb1
      go_wp2
      refine bodyPost_ret (v := wayV (1, 1)) (by simp [results, Try.results21, go_sem, c0, c1]) rfl ⟨?_, (HS.out.setCell (by simp) _).setCell (by simp) _⟩
      simp [longW, show 2 ≤ p.parts by omega, h2]
    · skip
      refine (way_any _ _ _).mono ?_
      rintro e w1 ⟨rfl, hb1⟩
      have c0 := boxCell _ _ _ hb1 (w.heap.size + 1) (by simp) 0 _ rfl
      have c1 := boxCell _ _ _ hb1 (w.heap.size + 1) (by simp) 1 _ rfl
      have g := boxFree _ _ _ hb1 (w.heap.size + 1) (by simp)
      have HS := Lib.hid (below_res HB.out hb1 (by simp))
      clear hb1
      go_wp2
      refine bodyPost_ret (v := wayV (4, 1)) (by simp [results, Try.results21, go_sem, c0, c1]) rfl ⟨?_, (HS.out.setCell (by simp) _).setCell (by simp) _⟩
      simp [longW, show 2 ≤ p.parts by omega, show ¬ 4400 ≤ p.size * p.parts by omega]
set_option maxHeartbeats 400000 in
theorem rReact_any (p : Prof) (A : Option Addr) (c : Nat) (w : World) : Calls Try.prog 24 #[p.v A c] w fun e w' => e = .returned (wayV (reactW p)) ∧ Below w.heap.size w w' := by
  have HB := Lib.hid ((Below.refl w.heap.size w).alloc (Nat.le_refl _) (.cells (p.cs A c) 24))
  by_cases h1 : p.react = true
  · by_cases h2 : p.parts = 1
    all_goals go_enter Try.func24, Try.ntmps24
    all_goals go_wp2_with fail
    · skip
      refine (way_any _ _ _).mono ?_
      rintro e w1 ⟨rfl, hb1⟩
      have c0 := boxCell _ _ _ hb1 (w.heap.size + 1) (by simp) 0 _ rfl
      have c1 := boxCell _ _ _ hb1 (w.heap.size + 1) (by simp) 1 _ rfl
      have g := boxFree _ _ _ hb1 (w.heap.size + 1) (by simp)
      have HS := Lib.hid (below_res HB.out hb1 (by simp))
      clear hb1
      go_wp2
      refine bodyPost_ret (v := wayV (0, 0)) (by simp [results, Try.results24, go_sem, c0, c1]) rfl ⟨?_, (HS.out.setCell (by simp) _).setCell (by simp) _⟩
      simp [reactW, h1, h2]
    · skip
      refine (way_any _ _ _).mono ?_
      rintro e w1 ⟨rfl, hb1⟩
      have c0 := boxCell _ _ _ hb1 (w.heap.size + 1) (by simp) 0 _ rfl
      have c1 := boxCell _ _ _ hb1 (w.heap.size + 1) (by simp) 1 _ rfl
      have g := boxFree _ _ _ hb1 (w.heap.size + 1) (by simp)
      have HS := Lib.hid (below_res HB.out hb1 (by simp))
      clear hb1
      go_wp2
      refine bodyPost_ret (v := wayV (0, 1)) (by simp [results, Try.results24, go_sem, c0, c1]) rfl ⟨?_, (HS.out.setCell (by simp) _).setCell (by simp) _⟩
      simp [reactW, h1, h2]
  · have h2 : p.react = false := by simpa using h1
    go_enter Try.func24, Try.ntmps24
    go_wp2_with fail
    refine (way_any _ _ _).mono ?_
    rintro e w1 ⟨rfl, hb1⟩
    have c0 := boxCell _ _ _ hb1 (w.heap.size + 1) (by simp) 0 _ rfl
    have c1 := boxCell _ _ _ hb1 (w.heap.size + 1) (by simp) 1 _ rfl
    have g := boxFree _ _ _ hb1 (w.heap.size + 1) (by simp)
    have HS := Lib.hid (below_res HB.out hb1 (by simp))
    clear hb1
    go_wp2
    refine bodyPost_ret (v := wayV (3, 2)) (by simp [results, Try.results24, go_sem, c0, c1]) rfl ⟨?_, (HS.out.setCell (by simp) _).setCell (by simp) _⟩
    simp [reactW, h2]
set_option maxHeartbeats 400000 in
theorem rReply_any (p : Prof) (A : Option Addr) (c : Nat) (w : World) : Calls Try.prog 25 #[p.v A c] w fun e w' => e = .returned (wayV (replyW p)) ∧ Below w.heap.size w w' := by
  have HB := Lib.hid ((Below.refl w.heap.size w).alloc (Nat.le_refl _) (.cells (p.cs A c) 24))
  by_cases h1 : p.thread = 2
  · have e1 : (p.thread == 2) = true := by simpa using h1
    have H1 := Lib.hid h1
    clear h1
    go_enter Try.func25, Try.ntmps25
    go_wp2_with fail
    refine (way_any _ _ _).mono ?_
    rintro e w1 ⟨rfl, hb1⟩
    have c0 := boxCell _ _ _ hb1 (w.heap.size + 1) (by simp) 0 _ rfl
    have c1 := boxCell _ _ _ hb1 (w.heap.size + 1) (by simp) 1 _ rfl
    have g := boxFree _ _ _ hb1 (w.heap.size + 1) (by simp)
    have HS := Lib.hid (below_res HB.out hb1 (by simp))
    clear hb1
    go_wp2
    refine bodyPost_ret (v := wayV (0, 0)) (by simp [results, Try.results25, go_sem, c0, c1]) rfl ⟨?_, (HS.out.setCell (by simp) _).setCell (by simp) _⟩
    simp [replyW, H1.out]
  · by_cases h2 : p.thread = 1
    · have e1 : (p.thread == 1) = true := by simpa using h2
      have e2 : (p.thread == 2) = false := by simpa using h1
      have H1 := Lib.hid h2
      clear h1 h2
      go_enter Try.func25, Try.ntmps25
      go_wp2_with fail
      refine (way_any _ _ _).mono ?_
      rintro e w1 ⟨rfl, hb1⟩
      have c0 := boxCell _ _ _ hb1 (w.heap.size + 1) (by simp) 0 _ rfl
      have c1 := boxCell _ _ _ hb1 (w.heap.size + 1) (by simp) 1 _ rfl
      have g := boxFree _ _ _ hb1 (w.heap.size + 1) (by simp)
      have HS := Lib.hid (below_res HB.out hb1 (by simp))
      clear hb1
      go_wp2
      refine bodyPost_ret (v := wayV (2, 1)) (by simp [results, Try.results25, go_sem, c0, c1]) rfl ⟨?_, (HS.out.setCell (by simp) _).setCell (by simp) _⟩
      simp [replyW, H1.out]
    · have e1 : (p.thread == 1) = false := by simpa using h2
      have e2 : (p.thread == 2) = false := by simpa using h1
      go_enter Try.func25, Try.ntmps25
      go_wp2_with fail
      refine (way_any _ _ _).mono ?_
      rintro e w1 ⟨rfl, hb1⟩
      have c0 := boxCell _ _ _ hb1 (w.heap.size + 1) (by simp) 0 _ rfl
      have c1 := boxCell _ _ _ hb1 (w.heap.size + 1) (by simp) 1 _ rfl
      have g := boxFree _ _ _ hb1 (w.heap.size + 1) (by simp)
      have HS := Lib.hid (below_res HB.out hb1 (by simp))
      clear hb1
      go_wp2
      refine bodyPost_ret (v := wayV (2, 2)) (by simp [results, Try.results25, go_sem, c0, c1]) rfl ⟨?_, (HS.out.setCell (by simp) _).setCell (by simp) _⟩
      simp [replyW, h1, h2]
set_option maxHeartbeats 400000 in
theorem rFile_any (p : Prof) (A : Option Addr) (c : Nat) (w : World) : Calls Try.prog 27 #[p.v A c] w fun e w' => e = .returned (wayV (fileW p)) ∧ Below w.heap.size w w' := by
  have HB := Lib.hid ((Below.refl w.heap.size w).alloc (Nat.le_refl _) (.cells (p.cs A c) 24))
  by_cases h1 : 4 ≤ p.files
  · have e1 : decide (4 ≤ p.files) = true := by simpa using h1
    go_enter Try.func27, Try.ntmps27
    go_wp2_with fail
    refine (way_any _ _ _).mono ?_
    rintro e w1 ⟨rfl, hb1⟩
    have c0 := boxCell _ _ _ hb1 (w.heap.size + 1) (by simp) 0 _ rfl
    have c1 := boxCell _ _ _ hb1 (w.heap.size + 1) (by simp) 1 _ rfl
    have g := boxFree _ _ _ hb1 (w.heap.size + 1) (by simp)
    have HS := Lib.hid (below_res HB.out hb1 (by simp))
    clear hb1
    go_wp2
    refine bodyPost_ret (v := wayV (0, 0)) (by simp [results, Try.results27, go_sem, c0, c1]) rfl ⟨?_, (HS.out.setCell (by simp) _).setCell (by simp) _⟩
    simp [fileW, h1]
  · have e1 : decide (4 ≤ p.files) = false := by simpa using h1
    by_cases h2 : 1 ≤ p.files
    · have e2 : decide (1 ≤ p.files) = true := by simpa using h2
      go_enter Try.func27, Try.ntmps27
      go_wp2_with fail
      refine (way_any _ _ _).mono ?_
      rintro e w1 ⟨rfl, hb1⟩
      have c0 := boxCell _ _ _ hb1 (w.heap.size + 1) (by simp) 0 _ rfl
      have c1 := boxCell _ _ _ hb1 (w.heap.size + 1) (by simp) 1 _ rfl
      have g := boxFree _ _ _ hb1 (w.heap.size + 1) (by simp)
      have HS := Lib.hid (below_res HB.out hb1 (by simp))
      clear hb1
      go_wp2
      refine bodyPost_ret (v := wayV (4, 1)) (by simp [results, Try.results27, go_sem, c0, c1]) rfl ⟨?_, (HS.out.setCell (by simp) _).setCell (by simp) _⟩
      simp [fileW, show ¬ 4 ≤ p.files by omega, h2]
    · have e2 : decide (1 ≤ p.files) = false := by simpa using h2
      go_enter Try.func27, Try.ntmps27
      go_wp2_with fail
      refine (way_any _ _ _).mono ?_
      rintro e w1 ⟨rfl, hb1⟩
      have c0 := boxCell _ _ _ hb1 (w.heap.size + 1) (by simp) 0 _ rfl
      have c1 := boxCell _ _ _ hb1 (w.heap.size + 1) (by simp) 1 _ rfl
      have g := boxFree _ _ _ hb1 (w.heap.size + 1) (by simp)
      have HS := Lib.hid (below_res HB.out hb1 (by simp))
      clear hb1
      go_wp2
      refine bodyPost_ret (v := wayV (2, 2)) (by simp [results, Try.results27, go_sem, c0, c1]) rfl ⟨?_, (HS.out.setCell (by simp) _).setCell (by simp) _⟩
      simp [fileW, show ¬ 4 ≤ p.files by omega, show ¬ 1 ≤ p.files by omega]
theorem fieldWay0 (a b : Int) (w : World) : (Instr.field 35 (.agg #[.int .i64 a, .int .i64 b]) 0).run Try.prog w = .ok (.int .i64 a) w := by kernel_rfl
theorem fieldWay1 (a b : Int) (w : World) : (Instr.field 35 (.agg #[.int .i64 a, .int .i64 b]) 1).run Try.prog w = .ok (.int .i64 b) w := by kernel_rfl
set_option maxHeartbeats 1000000 in
theorem rGone_any (p : Prof) (A : Option Addr) (c : Nat) (w : World) : Calls Try.prog 23 #[p.v A c] w fun e w' => e = .returned (wayV (goneW p)) ∧ Below w.heap.size w w' := by
  have HB := Lib.hid ((Below.refl w.heap.size w).alloc (Nat.le_refl _) (.cells (p.cs A c) 24))
  by_cases h1 : p.delete = 0
  · have e1 : (p.delete != 0) = false := by simpa using h1
    have H1 := Lib.hid h1
    clear h1
    have HRA := Lib.hid (boxRange w (p.cs A c) 24 ((Below.refl (w.alloc (.cells (p.cs A c) 24)).heap.size (w.alloc (.cells (p.cs A c) 24))).alloc (Nat.le_refl _) (.cells #[.int .i64 0, .int .i64 0] 35)))
    generalize he : editsB p = eb
    have HE := Lib.hid he
    clear he
    go_enter Try.func23, Try.ntmps23
    go_wp2_with ((with_reducible show wpList _ _ _ (Oper.mk _ (Op.load 24 _) _ _ _ _ :: _) _ _); refine wpList_load_g rfl 24 (.tmp 1) rfl w.heap.size 0 rfl (p.cs A c).toList _ HRA.out Try.underlying24 rfl (by kernel_rfl) ?_)
    refine (rEdit_any p A c _).mono ?_
    rintro e w1 ⟨rfl, hb1⟩
    have d0 := boxCell _ _ _ hb1 (w.heap.size + 1) (by simp) 0 _ rfl
    have d1 := boxCell _ _ _ hb1 (w.heap.size + 1) (by simp) 1 _ rfl
    have f := boxFree _ _ _ hb1 (w.heap.size + 1) (by simp)
    have hsz : w.heap.size + 1 < w1.heap.size := by have := hb1.size; simp at this; omega
    have HS1 := Lib.hid (below_res HB.out hb1 (by simp))
    clear hb1
    cases eb
    · rw [show editW p = (3, 2) by simp [editW, HE.out]]
      unfold wayV
      have hfl := fieldWay0
      go_wp2_with fail
      refine (way_any _ _ _).mono ?_
      rintro e w2 ⟨rfl, hb2⟩
      have c0 := (hb2.cell (p := ⟨w.heap.size + 1, 0, none⟩) hsz).trans d0
      have c1 := (hb2.cell (p := ⟨w.heap.size + 1, 1, none⟩) hsz).trans d1
      have g := fun o => (hb2.frozen (p := ⟨w.heap.size + 1, o, none⟩) hsz).trans (f o)
      have HS2 := Lib.hid (HS1.out.trans (hb2.mono HS1.out.size))
      clear hb2 d0 d1 f
      go_wp2
      refine bodyPost_ret (v := wayV (3, 2)) (by simp [results, Try.results23, go_sem, c0, c1]) rfl ⟨?_, (HS2.out.setCell (by simp) _).setCell (by simp) _⟩
      simp [goneW, H1.out, HE.out]
    · rw [show editW p = (0, 0) by simp [editW, HE.out]]
      unfold wayV
      have hfl := fieldWay0
      go_wp2_with fail
      refine (way_any _ _ _).mono ?_
      rintro e w2 ⟨rfl, hb2⟩
      have c0 := (hb2.cell (p := ⟨w.heap.size + 1, 0, none⟩) hsz).trans d0
      have c1 := (hb2.cell (p := ⟨w.heap.size + 1, 1, none⟩) hsz).trans d1
      have g := fun o => (hb2.frozen (p := ⟨w.heap.size + 1, o, none⟩) hsz).trans (f o)
      have HS2 := Lib.hid (HS1.out.trans (hb2.mono HS1.out.size))
      clear hb2 d0 d1 f
      go_wp2
      refine bodyPost_ret (v := wayV (2, 0)) (by simp [results, Try.results23, go_sem, c0, c1]) rfl ⟨?_, (HS2.out.setCell (by simp) _).setCell (by simp) _⟩
      simp [goneW, H1.out, HE.out]
  · have e1 : (p.delete != 0) = true := by simpa using h1
    go_enter Try.func23, Try.ntmps23
    go_wp2_with fail
    refine (way_any _ _ _).mono ?_
    rintro e w1 ⟨rfl, hb1⟩
    have c0 := boxCell _ _ _ hb1 (w.heap.size + 1) (by simp) 0 _ rfl
    have c1 := boxCell _ _ _ hb1 (w.heap.size + 1) (by simp) 1 _ rfl
    have g := boxFree _ _ _ hb1 (w.heap.size + 1) (by simp)
    have HS := Lib.hid (below_res HB.out hb1 (by simp))
    clear hb1
    go_wp2
    refine bodyPost_ret (v := wayV (0, 0)) (by simp [results, Try.results23, go_sem, c0, c1]) rfl ⟨?_, (HS.out.setCell (by simp) _).setCell (by simp) _⟩
    simp [goneW, h1]
end Go.Proofs.Ytebpnlbpdhgacaa
