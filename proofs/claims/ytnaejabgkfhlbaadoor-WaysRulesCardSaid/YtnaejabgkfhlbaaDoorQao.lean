/- Contracts and plain laws, joined: WyI, WyJ, WyK, WyL, WyM. -/
import Derived.Test.YtnaejabgkfhlbaaDoorQal
import Derived.Deep.RegionHeld3
import Derived.Deep.DrawnRows
import Derived.Test.YtnaejabgkfhlbaaDoorQai
/- Contract of the reference of ways.Compile. -/
set_option linter.unusedSimpArgs false
set_option linter.unusedVariables false
namespace Go.Proofs.YtnaejabgkfhlbaaDoor
open Go.RowKit
attribute [local go_sem ↓] Go.wp_at_zero Go.wp_at_succ

def wayC (x : Int × Int) : List Value := [.int .i64 x.1, .int .i64 x.2]
def wayL (p : Prof) : List (Int × Int) := [(0, 0), longW p, editW p, goneW p, reactW p, replyW p, ownW p.quote, ownW p.mention, fileW p]
def waysOf (p : Prof) : List (Int × Int) := if profCheck p = 0 then wayL p else []
/-- What both Compile return. -/
def WaysOut (p : Prof) (w : World) (e : Ending) (w' : World) : Prop :=
  Below w.heap.size w w' ∧ ∃ A c, e = .returned (.tuple #[.slice A (waysOf p).length c, .int .i64 (profCheck p)]) ∧ RdL 2 wayC w' w'.heap.size A (waysOf p)
theorem check_bounds (p : Prof) (h : profCheck p = 0) : 40 ≤ p.size ∧ p.size ≤ 4000 ∧ 1 ≤ p.parts ∧ p.parts ≤ 20 := by
  unfold profCheck at h
  split at h
  · split at h
    · cases h
    · rename_i h2
      simp [offB, boundsB, inR] at h2
      omega
  · cases h

theorem RdL.block {T : Type} {sz : Nat} {enc : T → List Value} (L : Lay sz enc) (w : World) (xs : List T) (cs : Array Value) (t : TypeId) (h : cs.toList = xs.flatMap enc) (b : Nat) (hb : b = w.heap.size) :
    RdL sz enc (w.alloc (.cells cs t)) (w.alloc (.cells cs t)).heap.size (some ⟨b, 0, none⟩) xs := by
  subst hb
  intro k x hx
  refine ⟨_, _, rfl, by simp, fun j v hj => ?_⟩
  have hg := flat_get L xs k j x v hx hj
  rw [← h] at hg
  unfold World.cell?
  simp only [heap_alloc_new]
  simpa using hg
theorem wayLay : Lay 2 wayC := ⟨fun _ => rfl, fun x u hu => by simp only [wayC, List.mem_cons, List.not_mem_nil, or_false] at hu; rcases hu with rfl | rfl <;> rfl⟩

end Go.Proofs.YtnaejabgkfhlbaaDoor
/- Contract of ways.first. -/
set_option linter.unusedSimpArgs false
set_option linter.unusedVariables false
namespace Go.Proofs.YtnaejabgkfhlbaaDoor
open Go.RowKit

def choC (x : Bool × Int × Int) : List Value := [.bool x.1, .int .i64 x.2.1, .int .i64 x.2.2]
theorem choLay : Lay 3 choC := ⟨fun _ => rfl, fun x u hu => by simp only [choC, List.mem_cons, List.not_mem_nil, or_false] at hu; rcases hu with rfl | rfl | rfl <;> rfl⟩
def firstW : List (Bool × Int × Int) → Int × Int
  | [] => (5, 2)
  | (b, x) :: r => if b then x else firstW r
theorem firstW_drop {xs : List (Bool × Int × Int)} {k : Nat} {b : Bool} {x : Int × Int} (h : xs[k]? = some (b, x)) : firstW (xs.drop k) = if b then x else firstW (xs.drop (k + 1)) := by
  obtain ⟨hk, he⟩ := List.getElem?_eq_some_iff.1 h
  rw [List.drop_eq_getElem_cons hk, he]
  rfl

set_option maxHeartbeats 1000000 in
theorem first_any (xs : List (Bool × Int × Int)) (n : Nat) (hn : n = xs.length) (hm : n ≤ 1000) (A : Option Addr) (c : Nat) (w : World) (hr : RdL 3 choC w w.heap.size A xs) :
    Calls Tryd.prog 70 #[.slice A n c] w fun e w' => e = .returned (wayV (firstW xs)) ∧ Below w.heap.size w w' := by
  subst hn
  have hb0 : Below w.heap.size w (w.alloc (.cells #[.int .i64 0, .int .i64 0] 88)) := (Below.refl _ _).alloc (Nat.le_refl _) _
  have hr0 := hr.now hb0
  have HB := Lib.hid hb0
  clear hb0
  go_enter Tryd.func70, Tryd.ntmps70
  go_wp2
  go_loopw [7] (fun i wr => ∃ k : Nat, k ≤ xs.length ∧ i = .int .i64 k ∧ firstW xs = firstW (xs.drop k) ∧ Below (w.alloc (.cells #[.int .i64 0, .int .i64 0] 88)).heap.size (w.alloc (.cells #[.int .i64 0, .int .i64 0] 88)) wr) (fun i _ => xs.length - (intOf i).toNat)
  case atStart => exact ⟨0, Nat.zero_le _, rfl, rfl, Below.refl _ _⟩
  case round =>
    obtain ⟨k, hk, rfl, hf, hb⟩ := hrel
    have c0 := boxCell _ _ _ hb w.heap.size rfl 0 _ rfl
    have c1 := boxCell _ _ _ hb w.heap.size rfl 1 _ rfl
    have g := boxFree _ _ _ hb w.heap.size rfl
    have HF := Lib.hid hf
    clear hf
    have hsz : w.heap.size < wr.heap.size := by have := hb.size; simp at this; omega
    by_cases hlt : k < xs.length
    · obtain ⟨b, off, rfl, hbb, hc⟩ := (hr0.below hb).at_ hlt
      obtain ⟨⟨q, x1, x2⟩, hx⟩ : ∃ x, xs[k] = x := ⟨_, rfl⟩
      have HX := Lib.hid (show xs[k]? = some (q, x1, x2) by rw [List.getElem?_eq_getElem hlt, hx])
      rw [hx] at hc
      have v0 := hc 0 _ rfl
      have v1 := hc 1 _ rfl
      have v2 := hc 2 _ rfl
      simp only [Nat.add_zero] at v0
      clear hc hx
      have HBB := Lib.hid hb
      clear hb
      cases q
      · go_wp2
        go_roundw
        case rel => exact ⟨k + 1, by omega, by go_num, by rw [HF.out, firstW_drop HX.out]; rfl, HBB.out.alloc HBB.out.size _⟩
        case measure => simp [intOf]; omega
      · go_wp2
        have q0 : ∀ o j, (((wr.setCell ⟨w.heap.size, 0, none⟩ (.int .i64 x1)).setCell ⟨w.heap.size, 1, none⟩ (.int .i64 x2)).alloc o).cell? ⟨w.heap.size, j, none⟩ = ((wr.setCell ⟨w.heap.size, 0, none⟩ (.int .i64 x1)).setCell ⟨w.heap.size, 1, none⟩ (.int .i64 x2)).cell? ⟨w.heap.size, j, none⟩ := fun o j => cell_old _ o _ j (by simp; omega)
        refine bodyPost_ret (v := wayV (x1, x2)) (by simp [results, Tryd.results70, go_sem, c0, c1, q0]) rfl ⟨?_, ((((HB.out.trans (HBB.out.mono HB.out.size)).setCell (by simp) _).setCell (by simp) _).alloc (by simp; omega) _)⟩
        simp [HF.out, firstW_drop HX.out]
    · have hdn : xs.drop k = [] := List.drop_of_length_le (by omega)
      have HD := Lib.hid (show firstW xs = (5, 2) by rw [HF.out, hdn]; rfl)
      have HBB := Lib.hid hb
      clear hb hdn
      go_wp2
      refine bodyPost_ret (v := wayV (5, 2)) (by simp [results, Tryd.results70, go_sem, c0, c1]) rfl ⟨?_, (((HB.out.trans (HBB.out.mono HB.out.size)).setCell (by simp) _).setCell (by simp) _)⟩
      simp [HD.out]
end Go.Proofs.YtnaejabgkfhlbaaDoor
/- Contract of ways.Compile. -/
set_option linter.unusedSimpArgs false
set_option linter.unusedVariables false
namespace Go.Proofs.YtnaejabgkfhlbaaDoor
open Go.RowKit

theorem slW : SlTy Tryd.prog 44 88 2 16 := by
  obtain ⟨i, hi, h0, h1, h2⟩ := info_parts (show (Tryd.prog.info? 88).map (fun i => (i.zero, i.size, i.bytes)) = some (some (.agg #[.int .i64 0, .int .i64 0]), 2, 16) by kernel_rfl)
  exact ⟨Tryd.underlying44, ⟨i, _, hi, h0, h1, h2, rfl⟩, by decide, by decide⟩

theorem check_files (p : Prof) (h : profCheck p = 0) : p.files ≤ 4 := by
  unfold profCheck at h
  split at h
  · split at h
    · cases h
    · rename_i h2
      simp [offB, boundsB, inR] at h2
      omega
  · cases h
/-- What is read of the profile's box b and of the three ways behind w1, in every later world. -/
theorem waysFacts (p : Prof) (w1 W3 : World) (b : Nat) (hs : b < w1.heap.size) (hW3 : W3 = ((w1.alloc (.cells #[.int .i64 0, .int .i64 0] 88)).alloc (.cells #[.int .i64 2, .int .i64 2] 88)).alloc (.cells #[.int .i64 3, .int .i64 2] 88))
    (f1 : w1.cell? ⟨b, 1, none⟩ = some (.int .i64 p.edit)) (f2 : w1.cell? ⟨b, 2, none⟩ = some (.int .i64 p.within_)) (f3 : w1.cell? ⟨b, 3, none⟩ = some (.int .i64 p.delete)) (f4 : w1.cell? ⟨b, 4, none⟩ = some (.bool p.react)) (f5 : w1.cell? ⟨b, 5, none⟩ = some (.int .i64 p.thread))
    (f6 : w1.cell? ⟨b, 6, none⟩ = some (.bool p.quote)) (f7 : w1.cell? ⟨b, 7, none⟩ = some (.bool p.mention)) (f8 : w1.cell? ⟨b, 8, none⟩ = some (.int .i64 p.size)) (f9 : w1.cell? ⟨b, 9, none⟩ = some (.int .i64 p.parts)) (f10 : w1.cell? ⟨b, 10, none⟩ = some (.int .i64 p.files)) :
    ∀ wx, Below W3.heap.size W3 wx → wx.cell? ⟨b, 1, none⟩ = some (.int .i64 p.edit) ∧ wx.cell? ⟨b, 2, none⟩ = some (.int .i64 p.within_) ∧ wx.cell? ⟨b, 3, none⟩ = some (.int .i64 p.delete) ∧ wx.cell? ⟨b, 4, none⟩ = some (.bool p.react) ∧ wx.cell? ⟨b, 5, none⟩ = some (.int .i64 p.thread)
      ∧ wx.cell? ⟨b, 6, none⟩ = some (.bool p.quote) ∧ wx.cell? ⟨b, 7, none⟩ = some (.bool p.mention) ∧ wx.cell? ⟨b, 8, none⟩ = some (.int .i64 p.size) ∧ wx.cell? ⟨b, 9, none⟩ = some (.int .i64 p.parts) ∧ wx.cell? ⟨b, 10, none⟩ = some (.int .i64 p.files)
      ∧ wx.cell? ⟨w1.heap.size, 0, none⟩ = some (.int .i64 0) ∧ wx.cell? ⟨w1.heap.size, 1, none⟩ = some (.int .i64 0) ∧ wx.cell? ⟨w1.heap.size + 1, 0, none⟩ = some (.int .i64 2) ∧ wx.cell? ⟨w1.heap.size + 1, 1, none⟩ = some (.int .i64 2) ∧ wx.cell? ⟨w1.heap.size + 1 + 1, 0, none⟩ = some (.int .i64 3) ∧ wx.cell? ⟨w1.heap.size + 1 + 1, 1, none⟩ = some (.int .i64 2) := by
  intro wx hb
  have hz : W3.heap.size = w1.heap.size + 3 := by rw [hW3]; simp
  have k : ∀ a j, a < w1.heap.size + 3 → wx.cell? ⟨a, j, none⟩ = W3.cell? ⟨a, j, none⟩ := fun a j h => hb.cell (p := ⟨a, j, none⟩) (by simp only; omega)
  have o : ∀ j, wx.cell? ⟨b, j, none⟩ = w1.cell? ⟨b, j, none⟩ := fun j => by
    rw [k b j (by omega), hW3, cell_old _ _ _ _ (by simp; omega), cell_old _ _ _ _ (by simp; omega), cell_old _ _ _ _ hs]
  refine ⟨(o 1).trans f1, (o 2).trans f2, (o 3).trans f3, (o 4).trans f4, (o 5).trans f5, (o 6).trans f6, (o 7).trans f7, (o 8).trans f8, (o 9).trans f9, (o 10).trans f10, ?_, ?_, ?_, ?_, ?_, ?_⟩
  all_goals rw [k _ _ (by omega), hW3]
  · rw [cell_old _ _ _ _ (by simp; omega), cell_old _ _ _ _ (by simp)]; exact boxCell _ _ _ (Below.refl _ _) _ rfl 0 _ rfl
  · rw [cell_old _ _ _ _ (by simp; omega), cell_old _ _ _ _ (by simp)]; exact boxCell _ _ _ (Below.refl _ _) _ rfl 1 _ rfl
  · rw [cell_old _ _ _ _ (by simp)]; exact boxCell _ _ _ (Below.refl _ _) _ (by simp) 0 _ rfl
  · rw [cell_old _ _ _ _ (by simp)]; exact boxCell _ _ _ (Below.refl _ _) _ (by simp) 1 _ rfl
  · exact boxCell _ _ _ (Below.refl _ _) _ (by simp) 0 _ rfl
  · exact boxCell _ _ _ (Below.refl _ _) _ (by simp) 1 _ rfl

theorem ownOfMade {w' : World} {base g : Nat} {t : TypeId} (h : w'.ownsRow base t 2 (.slice (some ⟨g, 0, none⟩) 9 9) 9 (madeCells (Value.agg #[.int .i64 0, .int .i64 0]).cells (9 * 2)).toList) : OwnL w' base t 2 wayC (some ⟨g, 0, none⟩) 9 (List.replicate 9 ((0 : Int), (0 : Int))) := by
  unfold OwnL
  rw [show (madeCells (Value.agg #[.int .i64 0, .int .i64 0]).cells (9 * 2)).toList = (List.replicate 9 ((0 : Int), (0 : Int))).flatMap wayC from by kernel_rfl] at h
  exact h
theorem react_first (p : Prof) (pb : Bool) (h1 : 1 ≤ p.parts) (hp : decide (1 < p.parts) = pb) (hr : p.react = true) : firstW [(!pb, 0, 0), (true, 0, 1), (true, 3, 2)] = reactW p := by
  subst hp
  by_cases h : p.parts = 1
  · simp [firstW, reactW, hr, h]
  · have : 1 < p.parts := by omega
    simp [firstW, reactW, hr, h, this]
theorem file_first (p : Prof) (h : p.files ≤ 4) : firstW [(p.files == 4, 0, 0), (decide (0 < p.files), 4, 1), (true, 2, 2)] = fileW p := by
  by_cases h4 : p.files = 4
  · simp [firstW, fileW, h4]
  · by_cases h0 : 0 < p.files
    · simp [firstW, fileW, h4, h0, show ¬ 4 ≤ p.files by omega, show 1 ≤ p.files by omega]
    · simp [firstW, fileW, h4, h0, show ¬ 4 ≤ p.files by omega, show ¬ 1 ≤ p.files by omega]
set_option maxRecDepth 100000 in
set_option maxHeartbeats 4000000 in
theorem pCompile_any (p : Prof) (A : Option Addr) (c : Nat) (w : World) (hr : ProfOk w w.heap.size A p) (hcap : p.types.length ≤ c) : Calls Tryd.prog 22 #[p.v A c] w (WaysOut p w) := by
  have hb0 : Below w.heap.size w (w.alloc (.cells (p.cs A c) 24)) := (Below.refl _ _).alloc (Nat.le_refl _) _
  have hr0 := hr.now hb0
  have HB := Lib.hid hb0
  clear hb0
  have HRA := Lib.hid (boxRange w (p.cs A c) 24 (Below.refl _ _))
  go_enter Tryd.func22, Tryd.ntmps22
  go_wp2_with ((with_reducible show wpList _ _ _ (Oper.mk _ (Op.load 24 _) _ _ _ _ :: _) _ _); refine wpList_load_g rfl 24 (.tmp 1) rfl w.heap.size 0 rfl (p.cs A c).toList _ HRA.out Tryd.underlying24 rfl (by kernel_rfl) ?_)
  refine (pCheck_any p A c _ hr0 hcap).mono ?_
  rintro e w1 ⟨rfl, hb1⟩
  have hcc := boxCells w _ _ hb1
  have HB1 := Lib.hid (HB.out.trans (hb1.mono HB.out.size))
  have hs1 : w.heap.size < w1.heap.size := by have := hb1.size; simp at this; omega
  clear hb1 hr0 HRA
  generalize hpc : profCheck p = pc
  have HPC := Lib.hid hpc
  clear hpc
  by_cases h0 : pc = 0
  · subst h0
    obtain ⟨b1, b2, b3, b4⟩ := check_bounds p HPC.out
    have f1 := hcc 1 _ rfl
    have f2 := hcc 2 _ rfl
    have f9 := hcc 9 _ rfl
    have f3 := hcc 3 _ rfl
    have f4 := hcc 4 _ rfl
    have f5 := hcc 5 _ rfl
    have f6 := hcc 6 _ rfl
    have f7 := hcc 7 _ rfl
    have f8 := hcc 8 _ rfl
    have f10 := hcc 10 _ rfl
    clear hcc
    have hfl := check_files p HPC.out
    have hm0 : 0 ≤ p.size * p.parts := Int.mul_nonneg (by omega) (by omega)
    have hm1 : p.size * p.parts ≤ 80000 := Int.le_trans (Int.mul_le_mul b2 b4 (by omega) (by omega)) (by omega)
    obtain ⟨W3, hW3⟩ : ∃ W3, W3 = ((w1.alloc (.cells #[.int .i64 0, .int .i64 0] 88)).alloc (.cells #[.int .i64 2, .int .i64 2] 88)).alloc (.cells #[.int .i64 3, .int .i64 2] 88) := ⟨_, rfl⟩
    have HF := waysFacts p w1 W3 w.heap.size hs1 hW3 f1 f2 f3 f4 f5 f6 f7 f8 f9 f10
    have hz3 : W3.heap.size = w1.heap.size + 3 := by rw [hW3]; simp
    have HB3 : Hid (Below w.heap.size w W3) := Lib.hid (HB1.out.trans (by rw [hW3]; exact (((((Below.refl w1.heap.size w1).alloc (by simp) _).alloc (by simp) _).alloc (by simp; omega) _).mono HB1.out.size)))
    clear f1 f2 f3 f4 f5 f6 f7 f8 f9 f10
    go_upto_region 5 with fail
    rw [← hW3]
    clear hW3
    have HFF := Lib.hid HF
    have HZ := Lib.hid hz3
    clear hz3
    obtain ⟨f1, f2, f3, f4, f5, f6, f7, f8, f9, f10, s0, s1, t0, t1, n0, n1⟩ := HF W3 (Below.refl _ _)
    clear f3 f4 f5 f6 f7 f8 f10 s0 s1 t0 t1 n0 n1 HF
    go_cut [8, 9] (fun v u wx => v = .bool (decide (1 < p.parts)) ∧ u = .bool (editsB p) ∧ ∃ n, wx = W3.drewN n)
    case first =>
      by_cases h1 : p.edit = 2
      · have e1 : (p.edit == 2) = true := by simpa using h1
        have HE : Hid (editsB p = (p.within_ == 0)) := Lib.hid (by simp [editsB, h1])
        clear h1
        go_quiet (fail)
        go_wp2
        go_meet
        exact ⟨rfl, by rw [HE.out], _, rfl⟩
      · have e1 : (p.edit == 2) = false := by simpa using h1
        have HE : Hid (editsB p = false) := Lib.hid (by simp [editsB, h1])
        clear h1
        go_quiet (fail)
        go_wp2
        go_meet
        exact ⟨rfl, by rw [HE.out], _, rfl⟩
    case rest =>
      obtain ⟨rfl, rfl, n, hW4⟩ := hcut
      obtain ⟨wx, hwx⟩ : ∃ wx, wx = W3.drewN n := ⟨_, rfl⟩
      have hbl : Below W3.heap.size W3 wx := by rw [hwx]; exact below_drewN (Below.refl _ _) _
      subst hW4
      rw [← hwx]
      clear hwx f1 f2 f9
      generalize hpb : decide (1 < p.parts) = pb
      generalize heb : editsB p = eb
      have HPB := Lib.hid hpb
      have HEB := Lib.hid heb
      clear hpb heb
      obtain ⟨i0, hi0, z0, z1, z2⟩ := info_parts (show (Tryd.prog.info? 88).map (fun i => (i.zero, i.size, i.bytes)) = some (some (.agg #[.int .i64 0, .int .i64 0]), 2, 16) by kernel_rfl)
      have hbase := hbl.size
      go_upto_region 8 with (first
        | (at_make; refine wpList_make_full _ rfl _ _ _ rfl W3.heap.size 88 i0 (.agg #[.int .i64 0, .int .i64 0]) 2 slW.ht hi0 z0 z1 _ _ _ _ 9 rfl rfl rfl rfl (by rw [z2]; decide) (by decide) (hbl.size) ?_; intro w' hmk hg; have hownA := ownOfMade hmk; have hblA := hbl.grown hg hbase (fun k hk => by cases hk); clear hmk hg hbl hi0; obtain ⟨f1, f2, f3, f4, f5, f6, f7, f8, f9, f10, s0, s1, t0, t1, n0, n1⟩ := HFF.out _ hblA)
        | ((with_reducible show wpList _ _ _ (Oper.mk _ (Op.store 88 _ _) _ _ _ _ :: _) _ _); refine wp_store_l rfl _ _ rfl slW wayLay hownA 0 (by simp) _ rfl rfl (0, 0) _ rfl rfl ?_; clear f1 f2 f3 f4 f5 f6 f7 f8 f9 f10 s0 s1 t0 t1 n0 n1; intro w3 hown hg; have hbl := hblA.grown hg hblA.size (fun k hk => by cases hk; exact hbase); clear hownA hblA hg; obtain ⟨f1, f2, f3, f4, f5, f6, f7, f8, f9, f10, s0, s1, t0, t1, n0, n1⟩ := HFF.out _ hbl))
      dsimp only [Act.put]
      go_cut [53] (fun v w' => OwnL w' W3.heap.size 88 2 wayC (some ⟨wx.heap.size, 0, none⟩) 9 [(0, 0), longW p, (0, 0), (0, 0), (0, 0), (0, 0), (0, 0), (0, 0), (0, 0)] ∧ Below W3.heap.size W3 w')
      case first =>
        cases pb
        · go_wp2_with fail
          have HW := Lib.hid (show firstW [(false, 1, 1), (false, 4, 1), (true, 4, 0)] = longW p by simp [firstW, longW, show ¬ 2 ≤ p.parts by have := HPB.out; simp at this; omega])
          refine (first_any [(false, 1, 1), (false, 4, 1), (true, 4, 0)] _ (by rfl) (by decide) _ _ _ (RdL.block choLay _ [(false, 1, 1), (false, 4, 1), (true, 4, 0)] _ _ (by rfl) _ (by rfl))).mono ?_
          rw [HW.out]
          rintro e w2 ⟨rfl, hb2⟩
          have hownA := (hown.alloc _).below hb2
          have hblA := (hbl.alloc hbl.size _).trans (hb2.mono (Nat.le_trans hbl.size (by simp)))
          clear hown hbl hb2 HW
          go_wp2_with ((with_reducible show wpList _ _ _ (Oper.mk _ (Op.store 88 _ _) _ _ _ _ :: _) _ _); refine wp_store_l rfl _ _ rfl slW wayLay hownA 1 (by simp) _ rfl rfl (longW p) _ rfl rfl ?_; clear f1 f2 f3 f4 f5 f6 f7 f8 f9 f10 s0 s1 t0 t1 n0 n1; intro w3 hown hg; have hbl := hblA.grown hg hblA.size (fun k hk => by cases hk; exact hbase); clear hownA hblA hg; obtain ⟨f1, f2, f3, f4, f5, f6, f7, f8, f9, f10, s0, s1, t0, t1, n0, n1⟩ := HFF.out _ hbl)
          go_meet
          exact ⟨hown, hbl⟩
        · go_wp2_with fail
          have HW := Lib.hid (show firstW [(decide (4400 ≤ p.size * p.parts), 1, 1), (true, 4, 1), (true, 4, 0)] = longW p by simp [firstW, longW, show 2 ≤ p.parts by have := HPB.out; simp at this; omega])
          refine (first_any [(decide (4400 ≤ p.size * p.parts), 1, 1), (true, 4, 1), (true, 4, 0)] _ (by rfl) (by decide) _ _ _ (RdL.block choLay _ [(decide (4400 ≤ p.size * p.parts), 1, 1), (true, 4, 1), (true, 4, 0)] _ _ (by rfl) _ (by rfl))).mono ?_
          rw [HW.out]
          rintro e w2 ⟨rfl, hb2⟩
          have hownA := (hown.alloc _).below hb2
          have hblA := (hbl.alloc hbl.size _).trans (hb2.mono (Nat.le_trans hbl.size (by simp)))
          clear hown hbl hb2 HW
          go_wp2_with ((with_reducible show wpList _ _ _ (Oper.mk _ (Op.store 88 _ _) _ _ _ _ :: _) _ _); refine wp_store_l rfl _ _ rfl slW wayLay hownA 1 (by simp) _ rfl rfl (longW p) _ rfl rfl ?_; clear f1 f2 f3 f4 f5 f6 f7 f8 f9 f10 s0 s1 t0 t1 n0 n1; intro w3 hown hg; have hbl := hblA.grown hg hblA.size (fun k hk => by cases hk; exact hbase); clear hownA hblA hg; obtain ⟨f1, f2, f3, f4, f5, f6, f7, f8, f9, f10, s0, s1, t0, t1, n0, n1⟩ := HFF.out _ hbl)
          go_meet
          exact ⟨hown, hbl⟩
      case rest =>
        obtain ⟨hown, hbl⟩ := hcut
        obtain ⟨f1, f2, f3, f4, f5, f6, f7, f8, f9, f10, s0, s1, t0, t1, n0, n1⟩ := HFF.out _ hbl
        go_wp2_with fail
        have HW := Lib.hid (show firstW [(eb, 0, 0), (true, 3, 2)] = editW p by simp [firstW, editW, HEB.out])
        refine (first_any [(eb, 0, 0), (true, 3, 2)] _ (by rfl) (by decide) _ _ _ (RdL.block choLay _ [(eb, 0, 0), (true, 3, 2)] _ _ (by rfl) _ (by rfl))).mono ?_
        rw [HW.out]
        rintro e w2 ⟨rfl, hb2⟩
        have hownA := (hown.alloc _).below hb2
        have hblA := (hbl.alloc hbl.size _).trans (hb2.mono (Nat.le_trans hbl.size (by simp)))
        clear hown hbl hb2 HW
        go_wp2_with ((with_reducible show wpList _ _ _ (Oper.mk _ (Op.store 88 _ _) _ _ _ _ :: _) _ _); refine wp_store_l rfl _ _ rfl slW wayLay hownA 2 (by simp) _ rfl rfl (editW p) _ rfl rfl ?_; clear f1 f2 f3 f4 f5 f6 f7 f8 f9 f10 s0 s1 t0 t1 n0 n1; intro w3 hown hg; have hbl := hblA.grown hg hblA.size (fun k hk => by cases hk; exact hbase); clear hownA hblA hg; obtain ⟨f1, f2, f3, f4, f5, f6, f7, f8, f9, f10, s0, s1, t0, t1, n0, n1⟩ := HFF.out _ hbl)
        have HW := Lib.hid (show firstW [(p.delete != 0, 0, 0), (eb, 2, 0), (true, 3, 2)] = goneW p by (simp only [firstW, goneW, HEB.out]; by_cases hd : p.delete = 0 <;> simp [hd]))
        refine (first_any [(p.delete != 0, 0, 0), (eb, 2, 0), (true, 3, 2)] _ (by rfl) (by decide) _ _ _ (RdL.block choLay _ [(p.delete != 0, 0, 0), (eb, 2, 0), (true, 3, 2)] _ _ (by rfl) _ (by rfl))).mono ?_
        rw [HW.out]
        rintro e w2 ⟨rfl, hb2⟩
        have hownA := (hown.alloc _).below hb2
        have hblA := (hbl.alloc hbl.size _).trans (hb2.mono (Nat.le_trans hbl.size (by simp)))
        clear hown hbl hb2 HW
        go_upto_region 11 with ((with_reducible show wpList _ _ _ (Oper.mk _ (Op.store 88 _ _) _ _ _ _ :: _) _ _); refine wp_store_l rfl _ _ rfl slW wayLay hownA 3 (by simp) _ rfl rfl (goneW p) _ rfl rfl ?_; clear f1 f2 f3 f4 f5 f6 f7 f8 f9 f10 s0 s1 t0 t1 n0 n1; intro w3 hown hg; have hbl := hblA.grown hg hblA.size (fun k hk => by cases hk; exact hbase); clear hownA hblA hg; obtain ⟨f1, f2, f3, f4, f5, f6, f7, f8, f9, f10, s0, s1, t0, t1, n0, n1⟩ := HFF.out _ hbl)
        dsimp only [Act.put]
        go_cut [93] (fun v w' => OwnL w' W3.heap.size 88 2 wayC (some ⟨wx.heap.size, 0, none⟩) 9 [(0, 0), longW p, editW p, goneW p, reactW p, (0, 0), (0, 0), (0, 0), (0, 0)] ∧ Below W3.heap.size W3 w')
        case first =>
          generalize hre : p.react = re at f4
          have HRE := Lib.hid hre
          clear hre
          cases re
          · go_wp2_with fail
            have HW := Lib.hid (show firstW [(false, 0, 0), (false, 0, 1), (true, 3, 2)] = reactW p by simp [firstW, reactW, HRE.out])
            refine (first_any [(false, 0, 0), (false, 0, 1), (true, 3, 2)] _ (by rfl) (by decide) _ _ _ (RdL.block choLay _ [(false, 0, 0), (false, 0, 1), (true, 3, 2)] _ _ (by rfl) _ (by rfl))).mono ?_
            rw [HW.out]
            rintro e w2 ⟨rfl, hb2⟩
            have hownA := (hown.alloc _).below hb2
            have hblA := (hbl.alloc hbl.size _).trans (hb2.mono (Nat.le_trans hbl.size (by simp)))
            clear hown hbl hb2 HW
            go_wp2_with ((with_reducible show wpList _ _ _ (Oper.mk _ (Op.store 88 _ _) _ _ _ _ :: _) _ _); refine wp_store_l rfl _ _ rfl slW wayLay hownA 4 (by simp) _ rfl rfl (reactW p) _ rfl rfl ?_; clear f1 f2 f3 f4 f5 f6 f7 f8 f9 f10 s0 s1 t0 t1 n0 n1; intro w3 hown hg; have hbl := hblA.grown hg hblA.size (fun k hk => by cases hk; exact hbase); clear hownA hblA hg; obtain ⟨f1, f2, f3, f4, f5, f6, f7, f8, f9, f10, s0, s1, t0, t1, n0, n1⟩ := HFF.out _ hbl)
            go_meet
            exact ⟨hown, hbl⟩
          · go_wp2_with fail
            have HW := Lib.hid (show firstW [(!pb, 0, 0), (true, 0, 1), (true, 3, 2)] = reactW p by exact react_first p pb b3 HPB.out HRE.out)
            refine (first_any [(!pb, 0, 0), (true, 0, 1), (true, 3, 2)] _ (by rfl) (by decide) _ _ _ (RdL.block choLay _ [(!pb, 0, 0), (true, 0, 1), (true, 3, 2)] _ _ (by rfl) _ (by rfl))).mono ?_
            rw [HW.out]
            rintro e w2 ⟨rfl, hb2⟩
            have hownA := (hown.alloc _).below hb2
            have hblA := (hbl.alloc hbl.size _).trans (hb2.mono (Nat.le_trans hbl.size (by simp)))
            clear hown hbl hb2 HW
            go_wp2_with ((with_reducible show wpList _ _ _ (Oper.mk _ (Op.store 88 _ _) _ _ _ _ :: _) _ _); refine wp_store_l rfl _ _ rfl slW wayLay hownA 4 (by simp) _ rfl rfl (reactW p) _ rfl rfl ?_; clear f1 f2 f3 f4 f5 f6 f7 f8 f9 f10 s0 s1 t0 t1 n0 n1; intro w3 hown hg; have hbl := hblA.grown hg hblA.size (fun k hk => by cases hk; exact hbase); clear hownA hblA hg; obtain ⟨f1, f2, f3, f4, f5, f6, f7, f8, f9, f10, s0, s1, t0, t1, n0, n1⟩ := HFF.out _ hbl)
            go_meet
            exact ⟨hown, hbl⟩
        case rest =>
          obtain ⟨hown, hbl⟩ := hcut
          obtain ⟨f1, f2, f3, f4, f5, f6, f7, f8, f9, f10, s0, s1, t0, t1, n0, n1⟩ := HFF.out _ hbl
          go_wp2_with fail
          have HW := Lib.hid (show firstW [(p.thread == 2, 0, 0), (p.thread == 1, 2, 1), (true, 2, 2)] = replyW p by simp [firstW, replyW])
          refine (first_any [(p.thread == 2, 0, 0), (p.thread == 1, 2, 1), (true, 2, 2)] _ (by rfl) (by decide) _ _ _ (RdL.block choLay _ [(p.thread == 2, 0, 0), (p.thread == 1, 2, 1), (true, 2, 2)] _ _ (by rfl) _ (by rfl))).mono ?_
          rw [HW.out]
          rintro e w2 ⟨rfl, hb2⟩
          have hownA := (hown.alloc _).below hb2
          have hblA := (hbl.alloc hbl.size _).trans (hb2.mono (Nat.le_trans hbl.size (by simp)))
          clear hown hbl hb2 HW
          go_wp2_with ((with_reducible show wpList _ _ _ (Oper.mk _ (Op.store 88 _ _) _ _ _ _ :: _) _ _); refine wp_store_l rfl _ _ rfl slW wayLay hownA 5 (by simp) _ rfl rfl (replyW p) _ rfl rfl ?_; clear f1 f2 f3 f4 f5 f6 f7 f8 f9 f10 s0 s1 t0 t1 n0 n1; intro w3 hown hg; have hbl := hblA.grown hg hblA.size (fun k hk => by cases hk; exact hbase); clear hownA hblA hg; obtain ⟨f1, f2, f3, f4, f5, f6, f7, f8, f9, f10, s0, s1, t0, t1, n0, n1⟩ := HFF.out _ hbl)
          have HW := Lib.hid (show firstW [(p.quote, 0, 0), (true, 2, 2)] = ownW p.quote by simp [firstW, ownW])
          refine (first_any [(p.quote, 0, 0), (true, 2, 2)] _ (by rfl) (by decide) _ _ _ (RdL.block choLay _ [(p.quote, 0, 0), (true, 2, 2)] _ _ (by rfl) _ (by rfl))).mono ?_
          rw [HW.out]
          rintro e w2 ⟨rfl, hb2⟩
          have hownA := (hown.alloc _).below hb2
          have hblA := (hbl.alloc hbl.size _).trans (hb2.mono (Nat.le_trans hbl.size (by simp)))
          clear hown hbl hb2 HW
          go_wp2_with ((with_reducible show wpList _ _ _ (Oper.mk _ (Op.store 88 _ _) _ _ _ _ :: _) _ _); refine wp_store_l rfl _ _ rfl slW wayLay hownA 6 (by simp) _ rfl rfl (ownW p.quote) _ rfl rfl ?_; clear f1 f2 f3 f4 f5 f6 f7 f8 f9 f10 s0 s1 t0 t1 n0 n1; intro w3 hown hg; have hbl := hblA.grown hg hblA.size (fun k hk => by cases hk; exact hbase); clear hownA hblA hg; obtain ⟨f1, f2, f3, f4, f5, f6, f7, f8, f9, f10, s0, s1, t0, t1, n0, n1⟩ := HFF.out _ hbl)
          have HW := Lib.hid (show firstW [(p.mention, 0, 0), (true, 2, 2)] = ownW p.mention by simp [firstW, ownW])
          refine (first_any [(p.mention, 0, 0), (true, 2, 2)] _ (by rfl) (by decide) _ _ _ (RdL.block choLay _ [(p.mention, 0, 0), (true, 2, 2)] _ _ (by rfl) _ (by rfl))).mono ?_
          rw [HW.out]
          rintro e w2 ⟨rfl, hb2⟩
          have hownA := (hown.alloc _).below hb2
          have hblA := (hbl.alloc hbl.size _).trans (hb2.mono (Nat.le_trans hbl.size (by simp)))
          clear hown hbl hb2 HW
          go_wp2_with ((with_reducible show wpList _ _ _ (Oper.mk _ (Op.store 88 _ _) _ _ _ _ :: _) _ _); refine wp_store_l rfl _ _ rfl slW wayLay hownA 7 (by simp) _ rfl rfl (ownW p.mention) _ rfl rfl ?_; clear f1 f2 f3 f4 f5 f6 f7 f8 f9 f10 s0 s1 t0 t1 n0 n1; intro w3 hown hg; have hbl := hblA.grown hg hblA.size (fun k hk => by cases hk; exact hbase); clear hownA hblA hg; obtain ⟨f1, f2, f3, f4, f5, f6, f7, f8, f9, f10, s0, s1, t0, t1, n0, n1⟩ := HFF.out _ hbl)
          have HW := Lib.hid (show firstW [(p.files == 4, 0, 0), (decide (0 < p.files), 4, 1), (true, 2, 2)] = fileW p by exact file_first p hfl)
          refine (first_any [(p.files == 4, 0, 0), (decide (0 < p.files), 4, 1), (true, 2, 2)] _ (by rfl) (by decide) _ _ _ (RdL.block choLay _ [(p.files == 4, 0, 0), (decide (0 < p.files), 4, 1), (true, 2, 2)] _ _ (by rfl) _ (by rfl))).mono ?_
          rw [HW.out]
          rintro e w2 ⟨rfl, hb2⟩
          have hownA := (hown.alloc _).below hb2
          have hblA := (hbl.alloc hbl.size _).trans (hb2.mono (Nat.le_trans hbl.size (by simp)))
          clear hown hbl hb2 HW
          go_wp2_with ((with_reducible show wpList _ _ _ (Oper.mk _ (Op.store 88 _ _) _ _ _ _ :: _) _ _); refine wp_store_l rfl _ _ rfl slW wayLay hownA 8 (by simp) _ rfl rfl (fileW p) _ rfl rfl ?_; clear f1 f2 f3 f4 f5 f6 f7 f8 f9 f10 s0 s1 t0 t1 n0 n1; intro w3 hown hg; have hbl := hblA.grown hg hblA.size (fun k hk => by cases hk; exact hbase); clear hownA hblA hg; obtain ⟨f1, f2, f3, f4, f5, f6, f7, f8, f9, f10, s0, s1, t0, t1, n0, n1⟩ := HFF.out _ hbl)
          go_ret2
          have hw : waysOf p = wayL p := by simp [waysOf, HPC.out]
          exact ⟨HB3.out.trans (hbl.mono HB3.out.size), some ⟨wx.heap.size, 0, none⟩, 9, by rw [hw, HPC.out]; rfl, by rw [hw]; exact hown.rd wayLay⟩
  · have HN := Lib.hid h0
    clear h0
    have e1 : (pc != 0) = true := by simpa using HN.out
    have e2 : (pc == 0) = false := by simpa using HN.out
    go_wp2
    go_ret2
    have hw : waysOf p = [] := by simp [waysOf, HPC.out, HN.out]
    exact ⟨HB1.out, none, 0, by rw [hw, HPC.out]; rfl, by rw [hw]; exact RdL.nil_⟩
end Go.Proofs.YtnaejabgkfhlbaaDoor
/- Contracts of Same, Few, and the laws' own profiles. -/
set_option linter.unusedSimpArgs false
set_option linter.unusedVariables false
namespace Go.Proofs.YtnaejabgkfhlbaaDoor
open Go.RowKit

theorem same_miss {xs ys : List (Int × Int)} {k : Nat} {x y : Int × Int} (hx : xs[k]? = some x) (hy : ys[k]? = some y) (h : ¬ x = y) : decide (xs = ys) = false := by
  rw [decide_eq_false_iff_not]
  rintro rfl
  rw [hx] at hy
  injection hy with hy
  exact h hy

theorem eql_way (a b c d : Int) (w : World) : (binOp .eql 88 (.agg #[.int .i64 a, .int .i64 b]) (.agg #[.int .i64 c, .int .i64 d])).run Tryd.prog w = .ok (.bool (a == c && b == d)) w := by
  by_cases h1 : a = c <;> by_cases h2 : b = d <;> simp [go_sem, h1, h2]
theorem neq_way (a b c d : Int) (w : World) : (binOp .neq 88 (.agg #[.int .i64 a, .int .i64 b]) (.agg #[.int .i64 c, .int .i64 d])).run Tryd.prog w = .ok (.bool (!(a == c && b == d))) w := by
  by_cases h1 : a = c <;> by_cases h2 : b = d <;> simp [go_sem, h1, h2]
set_option maxHeartbeats 1000000 in
theorem same_any (xs ys : List (Int × Int)) (n m : Nat) (hn : n = xs.length) (hm : m = ys.length) (hnx : n ≤ 1000) (hmy : m ≤ 1000) (A B : Option Addr) (c d : Nat) (w : World) (hr : RdL 2 wayC w w.heap.size A xs) (hs : RdL 2 wayC w w.heap.size B ys) :
    Calls Tryd.prog 23 #[.slice A n c, .slice B m d] w fun e w' => e = .returned (.bool (decide (xs = ys))) ∧ Below w.heap.size w w' := by
  subst hn hm
  by_cases hl : xs.length = ys.length
  · have HL := Lib.hid hl
    have e1 : ((xs.length : Int) != (ys.length : Int)) = false := by simp; omega
    clear hl
    go_enter Tryd.func23, Tryd.ntmps23
    go_wp2
    go_loopw [5] (fun i wr => ∃ k n : Nat, k ≤ xs.length ∧ i = .int .i64 k ∧ xs.take k = ys.take k ∧ wr = w.drewN n) (fun i _ => xs.length - (intOf i).toNat)
    case atStart => exact ⟨0, 0, Nat.zero_le _, rfl, rfl, rfl⟩
    case round =>
      obtain ⟨k, n, hk, rfl, hf, rfl⟩ := hrel
      have HF := Lib.hid hf
      clear hf
      by_cases hlt : k < xs.length
      · obtain ⟨b, off, rfl, hbb, hc⟩ := hr.at_ hlt
        have hlt2 : k < ys.length := by have := HL.out; omega
        obtain ⟨b2, off2, rfl, hbb2, hc2⟩ := hs.at_ hlt2
        obtain ⟨⟨x1, x2⟩, hx⟩ : ∃ x, xs[k] = x := ⟨_, rfl⟩
        obtain ⟨⟨y1, y2⟩, hy⟩ : ∃ x, ys[k] = x := ⟨_, rfl⟩
        have HX := Lib.hid (show xs[k]? = some (x1, x2) by rw [List.getElem?_eq_getElem hlt, hx])
        have HY := Lib.hid (show ys[k]? = some (y1, y2) by rw [List.getElem?_eq_getElem hlt2, hy])
        rw [hx] at hc
        rw [hy] at hc2
        have v0 := hc 0 _ rfl
        have v1 := hc 1 _ rfl
        have u0 := hc2 0 _ rfl
        have u1 := hc2 1 _ rfl
        simp only [Nat.add_zero] at v0 u0
        clear hc hc2 hx hy
        by_cases hxy : (x1, x2) = (y1, y2)
        · injection hxy with h1 h2
          subst h1 h2
          have hrun := fun w => neq_way x1 x2 x1 x2 w
          simp only [beq_self_eq_true, Bool.true_and, Bool.not_true] at hrun
          go_wp2_with fail
          go_quiet (fail)
          go_wp2
          go_roundw
          case rel =>
            refine ⟨k + 1, _, by omega, by go_num, ?_, rfl⟩
            have h1 := HX.out
            have h2 := HY.out
            obtain ⟨_, e1⟩ := List.getElem?_eq_some_iff.1 h1
            obtain ⟨_, e2⟩ := List.getElem?_eq_some_iff.1 h2
            rw [List.take_succ_eq_append_getElem hlt, List.take_succ_eq_append_getElem hlt2, HF.out, e1, e2]
          case measure => simp [intOf]; omega
        · have hne : (x1 == y1 && x2 == y2) = false := by simpa using hxy
          have hrun := fun w => neq_way x1 x2 y1 y2 w
          rw [hne] at hrun
          have HXY := Lib.hid hxy
          clear hne hxy
          go_wp2_with fail
          go_quiet (fail)
          go_wp2
          go_ret
          exact ⟨by rw [same_miss HX.out HY.out HXY.out]; rfl, below_drewN (below_drewN (Below.refl _ _) _) _⟩
      · have he : decide (xs = ys) = true := by
          have h := HF.out
          rw [List.take_of_length_le (by omega), List.take_of_length_le (by have := HL.out; omega)] at h
          simpa using h
        have HE := Lib.hid he
        clear he
        go_wp2
        go_ret
        exact ⟨by rw [HE.out]; rfl, below_drewN (Below.refl _ _) _⟩
  · have e1 : ((xs.length : Int) != (ys.length : Int)) = true := by simp; omega
    have HL := Lib.hid (show decide (xs = ys) = false by rw [decide_eq_false_iff_not]; exact fun h => hl (by rw [h]))
    clear hl
    go_enter Tryd.func23, Tryd.ntmps23
    go_wp2
    go_ret
    exact ⟨by rw [HL.out]; rfl, Below.refl _ _⟩

def pngS : ByteArray := ⟨#[112, 110, 103]⟩
def zeroP : Prof := { name := ByteArray.empty, edit := 0, within_ := 0, delete := 0, react := false, thread := 0, quote := false, mention := false, size := 0, parts := 0, files := 0, bytes := 0, types := [], join := 0, history := 0, remove := 0, level := 0, batch := false, rate := 0, down := 0, window := 0, keep := 0 }
def mailWP : Prof := { zeroP with name := ⟨#[109, 97, 105, 108]⟩, thread := 2, quote := true, size := 900, parts := 1, files := 2, bytes := 5000, types := [pngS], rate := 1 }
def roomWP : Prof := { zeroP with name := ⟨#[114, 111, 111, 109]⟩, edit := 2, delete := 2, react := true, thread := 2, quote := true, mention := true, size := 4000, parts := 3, files := 4, bytes := 5000, types := [pngS], rate := 1 }
def thirdWP : Prof := { roomWP with delete := 0 }
def MadeP (p : Prof) (w : World) (e : Ending) (w' : World) : Prop := Below w.heap.size w w' ∧ ∃ A, e = .returned (p.v A 1) ∧ RdS w' w'.heap.size A p.types
theorem strLay : Lay 1 strCells := ⟨fun _ => rfl, fun x u hu => by simp only [strCells, List.mem_cons, List.not_mem_nil, or_false] at hu; subst hu; rfl⟩

theorem RdL.at_block {T : Type} {sz : Nat} {enc : T → List Value} {w w' : World} {B B' g o : Nat} {xs : List T} (h : RdL sz enc w B (some ⟨g, o, none⟩) xs) (hk : ∀ j, w'.cell? ⟨g, j, none⟩ = w.cell? ⟨g, j, none⟩) (hB : g < B') : RdL sz enc w' B' (some ⟨g, o, none⟩) xs := fun k x hx => by
  obtain ⟨b, off, e, _, hc⟩ := h k x hx
  injection e with e
  injection e with e1 e2
  subst e1 e2
  exact ⟨_, _, rfl, hB, fun j v hv => (hk _).trans (hc j v hv)⟩
set_option maxRecDepth 100000 in
set_option maxHeartbeats 1000000 in
theorem mail_any (w : World) : Calls Tryd.prog 67 #[] w (MadeP mailWP w) := by
  have hth : ((w.alloc (.cells (zeroP.cs none 0) 24)).alloc (.cells #[.string pngS] 9)).there w.heap.size 0 22 := boxThere w _ _ ((Below.refl _ _).alloc (Nat.le_refl _) _) _ rfl 22 rfl
  have HTH := Lib.hid hth
  clear hth
  go_enter Tryd.func67, Tryd.ntmps67
  go_wp2_with ((with_reducible show wpList _ _ _ (Oper.mk _ (Op.store 24 _ _) _ _ _ _ :: _) _ _); refine wpList_store_box rfl 24 _ _ rfl _ _ rfl rfl HTH.out (by kernel_rfl) (by kernel_rfl) ?_; intro w2 hrg hth hg)
  refine ret_box 0 24 rfl w.heap.size _ _ rfl hrg Tryd.underlying24 rfl (by kernel_rfl) rfl ⟨?_, some ⟨w.heap.size + 1, 0, none⟩, rfl, ?_⟩
  · exact ((((Below.refl w.heap.size w).alloc (Nat.le_refl _) _).alloc (by simp) _).grown hg (by simp; omega) (fun k hk => by cases hk; exact Nat.le_refl _))
  · have hr := RdL.block strLay (w.alloc (.cells (zeroP.cs none 0) 24)) [pngS] #[.string pngS] 9 rfl (w.heap.size + 1) (by simp)
    exact hr.at_block (fun j => World.cell?_of_block (hg.block _ (by simp) (by simp))) (by have := hg.size; simp at this; omega)
set_option maxRecDepth 100000 in
set_option maxHeartbeats 1000000 in
theorem room_any (w : World) : Calls Tryd.prog 68 #[] w (MadeP roomWP w) := by
  have hth : ((w.alloc (.cells (zeroP.cs none 0) 24)).alloc (.cells #[.string pngS] 9)).there w.heap.size 0 22 := boxThere w _ _ ((Below.refl _ _).alloc (Nat.le_refl _) _) _ rfl 22 rfl
  have HTH := Lib.hid hth
  clear hth
  go_enter Tryd.func68, Tryd.ntmps68
  go_wp2_with ((with_reducible show wpList _ _ _ (Oper.mk _ (Op.store 24 _ _) _ _ _ _ :: _) _ _); refine wpList_store_box rfl 24 _ _ rfl _ _ rfl rfl HTH.out (by kernel_rfl) (by kernel_rfl) ?_; intro w2 hrg hth hg)
  refine ret_box 0 24 rfl w.heap.size _ _ rfl hrg Tryd.underlying24 rfl (by kernel_rfl) rfl ⟨?_, some ⟨w.heap.size + 1, 0, none⟩, rfl, ?_⟩
  · exact ((((Below.refl w.heap.size w).alloc (Nat.le_refl _) _).alloc (by simp) _).grown hg (by simp; omega) (fun k hk => by cases hk; exact Nat.le_refl _))
  · have hr := RdL.block strLay (w.alloc (.cells (zeroP.cs none 0) 24)) [pngS] #[.string pngS] 9 rfl (w.heap.size + 1) (by simp)
    exact hr.at_block (fun j => World.cell?_of_block (hg.block _ (by simp) (by simp))) (by have := hg.size; simp at this; omega)
def FewOut (p : Prof) (w : World) (e : Ending) (w' : World) : Prop := (∃ b, e = .returned (.bool b) ∧ (b = true → p.types.length ≤ 12)) ∧ Below w.heap.size w w'
set_option maxRecDepth 100000 in
set_option maxHeartbeats 1000000 in
/-- Few says something. -/
theorem few_any (p : Prof) (A : Option Addr) (c : Nat) (w : World) (hr : ProfOk w w.heap.size A p) : Calls Tryd.prog 21 #[p.v A c] w (FewOut p w) := by
  obtain ⟨hrd, hnm, hlen, hts⟩ := hr
  have HTS := Lib.hid hts
  clear hts
  have hb0 : Below w.heap.size w (w.alloc (.cells (p.cs A c) 24)) := (Below.refl _ _).alloc (Nat.le_refl _) _
  have HB := Lib.hid hb0
  have hrd0 := hrd.now hb0
  clear hb0
  go_enter Tryd.func21, Tryd.ntmps21
  go_wp2
  go_loopw [3] (fun i wr => ∃ k : Nat, k ≤ p.types.length ∧ k ≤ 13 ∧ i = .int .i64 k ∧ wr = (w.alloc (.cells (p.cs A c) 24))) (fun i _ => p.types.length - (intOf i).toNat)
  case atStart => exact ⟨0, Nat.zero_le _, Nat.zero_le _, rfl, rfl⟩
  case round =>
    obtain ⟨k, hk, hk2, rfl, rfl⟩ := hrel
    by_cases hlt : k < p.types.length
    · by_cases hlt2 : k < 13
      · obtain ⟨b, off, s, rfl, hbb, hp, hc⟩ := RdS_at hrd0 hlt
        have HP := Lib.hid hp
        have hsz := HTS.out s (List.mem_of_getElem? hp)
        clear hp
        by_cases hs : 60 < s.size
        · go_wp2
          go_ret
          exact ⟨⟨_, rfl, fun h => by cases h⟩, HB.out⟩
        · go_wp2
          go_roundw
          case rel => exact ⟨k + 1, by omega, by omega, by go_num, by first | trivial | rfl⟩
          case measure => simp [intOf]; omega
      · go_wp2
        all_goals go_ret
        all_goals exact ⟨⟨_, rfl, fun h => by first | omega | (simp at h; done) | (simp at h; omega)⟩, HB.out⟩
    · by_cases hl : p.types.length ≤ 12
      all_goals by_cases hn : p.name.size ≤ 60
      all_goals go_wp2
      all_goals go_ret
      all_goals exact ⟨⟨_, rfl, fun h => by first | omega | (simp at h; done) | (simp at h; omega)⟩, HB.out⟩
end Go.Proofs.YtnaejabgkfhlbaaDoor
/- The examples of the documentation: small returns true. -/
set_option linter.unusedSimpArgs false
set_option linter.unusedVariables false
namespace Go.Proofs.YtnaejabgkfhlbaaDoor
open Go.RowKit

theorem mailC : profCheck mailWP = 0 := by kernel_rfl
theorem roomC : profCheck roomWP = 0 := by kernel_rfl
theorem thirdC : profCheck thirdWP = 0 := by kernel_rfl
theorem zeroC : profCheck zeroP = 1 := by kernel_rfl
theorem mailW : waysOf mailWP = [(0, 0), (4, 0), (3, 2), (3, 2), (3, 2), (0, 0), (0, 0), (2, 2), (4, 1)] := by kernel_rfl
theorem roomW : waysOf roomWP = [(0, 0), (1, 1), (0, 0), (0, 0), (0, 1), (0, 0), (0, 0), (0, 0), (0, 0)] := by kernel_rfl
theorem thirdW : waysOf thirdWP = [(0, 0), (1, 1), (0, 0), (2, 0), (0, 1), (0, 0), (0, 0), (0, 0), (0, 0)] := by kernel_rfl
theorem zeroW : waysOf zeroP = [] := by kernel_rfl
theorem okMade (p : Prof) (w : World) (A : Option Addr) (h : RdS w w.heap.size A p.types) (hn : p.name.size ≤ 1000) (hl : p.types.length ≤ 1000) (ht : ∀ s ∈ p.types, s.size ≤ 1000) : ProfOk w w.heap.size A p :=
  ⟨h, by omega, by omega, fun s hs => by have := ht s hs; omega⟩
/-- Compile of a profile that is known. -/
theorem compile_known (p : Prof) (A : Option Addr) (c : Nat) (w : World) (hr : ProfOk w w.heap.size A p) (hcap : p.types.length ≤ c) (pc : Int) (ws : List (Int × Int)) (n : Nat) (h1 : profCheck p = pc) (h2 : waysOf p = ws) (hn : ws.length = n) :
    Calls Tryd.prog 22 #[p.v A c] w fun e w' => ∃ B d, e = .returned (.tuple #[.slice B n d, .int .i64 pc]) ∧ Below w.heap.size w w' ∧ RdL 2 wayC w' w'.heap.size B ws := by
  refine (pCompile_any p A c w hr hcap).mono ?_
  rintro e w' ⟨hb, B, d, rfl, hs⟩
  rw [h2] at hs
  exact ⟨B, d, by rw [h1, h2, hn], hb, hs⟩

theorem same_refl (xs : List (Int × Int)) (n : Nat) (hn : n = xs.length) (hm : n ≤ 1000) (A B : Option Addr) (c d : Nat) (w : World) (hr : RdL 2 wayC w w.heap.size A xs) (hs : RdL 2 wayC w w.heap.size B xs) :
    Calls Tryd.prog 23 #[.slice A n c, .slice B n d] w fun e w' => e = .returned (.bool true) ∧ Below w.heap.size w w' := by
  have h := same_any xs xs n n hn hn hm hm A B c d w hr hs
  rwa [decide_eq_true (rfl : xs = xs)] at h
set_option maxRecDepth 100000 in
set_option maxHeartbeats 2000000 in
theorem small_any (w : World) : Calls Tryd.prog 20 #[] w fun e w' => e = .returned (.bool true) ∧ Below w.heap.size w w' := by
  have HB0 := Lib.hid (((Below.refl w.heap.size w).alloc (Nat.le_refl _) (.cells #[.int .i64 0, .int .i64 0] 88)).alloc (by simp) (.cells #[.int .i64 3, .int .i64 2] 88))
  go_enter Tryd.func20, Tryd.ntmps20
  go_wp2_with fail
  refine (mail_any _).mono ?_
  rintro e w1 ⟨hb1, A1, rfl, hr1⟩
  have HR1 := Lib.hid (okMade mailWP w1 A1 hr1 (by decide) (by decide) (by decide))
  have HX1 := Lib.hid hb1
  clear hb1 hr1
  go_wp2_with fail
  refine (compile_known mailWP A1 1 w1 HR1.out (by decide) _ _ 9 mailC mailW rfl).mono ?_
  rintro e w2 ⟨B1, d1, rfl, hb2, hs1⟩
  have HX2 := Lib.hid (HX1.out.trans (hb2.mono HX1.out.size))
  have HS1 := Lib.hid hs1
  clear hb2 HR1 HX1 hs1
  go_wp2_with fail
  refine (room_any _).mono ?_
  rintro e w3 ⟨hb3, A2, rfl, hr2⟩
  have HR2 := Lib.hid (okMade roomWP w3 A2 hr2 (by decide) (by decide) (by decide))
  have HX3 := Lib.hid (HX2.out.trans (hb3.mono HX2.out.size))
  have HS1b := Lib.hid (HS1.out.now hb3)
  clear hb3 hr2 HX2 HS1
  go_wp2_with fail
  refine (compile_known roomWP A2 1 w3 HR2.out (by decide) _ _ 9 roomC roomW rfl).mono ?_
  rintro e w4 ⟨B2, d2, rfl, hb4, hs2⟩
  have HX4 := Lib.hid (HX3.out.trans (hb4.mono HX3.out.size))
  have HS1c := Lib.hid (HS1b.out.now hb4)
  have HS2 := Lib.hid hs2
  clear hb4 HX3 HS1b hs2 HR2
  go_wp2_with fail
  refine (room_any _).mono ?_
  rintro e w5 ⟨hb5, A3, rfl, hr3⟩
  have HR3 := Lib.hid hr3
  have HX5 := Lib.hid (HX4.out.trans (hb5.mono HX4.out.size))
  have HS1d := Lib.hid (HS1c.out.now hb5)
  have HS2b := Lib.hid (HS2.out.now hb5)
  clear hb5 hr3 HX4 HS1c HS2
  have HTH := Lib.hid (boxThere w5 (zeroP.cs none 0) 24 (Below.refl _ _) w5.heap.size rfl 22 rfl)
  go_wp2_with (first
    | ((with_reducible show wpList _ _ _ (Oper.mk _ (Op.store 24 _ _) _ _ _ _ :: _) _ _); refine wpList_store_box rfl 24 _ _ rfl _ _ rfl rfl HTH.out (by kernel_rfl) (by kernel_rfl) ?_; intro w2 hrg hth hg; have hc3 := range_cell hrg 3 _ rfl; have hfr := there_free hth 3 (show 3 < 22 from by decide); have HRG := Lib.hid hrg; have HG := Lib.hid hg; clear hrg hth hg)
    | ((with_reducible show wpList _ _ _ (Oper.mk _ (Op.load 24 _) _ _ _ _ :: _) _ _); refine wpList_load_g rfl 24 (.tmp 7) rfl w5.heap.size 0 rfl (thirdWP.cs A3 1).toList _ (range_set HRG.out 3 (.int .i64 0) _ rfl) Tryd.underlying24 rfl (by kernel_rfl) ?_))
  have hbx : Below w5.heap.size w5 (w2.setCell ⟨w5.heap.size, 3, none⟩ (.int .i64 0)) := (((Below.refl w5.heap.size w5).alloc (Nat.le_refl _) _).grown HG.out (by simp) (fun k hk => by cases hk; exact Nat.le_refl _)).setCell (by simp) _
  have HR3b := Lib.hid (okMade thirdWP _ A3 (HR3.out.now hbx) (by decide) (by decide) (by decide))
  have HX5b := Lib.hid (HX5.out.trans (hbx.mono HX5.out.size))
  have HS1e := Lib.hid (HS1d.out.now hbx)
  have HS2c := Lib.hid (HS2b.out.now hbx)
  clear HX5 HS1d HS2b hc3 hfr hbx
  refine (compile_known thirdWP A3 1 _ HR3b.out (by decide) _ _ 9 thirdC thirdW rfl).mono ?_
  rintro e w6 ⟨B3, d3, rfl, hb6, hs3⟩
  have HX6 := Lib.hid (HX5b.out.trans (hb6.mono HX5b.out.size))
  have HS1f := Lib.hid (HS1e.out.now hb6)
  have HS2d := Lib.hid (HS2c.out.now hb6)
  have HS3 := Lib.hid hs3
  clear hb6 hs3 HX5b HS1e HS2c HR3b HTH HR3
  go_wp2_with fail
  refine (compile_known zeroP none 0 w6 (okMade zeroP w6 none RdL.nil_ (by decide) (by decide) (by decide)) (by decide) _ _ 0 zeroC zeroW rfl).mono ?_
  rintro e w7 ⟨B4, d4, rfl, hb7, hs4⟩
  have HX7 := Lib.hid (HX6.out.trans (hb7.mono HX6.out.size))
  have HS1g := Lib.hid (HS1f.out.now hb7)
  have HS2e := Lib.hid (HS2d.out.now hb7)
  have HS3b := Lib.hid (HS3.out.now hb7)
  clear hb7 hs4 HX6 HS1f HS2d HS3
  have c0 := (HX7.out.cell (p := ⟨w.heap.size, 0, none⟩) (by simp; omega)).trans ((cell_old _ _ _ _ (by simp)).trans (boxCell w _ _ (Below.refl _ _) _ rfl 0 _ rfl))
  have c1 := (HX7.out.cell (p := ⟨w.heap.size, 1, none⟩) (by simp; omega)).trans ((cell_old _ _ _ _ (by simp)).trans (boxCell w _ _ (Below.refl _ _) _ rfl 1 _ rfl))
  have c2 := (HX7.out.cell (p := ⟨w.heap.size + 1, 0, none⟩) (by simp)).trans (boxCell _ _ _ (Below.refl _ _) (w.heap.size + 1) (by simp) 0 _ rfl)
  have c3 := (HX7.out.cell (p := ⟨w.heap.size + 1, 1, none⟩) (by simp)).trans (boxCell _ _ _ (Below.refl _ _) (w.heap.size + 1) (by simp) 1 _ rfl)
  go_wp2_with fail
  have hb7a : Below w7.heap.size w7 (w7.alloc (.cells #[.int .i64 0, .int .i64 0, .int .i64 4, .int .i64 0, .int .i64 3, .int .i64 2, .int .i64 3, .int .i64 2, .int .i64 3, .int .i64 2, .int .i64 0, .int .i64 0, .int .i64 0, .int .i64 0, .int .i64 2, .int .i64 2, .int .i64 4, .int .i64 1] 88)) := (Below.refl _ _).alloc (Nat.le_refl _) _
  refine (same_refl _ 9 rfl (by decide) B1 _ d1 9 _ (HS1g.out.now hb7a) (RdL.block wayLay w7 _ _ _ (by rfl) _ rfl)).mono ?_
  rintro e w8 ⟨rfl, hb8⟩
  have HX8 := Lib.hid (HX7.out.trans ((hb7a.trans (hb8.mono hb7a.size)).mono HX7.out.size))
  have HS2f := Lib.hid ((HS2e.out.now hb7a).now hb8)
  have HS3c := Lib.hid ((HS3b.out.now hb7a).now hb8)
  clear hb7a hb8 HX7 HS2e HS3b c0 c1 c2 c3
  have c0 := (HX8.out.cell (p := ⟨w.heap.size, 0, none⟩) (by simp; omega)).trans ((cell_old _ _ _ _ (by simp)).trans (boxCell w _ _ (Below.refl _ _) _ rfl 0 _ rfl))
  have c1 := (HX8.out.cell (p := ⟨w.heap.size, 1, none⟩) (by simp; omega)).trans ((cell_old _ _ _ _ (by simp)).trans (boxCell w _ _ (Below.refl _ _) _ rfl 1 _ rfl))
  go_wp2_with fail
  have hb8a : Below w8.heap.size w8 (w8.alloc (.cells #[.int .i64 0, .int .i64 0, .int .i64 1, .int .i64 1, .int .i64 0, .int .i64 0, .int .i64 0, .int .i64 0, .int .i64 0, .int .i64 1, .int .i64 0, .int .i64 0, .int .i64 0, .int .i64 0, .int .i64 0, .int .i64 0, .int .i64 0, .int .i64 0] 88)) := (Below.refl _ _).alloc (Nat.le_refl _) _
  refine (same_refl _ 9 rfl (by decide) B2 _ d2 9 _ (HS2f.out.now hb8a) (RdL.block wayLay w8 _ _ _ (by rfl) _ rfl)).mono ?_
  rintro e w9 ⟨rfl, hb9⟩
  have HX9 := Lib.hid (HX8.out.trans ((hb8a.trans (hb9.mono hb8a.size)).mono HX8.out.size))
  obtain ⟨b, off, rfl, _, hc⟩ := ((HS3c.out.now hb8a).now hb9).at_ (k := 3) (by decide)
  have v0 := hc 0 _ rfl
  have v1 := hc 1 _ rfl
  simp only [Nat.add_zero] at v0
  have hq := fun w => eql_way 2 0 2 0 w
  clear hc hb8a hb9 HX8 HS2f HS3c c0 c1
  go_wp2
  go_ret
  exact ⟨rfl, HB0.out.trans (HX9.out.mono HB0.out.size)⟩
end Go.Proofs.YtnaejabgkfhlbaaDoor
