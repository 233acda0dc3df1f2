/- Contracts of Same, Few, and the laws' own profiles. -/
import Derived.Test.YtebpnlbpdhgacaaWyK
import Derived.Test.YtebpnlbpdhgacaaBox
namespace Go.Proofs.Ytebpnlbpdhgacaa
open Go.RowKit

theorem same_miss {xs ys : List (Int × Int)} {k : Nat} {x y : Int × Int} (hx : xs[k]? = some x) (hy : ys[k]? = some y) (h : ¬ x = y) : decide (xs = ys) = false := by
  rw [decide_eq_false_iff_not]
  rintro rfl
  rw [hx] at hy
  injection hy with hy
  exact h hy

theorem eql_way (a b c d : Int) (w : World) : (binOp .eql 35 (.agg #[.int .i64 a, .int .i64 b]) (.agg #[.int .i64 c, .int .i64 d])).run Try.prog w = .ok (.bool (a == c && b == d)) w := by
  by_cases h1 : a = c <;> by_cases h2 : b = d <;> simp [go_sem, h1, h2]
theorem neq_way (a b c d : Int) (w : World) : (binOp .neq 35 (.agg #[.int .i64 a, .int .i64 b]) (.agg #[.int .i64 c, .int .i64 d])).run Try.prog w = .ok (.bool (!(a == c && b == d))) w := by
  by_cases h1 : a = c <;> by_cases h2 : b = d <;> simp [go_sem, h1, h2]
set_option maxHeartbeats 1000000 in
theorem same_any (xs ys : List (Int × Int)) (n m : Nat) (hn : n = xs.length) (hm : m = ys.length) (hnx : n ≤ 1000) (hmy : m ≤ 1000) (A B : Option Addr) (c d : Nat) (w : World) (hr : RdL 2 wayC w w.heap.size A xs) (hs : RdL 2 wayC w w.heap.size B ys) :
    Calls Try.prog 10 #[.slice A n c, .slice B m d] w fun e w' => e = .returned (.bool (decide (xs = ys))) ∧ Below w.heap.size w w' := by
  subst hn hm
  by_cases hl : xs.length = ys.length
  · have HL := Lib.hid hl
    have e1 : ((xs.length : Int) != (ys.length : Int)) = false := by simp; omega
    clear hl
    go_enter Try.func10, Try.ntmps10
    go_wp2
    go_loopw [5] (fun i wr => ∃ k n : Nat, k ≤ xs.length ∧ i = .int .i64 k ∧ xs.take k = ys.take k ∧ wr = w.drewN n) (fun i _ => xs.length - (intOf i).toNat)
    case atStart => exact ⟨0, 0, Nat.zero_le _, rfl, rfl, rfl⟩
    case round =>
      obtain ⟨k, n, hk, rfl, hf, rfl⟩ := hrel
      have HF := Lib.hid hf
      clear hf
      by_cases hlt : k < xs.length
      · obtain ⟨b, off, rfl, hbb, hc⟩ := hr.at_ hlt
        have hlt2 : k < ys.length := by have := HL.out; omega
        obtain ⟨b2, off2, rfl, hbb2, hc2⟩ := hs.at_ hlt2
        obtain ⟨⟨x1, x2⟩, hx⟩ : ∃ x, xs[k] = x := ⟨_, rfl⟩
        obtain ⟨⟨y1, y2⟩, hy⟩ : ∃ x, ys[k] = x := ⟨_, rfl⟩
        have HX := Lib.hid (show xs[k]? = some (x1, x2) by rw [List.getElem?_eq_getElem hlt, hx])
        have HY := Lib.hid (show ys[k]? = some (y1, y2) by rw [List.getElem?_eq_getElem hlt2, hy])
        rw [hx] at hc
        rw [hy] at hc2
        have v0 := hc 0 _ rfl
        have v1 := hc 1 _ rfl
        have u0 := hc2 0 _ rfl
        have u1 := hc2 1 _ rfl
        simp only [Nat.add_zero] at v0 u0
        clear hc hc2 hx hy
        by_cases hxy : (x1, x2) = (y1, y2)
        · injection hxy with h1 h2
          subst h1 h2
          have hrun := fun w => neq_way x1 x2 x1 x2 w
          simp only [beq_self_eq_true, Bool.true_and, Bool.not_true] at hrun
          go_wp2_with fail
          go_quiet (fail)
          go_wp2
          go_roundw
          case rel =>
            refine ⟨k + 1, _, by omega, by go_num, ?_, rfl⟩
            have h1 := HX.out
            have h2 := HY.out
            obtain ⟨_, e1⟩ := List.getElem?_eq_some_iff.1 h1
            obtain ⟨_, e2⟩ := List.getElem?_eq_some_iff.1 h2
            rw [List.take_succ_eq_append_getElem hlt, List.take_succ_eq_append_getElem hlt2, HF.out, e1, e2]
          case measure => simp [intOf]; omega
        · have hne : (x1 == y1 && x2 == y2) = false := by simpa using hxy
          have hrun := fun w => neq_way x1 x2 y1 y2 w
          rw [hne] at hrun
          have HXY := Lib.hid hxy
          clear hne hxy
          go_wp2_with fail
          go_quiet (fail)
          go_wp2
          go_ret
          exact ⟨by rw [same_miss HX.out HY.out HXY.out]; rfl, below_drewN (below_drewN (Below.refl _ _) _) _⟩
      · have he : decide (xs = ys) = true := by
          have h := HF.out
          rw [List.take_of_length_le (by omega), List.take_of_length_le (by have := HL.out; omega)] at h
          simpa using h
        have HE := Lib.hid he
        clear he
        go_wp2
        go_ret
        exact ⟨by rw [HE.out]; rfl, below_drewN (Below.refl _ _) _⟩
  · have e1 : ((xs.length : Int) != (ys.length : Int)) = true := by simp; omega
    have HL := Lib.hid (show decide (xs = ys) = false by rw [decide_eq_false_iff_not]; exact fun h => hl (by rw [h]))
    clear hl
    go_enter Try.func10, Try.ntmps10
    go_wp2
    go_ret
    exact ⟨by rw [HL.out]; rfl, Below.refl _ _⟩

def pngS : ByteArray := ⟨#[112, 110, 103]⟩
def zeroP : Prof := { name := ByteArray.empty, edit := 0, within_ := 0, delete := 0, react := false, thread := 0, quote := false, mention := false, size := 0, parts := 0, files := 0, bytes := 0, types := [], join := 0, history := 0, remove := 0, level := 0, batch := false, rate := 0, down := 0, window := 0, keep := 0 }
def mailP : Prof := { zeroP with name := ⟨#[109, 97, 105, 108]⟩, thread := 2, quote := true, size := 900, parts := 1, files := 2, bytes := 5000, types := [pngS], rate := 1 }
def roomP : Prof := { zeroP with name := ⟨#[114, 111, 111, 109]⟩, edit := 2, delete := 2, react := true, thread := 2, quote := true, mention := true, size := 4000, parts := 3, files := 4, bytes := 5000, types := [pngS], rate := 1 }
def thirdP : Prof := { roomP with delete := 0 }
def MadeP (p : Prof) (w : World) (e : Ending) (w' : World) : Prop := Below w.heap.size w w' ∧ ∃ A, e = .returned (p.v A 1) ∧ RdS w' w'.heap.size A p.types
theorem strLay : Lay 1 strCells := ⟨fun _ => rfl, fun x u hu => by simp only [strCells, List.mem_cons, List.not_mem_nil, or_false] at hu; subst hu; rfl⟩

theorem RdL.at_block {T : Type} {sz : Nat} {enc : T → List Value} {w w' : World} {B B' g o : Nat} {xs : List T} (h : RdL sz enc w B (some ⟨g, o, none⟩) xs) (hk : ∀ j, w'.cell? ⟨g, j, none⟩ = w.cell? ⟨g, j, none⟩) (hB : g < B') : RdL sz enc w' B' (some ⟨g, o, none⟩) xs := fun k x hx => by
  obtain ⟨b, off, e, _, hc⟩ := h k x hx
  injection e with e
  injection e with e1 e2
  subst e1 e2
  exact ⟨_, _, rfl, hB, fun j v hv => (hk _).trans (hc j v hv)⟩
set_option maxRecDepth 100000 in
set_option maxHeartbeats 1000000 in
theorem mail_any (w : World) : Calls Try.prog 16 #[] w (MadeP mailP w) := by
  have hth : ((w.alloc (.cells (zeroP.cs none 0) 24)).alloc (.cells #[.string pngS] 9)).there w.heap.size 0 22 := boxThere w _ _ ((Below.refl _ _).alloc (Nat.le_refl _) _) _ rfl 22 rfl
  have HTH := Lib.hid hth
  clear hth
  go_enter Try.func16, Try.ntmps16
  go_wp2_with ((with_reducible show wpList _ _ _ (Oper.mk _ (Op.store 24 _ _) _ _ _ _ :: _) _ _); refine wpList_store_box rfl 24 _ _ rfl _ _ rfl rfl HTH.out (by kernel_rfl) (by kernel_rfl) ?_; intro w2 hrg hth hg)
  refine ret_box 0 24 rfl w.heap.size _ _ rfl hrg Try.underlying24 rfl (by kernel_rfl) rfl ⟨?_, some ⟨w.heap.size + 1, 0, none⟩, rfl, ?_⟩
  · exact ((((Below.refl w.heap.size w).alloc (Nat.le_refl _) _).alloc (by simp) _).grown hg (by simp; omega) (fun k hk => by cases hk; exact Nat.le_refl _))
  · have hr := RdL.block strLay (w.alloc (.cells (zeroP.cs none 0) 24)) [pngS] #[.string pngS] 9 rfl (w.heap.size + 1) (by simp)
    exact hr.at_block (fun j => World.cell?_of_block (hg.block _ (by simp) (by simp))) (by have := hg.size; simp at this; omega)
set_option maxRecDepth 100000 in
set_option maxHeartbeats 1000000 in
theorem room_any (w : World) : Calls Try.prog 17 #[] w (MadeP roomP w) := by
  have hth : ((w.alloc (.cells (zeroP.cs none 0) 24)).alloc (.cells #[.string pngS] 9)).there w.heap.size 0 22 := boxThere w _ _ ((Below.refl _ _).alloc (Nat.le_refl _) _) _ rfl 22 rfl
  have HTH := Lib.hid hth
  clear hth
  go_enter Try.func17, Try.ntmps17
  go_wp2_with ((with_reducible show wpList _ _ _ (Oper.mk _ (Op.store 24 _ _) _ _ _ _ :: _) _ _); refine wpList_store_box rfl 24 _ _ rfl _ _ rfl rfl HTH.out (by kernel_rfl) (by kernel_rfl) ?_; intro w2 hrg hth hg)
  refine ret_box 0 24 rfl w.heap.size _ _ rfl hrg Try.underlying24 rfl (by kernel_rfl) rfl ⟨?_, some ⟨w.heap.size + 1, 0, none⟩, rfl, ?_⟩
  · exact ((((Below.refl w.heap.size w).alloc (Nat.le_refl _) _).alloc (by simp) _).grown hg (by simp; omega) (fun k hk => by cases hk; exact Nat.le_refl _))
  · have hr := RdL.block strLay (w.alloc (.cells (zeroP.cs none 0) 24)) [pngS] #[.string pngS] 9 rfl (w.heap.size + 1) (by simp)
    exact hr.at_block (fun j => World.cell?_of_block (hg.block _ (by simp) (by simp))) (by have := hg.size; simp at this; omega)
def FewOut (p : Prof) (w : World) (e : Ending) (w' : World) : Prop := (∃ b, e = .returned (.bool b) ∧ (b = true → p.types.length ≤ 12)) ∧ Below w.heap.size w w'
set_option maxRecDepth 100000 in
set_option maxHeartbeats 1000000 in
/-- Few says something. -/
theorem few_any (p : Prof) (A : Option Addr) (c : Nat) (w : World) (hr : ProfOk w w.heap.size A p) : Calls Try.prog 7 #[p.v A c] w (FewOut p w) := by
  obtain ⟨hrd, hnm, hlen, hts⟩ := hr
  have HTS := Lib.hid hts
  clear hts
  have hb0 : Below w.heap.size w (w.alloc (.cells (p.cs A c) 24)) := (Below.refl _ _).alloc (Nat.le_refl _) _
  have HB := Lib.hid hb0
  have hrd0 := hrd.now hb0
  clear hb0
  go_enter Try.func7, Try.ntmps7
  go_wp2
  go_loopw [3] (fun i wr => ∃ k : Nat, k ≤ p.types.length ∧ k ≤ 13 ∧ i = .int .i64 k ∧ wr = (w.alloc (.cells (p.cs A c) 24))) (fun i _ => p.types.length - (intOf i).toNat)
  case atStart => exact ⟨0, Nat.zero_le _, Nat.zero_le _, rfl, rfl⟩
  case round =>
    obtain ⟨k, hk, hk2, rfl, rfl⟩ := hrel
    by_cases hlt : k < p.types.length
    · by_cases hlt2 : k < 13
      · obtain ⟨b, off, s, rfl, hbb, hp, hc⟩ := RdS_at hrd0 hlt
        have HP := Lib.hid hp
        have hsz := HTS.out s (List.mem_of_getElem? hp)
        clear hp
        by_cases hs : 60 < s.size
        · go_wp2
          go_ret
          exact ⟨⟨_, rfl, fun h => by cases h⟩, HB.out⟩
        · go_wp2
          go_roundw
          case rel => exact ⟨k + 1, by omega, by omega, by go_num, by first | trivial | rfl⟩
          case measure => simp [intOf]; omega
      · go_wp2
        all_goals go_ret
        all_goals exact ⟨⟨_, rfl, fun h => by first | omega | (simp at h; done) | (simp at h; omega)⟩, HB.out⟩
    · by_cases hl : p.types.length ≤ 12
      all_goals by_cases hn : p.name.size ≤ 60
      all_goals go_wp2
      all_goals go_ret
      all_goals exact ⟨⟨_, rfl, fun h => by first | omega | (simp at h; done) | (simp at h; omega)⟩, HB.out⟩
end Go.Proofs.Ytebpnlbpdhgacaa
