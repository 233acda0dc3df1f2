/- The walk of TargetTells. -/
import Derived.Test.YtlhidlaoecjnpaaTgJ
namespace Go.Proofs.Ytlhidlaoecjnpaa
open Go.RowKit

set_option maxHeartbeats 2000000 in
theorem tells_walk (xs : List Pair) (p : Pair) (A : Option Addr) (c : Nat) (net a b : Int) (w : World) (hr : RdP w w.heap.size A xs) (hm : xs.length ≤ 9223372036854775807) (hwf : ∀ q ∈ xs, q.wf) (hpw : p.wf) :
    Calls Try.prog 3 #[.slice A xs.length c, p.v, .int .i64 net, .int .i64 a, .int .i64 b] w fun e w' => e = .returned (.bool true) ∧ Below w.heap.size w w' := by
  have hb0 : Below w.heap.size w (w.alloc (.cells #[.int .i64 p.net, .int .i64 p.loc, .int .i64 p.ev, .int .i64 p.part] 24)) := (Below.refl _ _).alloc (Nat.le_refl _) _
  have HB := Lib.hid hb0
  have HWF := Lib.hid hwf
  have HPW := Lib.hid hpw
  clear hb0 hwf hpw
  by_cases hlen : 40 < xs.length
  · unfold Pair.v
    go_enter Try.func3, Try.ntmps3
    go_wp2_with (go_at_call 8; refine (small_any _).mono ?_; rintro e w1 ⟨rfl, b1⟩)
    go_ret
    exact ⟨rfl, HB.out.trans (b1.mono (by first | omega | (simp; done) | (simp; omega)))⟩
  · have hle : xs.length ≤ 40 := by omega
    clear hlen
    unfold Pair.v
    go_enter Try.func3, Try.ntmps3
    go_wp2_with fail
    refine (small_any _).mono ?_; rintro e w1 ⟨rfl, b1⟩
    have B1 := b1.mono (B' := w.heap.size + 1) (by first | omega | (simp; done) | (simp; omega))
    clear b1
    obtain ⟨e0, e1, e2, e3⟩ := box4 w _ _ _ _ _ B1
    have hl1 : w.heap.size < w1.heap.size := Nat.lt_of_lt_of_le (by simp) B1.size
    have hr1 := hr.now (HB.out.trans (B1.mono (Nat.le_succ _)))
    go_wp2_with fail
    refine (padd_any xs p A c _ hr1 (by omega) HWF.out HPW.out).mono ?_; rintro e w2 ⟨A2, c2, rfl, o2, b2⟩
    have B2 := B1.trans (b2.mono hl1)
    clear e0 e1 e2 e3
    obtain ⟨e0, e1, e2, e3⟩ := box4 w _ _ _ _ _ B2
    have hl2 : w.heap.size < w2.heap.size := Nat.lt_of_lt_of_le (by simp) B2.size
    have hr2 := hr.now (HB.out.trans (B2.mono (Nat.le_succ _)))
    clear hr1 B1 b2 hl1
    go_wp2_with fail
    refine (radd_any xs p A c _ hr2 (by omega)).mono ?_; rintro e w3 ⟨A3, c3, rfl, o3, b3⟩
    have o23 := o2.below b3
    have B3 := B2.trans (b3.mono hl2)
    have hr3 := hr.now (HB.out.trans (B3.mono (Nat.le_succ _)))
    have hl3 : w.heap.size + 1 ≤ w3.heap.size := Nat.le_trans (by simp) B3.size
    clear e0 e1 e2 e3 hr2 b3 B2 hl2 o2
    go_wp2_with fail
    refine (pfind_any xs A c net a _ hr3 hm).mono ?_; rintro e w4 ⟨rfl, b4⟩
    have o24 := o23.below b4
    have o34 := o3.below b4
    have B4 := B3.trans (b4.mono hl3)
    have hr4 := hr.now (HB.out.trans (B4.mono (Nat.le_succ _)))
    have hl4 : w.heap.size + 1 ≤ w4.heap.size := Nat.le_trans (by simp) B4.size
    clear hr3 b4 B3 hl3 o23 o3
    go_wp2_with fail
    refine (rfind_any xs A c net a _ hr4 hm).mono ?_; rintro e w5 ⟨rfl, b5⟩
    have o25 := o24.below b5
    have o35 := o34.below b5
    have B5 := B4.trans (b5.mono hl4)
    have hr5 := hr.now (HB.out.trans (B5.mono (Nat.le_succ _)))
    have hl5 : w.heap.size + 1 ≤ w5.heap.size := Nat.le_trans (by simp) B5.size
    clear hr4 b5 B4 hl4 o24 o34
    go_wp2_with fail
    refine (plocal_any xs A c net a b _ hr5 hm).mono ?_; rintro e w6 ⟨rfl, b6⟩
    have o26 := o25.below b6
    have o36 := o35.below b6
    have B6 := B5.trans (b6.mono hl5)
    have hr6 := hr.now (HB.out.trans (B6.mono (Nat.le_succ _)))
    have hl6 : w.heap.size + 1 ≤ w6.heap.size := Nat.le_trans (by simp) B6.size
    clear hr5 b6 B5 hl5 o25 o35
    go_wp2_with fail
    refine (rlocal_any xs A c net a b _ hr6 hm).mono ?_; rintro e w7 ⟨rfl, b7⟩
    have o27 := o26.below b7
    have o37 := o36.below b7
    have B7 := B6.trans (b7.mono hl6)
    have hr7 := hr.now (HB.out.trans (B7.mono (Nat.le_succ _)))
    have hl7 : w.heap.size + 1 ≤ w7.heap.size := Nat.le_trans (by simp) B7.size
    clear hr6 b7 B6 hl6 o26 o36
    have hla : (addF xs p).1.length ≤ 41 := by
      unfold addF
      split
      · split
        · simp
        · simp; omega
      · simp
    go_wp2_with fail
    refine (rsame_any _ _ A2 A3 c2 c3 _ (o27.rd layP) (o37.rd layP) (by omega)).mono ?_; rintro e w8 ⟨rfl, b8⟩
    have hsame : decide ((addF xs p).1 = (addF xs p).1) = true := by simp
    rw [hsame]
    have B8 := B7.trans (b8.mono hl7)
    have hr8 := hr.now (HB.out.trans (B8.mono (Nat.le_succ _)))
    have hl8 : w.heap.size + 1 ≤ w8.heap.size := Nat.le_trans (by simp) B8.size
    clear hr7 b8 B7 hl7 o27 o37 hsame
    go_wp2_with fail
    refine (pright_any xs A c _ hr8 (by omega) HWF.out).mono ?_; rintro e w9 ⟨rfl, b9⟩
    have B9 := B8.trans (b9.mono hl8)
    have hr9 := hr.now (HB.out.trans (B9.mono (Nat.le_succ _)))
    have hl9 : w.heap.size + 1 ≤ w9.heap.size := Nat.le_trans (by simp) B9.size
    clear hr8 b9 B8 hl8
    go_wp2_with fail
    refine (rright_any xs A c _ hr9 hm).mono ?_; rintro e w10 ⟨rfl, b10⟩
    have B10 := B9.trans (b10.mono hl9)
    have hr10 := hr.now (HB.out.trans (B10.mono (Nat.le_succ _)))
    have hl10 : w.heap.size + 1 ≤ w10.heap.size := Nat.le_trans (by simp) B10.size
    clear hr9 b10 B9 hl9
    go_wp2_with fail
    refine (pdrop_any xs A c net a _ hr10 (by omega)).mono ?_; rintro e w11 ⟨A11, c11, rfl, o11, b11⟩
    have B11 := B10.trans (b11.mono hl10)
    have hr11 := hr.now (HB.out.trans (B11.mono (Nat.le_succ _)))
    have hl11 : w.heap.size + 1 ≤ w11.heap.size := Nat.le_trans (by simp) B11.size
    clear hr10 b11 B10 hl10
    go_wp2_with fail
    refine (rdrop_any xs A c net a _ hr11 (by omega)).mono ?_; rintro e w12 ⟨A12, c12, rfl, o12, b12⟩
    have o1112 := o11.below b12
    have B12 := B11.trans (b12.mono hl11)
    have hl12 : w.heap.size + 1 ≤ w12.heap.size := Nat.le_trans (by simp) B12.size
    clear hr11 b12 B11 hl11 o11
    have hld : (dropF net a xs).length ≤ 40 := Nat.le_trans (List.length_filter_le _ _) hle
    go_wp2_with fail
    refine (rsame_any _ _ A11 A12 c11 c12 _ (o1112.rd layP) (o12.rd layP) (by omega)).mono ?_; rintro e w13 ⟨rfl, b13⟩
    have hsame : decide (dropF net a xs = dropF net a xs) = true := by simp
    rw [hsame]
    go_wp2
    go_ret
    exact ⟨rfl, HB.out.trans ((B12.trans (b13.mono hl12)).mono (Nat.le_succ _))⟩
end Go.Proofs.Ytlhidlaoecjnpaa
