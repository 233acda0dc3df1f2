/- The walk of TargetAdds. -/
import Derived.Test.YtlhidlaoecjnpaaTgN
import Derived.Deep.DeepCutAuto
import Derived.Deep.RegionHeld3
namespace Go.Proofs.Ytlhidlaoecjnpaa
open Go.RowKit

theorem RdL.take {T : Type} {sz : Nat} {enc : T → List Value} {w : World} {B : Nat} {A : Option Addr} {xs : List T} (h : RdL sz enc w B A xs) (n : Nat) : RdL sz enc w B A (xs.take n) := by
  intro k x hx
  rw [List.getElem?_take] at hx
  split at hx
  · exact h k x hx
  · cases hx
theorem any_excl (p : Pair) (xs : List Pair) : xs.any (fun q => excl q p) = ((findF (fNL p.net p.loc) xs).isSome || (findF (fNEP p.net p.ev p.part) xs).isSome) := by
  unfold findF
  rw [find_any, find_any]
  induction xs with
  | nil => rfl
  | cons x r ih =>
    rw [List.any_cons, List.any_cons, List.any_cons, ih]
    have : excl x p = (fNL p.net p.loc x || fNEP p.net p.ev p.part x) := by
      rw [Bool.eq_iff_iff]
      simp [excl, fNL, fNEP]
      omega
    rw [this]
    cases fNL p.net p.loc x <;> cases fNEP p.net p.ev p.part x <;> simp
theorem drop_added (p : Pair) (xs : List Pair) : dropF p.net p.ev (xs ++ [p]) = dropF p.net p.ev xs := by
  unfold dropF
  rw [List.filter_append]
  simp
theorem dropped_none (net ev part : Int) (xs : List Pair) : findF (fNEP net ev part) (dropF net ev xs) = none := by
  unfold findF dropF
  rw [List.find?_eq_none]
  intro x hx
  have := (List.mem_filter.1 hx).2
  simp at this
  simp [fNEP]
  intro h1 h2
  exact absurd h2 (this.resolve_left (fun h => h h1))
theorem any_drop (p : Pair) (net ev : Int) (xs : List Pair) (h : xs.any (fun q => excl q p) = false) : (dropF net ev xs).any (fun q => excl q p) = false := by
  rw [List.any_eq_false] at h ⊢
  exact fun x hx => h x (List.mem_filter.1 hx).1

set_option maxRecDepth 100000 in
set_option maxHeartbeats 4000000 in
theorem adds_walk (xs : List Pair) (p : Pair) (A : Option Addr) (c : Nat) (w : World) (hr : RdP w w.heap.size A xs) (hm : xs.length ≤ 9223372036854775807) (hwf : ∀ q ∈ xs, q.wf) (hpw : p.wf) :
    Calls Try.prog 5 #[.slice A xs.length c, p.v] w fun e w' => e = .returned (.bool true) ∧ Below w.heap.size w w' := by
  have hb0 : Below w.heap.size w (w.alloc (.cells #[.int .i64 p.net, .int .i64 p.loc, .int .i64 p.ev, .int .i64 p.part] 24)) := (Below.refl _ _).alloc (Nat.le_refl _) _
  have HB := Lib.hid hb0
  have HWF := Lib.hid hwf
  have HPW := Lib.hid hpw
  clear hb0 hwf hpw
  by_cases hlen : 40 < xs.length
  · unfold Pair.v
    go_enter Try.func5, Try.ntmps5
    go_wp2_with (go_at_call 8; refine (small_any _).mono ?_; rintro e w1 ⟨rfl, b1⟩)
    go_ret
    exact ⟨rfl, HB.out.trans (b1.mono (by first | omega | (simp; done) | (simp; omega)))⟩
  · have hle : xs.length ≤ 40 := by omega
    clear hlen
    unfold Pair.v
    go_enter Try.func5, Try.ntmps5
    go_wp2_with fail
    refine (small_any _).mono ?_; rintro e w1 ⟨rfl, b1⟩
    have B1 := b1.mono (B' := w.heap.size + 1) (by first | omega | (simp; done) | (simp; omega))
    clear b1
    have hl1 : w.heap.size < w1.heap.size := Nat.lt_of_lt_of_le (by simp) B1.size
    have hr1 := hr.now (HB.out.trans (B1.mono (Nat.le_succ _)))
    go_wp2_with fail
    refine (pright_any xs A c _ hr1 (by omega) HWF.out).mono ?_; rintro e w2 ⟨rfl, b2⟩
    have B2 := B1.trans (b2.mono hl1)
    have hl2 : w.heap.size < w2.heap.size := Nat.lt_of_lt_of_le (by simp) B2.size
    clear B1 b2 hl1 hr1
    cases hv : rightB xs
    · go_wp2
      go_ret
      exact ⟨rfl, HB.out.trans (B2.mono (Nat.le_succ _))⟩
    · have HV := Lib.hid hv
      clear hv
      obtain ⟨e0, e1, e2, e3⟩ := box4 w _ _ _ _ _ B2
      have hr2 := hr.now (HB.out.trans (B2.mono (Nat.le_succ _)))
      go_wp2_with fail
      refine (pfind_any xs A c p.net p.loc _ hr2 hm).mono ?_; rintro e w3 ⟨rfl, b3⟩
      have B3 := B2.trans (b3.mono hl2)
      have hl3 : w.heap.size < w3.heap.size := Nat.lt_of_lt_of_le (by simp) B3.size
      clear e0 e1 e2 e3 hr2 B2 b3 hl2
      obtain ⟨e0, e1, e2, e3⟩ := box4 w _ _ _ _ _ B3
      have hr3 := hr.now (HB.out.trans (B3.mono (Nat.le_succ _)))
      go_wp2_with fail
      refine (plocal_any xs A c p.net p.ev p.part _ hr3 hm).mono ?_; rintro e w4 ⟨rfl, b4⟩
      have B4 := B3.trans (b4.mono hl3)
      have hl4 : w.heap.size < w4.heap.size := Nat.lt_of_lt_of_le (by simp) B4.size
      clear e0 e1 e2 e3 hr3 B3 b4 hl3
      obtain ⟨e0, e1, e2, e3⟩ := box4 w _ _ _ _ _ B4
      have hr4 := hr.now (HB.out.trans (B4.mono (Nat.le_succ _)))
      go_wp2_with fail
      refine (padd_any xs p A c _ hr4 (by omega) HWF.out HPW.out).mono ?_; rintro e w5 ⟨A5, c5, rfl, o5, b5⟩
      have B5 := B4.trans (b5.mono hl4)
      have hl5 : w.heap.size < w5.heap.size := Nat.lt_of_lt_of_le (by simp) B5.size
      clear e0 e1 e2 e3 hr4 B4 b5
      have HX := Lib.hid (any_excl p xs)
      have HF := Lib.hid (show addF xs p = if validP p then (if xs.any (fun q => excl q p) then ([], 5) else (xs ++ [p], 0)) else ([], 1) by simp [addF, HV.out])
      obtain ⟨e0, e1, e2, e3⟩ := box4 w _ _ _ _ _ B5
      go_wp2_with fail
      refine (rvalid_any p _).mono ?_; rintro e w6 ⟨rfl, b6⟩
      have o6 := o5.below b6
      have B6 := B5.trans (b6.mono hl5)
      have hl6 : w.heap.size < w6.heap.size := Nat.lt_of_lt_of_le (by simp) B6.size
      clear e0 e1 e2 e3 o5 B5 b6 hl5
      cases hvp : validP p
      · have h1 := HF.out
        rw [hvp, if_neg (by simp)] at h1
        rw [h1]
        clear hvp h1
        go_wp2
        go_ret
        exact ⟨rfl, HB.out.trans (B6.mono (Nat.le_succ _))⟩
      · have h1 := HF.out
        rw [hvp, if_pos rfl] at h1
        have hxx := HX.out
        generalize hq1 : findF (fNL p.net p.loc) xs = Q1 at *
        generalize hq2 : findF (fNEP p.net p.ev p.part) xs = Q2 at *
        have HQ1 := Lib.hid hq1
        have HQ2 := Lib.hid hq2
        have HVP := Lib.hid hvp
        clear hq1 hq2 hvp
        rcases Q1 with _ | q1
        · rcases Q2 with _ | q2
          · have hx : xs.any (fun q => excl q p) = false := hxx
            rw [hx, if_neg (by simp)] at h1
            rw [h1] at o6 ⊢
            have HXX := Lib.hid hx
            clear hx hxx h1
            have o6 : OwnP w6 w4.heap.size A5 c5 (xs ++ [p]) := o6
            have hR : rightB (xs ++ [p]) = true := by rw [rightB_snoc, HV.out, HVP.out, HXX.out]; rfl
            have hwfx : ∀ q ∈ xs ++ [p], q.wf := fun q hq => by
              rcases List.mem_append.1 hq with hq | hq
              · exact HWF.out q hq
              · simp only [List.mem_singleton] at hq; subst hq; exact HPW.out
            have HWX := Lib.hid hwfx
            clear hwfx
            have hax : xs.length + 1 ≤ 41 := by omega
            have hlx : (xs ++ [p]).length = xs.length + 1 := by simp
            have hc5 := pright_any (xs ++ [p]) A5 c5 w6 (o6.rd layP) (by omega) HWX.out
            rw [hlx, hR] at hc5
            have HC5 := Lib.hid hc5
            have HLX := Lib.hid hlx
            have HR := Lib.hid hR
            clear hc5 hR hlx
            obtain ⟨g, rfl⟩ : ∃ g, A5 = some ⟨g, 0, none⟩ := by
              rcases o6.2 with ⟨hv, hn⟩ | ⟨g, cap, cur, hv, _⟩
              · have := HLX.out; omega
              · injection hv with hv
                exact ⟨g, hv⟩
            have hcap : xs.length ≤ c5 := by have := o6.cap_le.1; have := HLX.out; omega
            go_wp2_with fail
            refine HC5.out.mono ?_; rintro e w7 ⟨rfl, b7⟩
            have o7 := o6.below b7
            have B7 := B6.trans (b7.mono hl6)
            have hl7 : w.heap.size < w7.heap.size := Nat.lt_of_lt_of_le (by simp) B7.size
            clear B6 b7 hl6 o6
            have hrx := o7.rd layP
            have hrt : RdP w7 w7.heap.size (some ⟨g, 0, none⟩) xs := by
              have := RdL.take hrx xs.length
              rwa [List.take_left] at this
            obtain ⟨bb, off, p', he, hbb, hp', d0, d1, d2, d3⟩ := RdP_at hrx (k := xs.length) (by have := HLX.out; omega)
            obtain rfl : p' = p := by
              rw [List.getElem?_append_right (Nat.le_refl _), Nat.sub_self] at hp'
              simpa using hp'.symm
            obtain ⟨rfl, rfl⟩ : g = bb ∧ 0 = off := by simpa using he
            clear he hp'
            simp only [Nat.zero_add] at d0 d1 d2 d3
            obtain ⟨e0, e1, e2, e3⟩ := box4 w _ _ _ _ _ B7
            have hr7 := hr.now (HB.out.trans (B7.mono (Nat.le_succ _)))
            have hrun := fun w => neq_pair p'.net p'.loc p'.ev p'.part p'.net p'.loc p'.ev p'.part w
            simp only [beq_self_eq_true, Bool.and_self, Bool.not_true] at hrun
            go_wp2_with fail
            have hlw : w.heap.size < w7.heap.size := hl7
            have hi0 : (0 : Int) ≤ (xs.length : Int) := Int.natCast_nonneg _
            have hi1 : (xs.length : Int) < (xs.length : Int) + 1 := by omega
            go_region_held3 (fun w' => w'.cell? ⟨w.heap.size, 0, none⟩ = some (.int .i64 p'.net) ∧ w'.cell? ⟨w.heap.size, 1, none⟩ = some (.int .i64 p'.loc) ∧ w'.cell? ⟨w.heap.size, 2, none⟩ = some (.int .i64 p'.ev) ∧ w'.cell? ⟨w.heap.size, 3, none⟩ = some (.int .i64 p'.part) ∧
                w'.cell? ⟨g, xs.length * 4, none⟩ = some (.int .i64 p'.net) ∧ w'.cell? ⟨g, xs.length * 4 + 1, none⟩ = some (.int .i64 p'.loc) ∧ w'.cell? ⟨g, xs.length * 4 + 2, none⟩ = some (.int .i64 p'.ev) ∧ w'.cell? ⟨g, xs.length * 4 + 3, none⟩ = some (.int .i64 p'.part))
              (first | go_keep | exact ⟨(b8.cell (p := ⟨w.heap.size, 0, none⟩) hlw).trans e0, (b8.cell (p := ⟨w.heap.size, 1, none⟩) hlw).trans e1, (b8.cell (p := ⟨w.heap.size, 2, none⟩) hlw).trans e2, (b8.cell (p := ⟨w.heap.size, 3, none⟩) hlw).trans e3,
                (b8.cell (p := ⟨g, xs.length * 4, none⟩) hbb).trans d0, (b8.cell (p := ⟨g, xs.length * 4 + 1, none⟩) hbb).trans d1, (b8.cell (p := ⟨g, xs.length * 4 + 2, none⟩) hbb).trans d2, (b8.cell (p := ⟨g, xs.length * 4 + 3, none⟩) hbb).trans d3⟩)
              (first | (go_at_call 15; refine (rsame_any xs xs _ A c5 c _ (show RdP w7.drew w7.drew.heap.size _ xs from hrt) (show RdP w7.drew w7.drew.heap.size _ xs from hr7) hm).mono ?_; rintro e w8 ⟨rfl, b8⟩; rw [show decide (xs = xs) = true by simp]))
            have B8 := B7.trans (Below.trans (Below.refl _ _).drew (b8.mono (by show w.heap.size + 1 ≤ w7.heap.size; exact hl7)))
            have o8 : OwnP w8 w4.heap.size (some ⟨g, 0, none⟩) c5 (xs ++ [p']) := OwnL.below (OwnL.drew o7) b8
            have hl8 : w.heap.size < w8.heap.size := Nat.lt_of_lt_of_le (by simp) B8.size
            clear e0 e1 e2 e3 d0 d1 d2 d3 hrun hi0 hi1 hr7 hrt hrx b8 hbb o7 B7 hl7 hlw
            obtain ⟨e0, e1, e2, e3⟩ := box4 w _ _ _ _ _ B8
            have hcd := pdrop_any (xs ++ [p']) (some ⟨g, 0, none⟩) c5 p'.net p'.ev w8 (o8.rd layP) (by have := HLX.out; omega)
            rw [HLX.out, drop_added] at hcd
            have HCD := Lib.hid hcd
            clear hcd
            go_wp2_with fail
            refine HCD.out.mono ?_; rintro e w9 ⟨A9, c9, rfl, o9, b9⟩
            have B9 := B8.trans (b9.mono hl8)
            have hl9 : w.heap.size < w9.heap.size := Nat.lt_of_lt_of_le (by simp) B9.size
            have hld : (dropF p'.net p'.ev xs).length ≤ 40 := Nat.le_trans (List.length_filter_le _ _) hle
            clear e0 e1 e2 e3 o8 B8 b9 hl8
            obtain ⟨e0, e1, e2, e3⟩ := box4 w _ _ _ _ _ B9
            go_wp2_with fail
            refine (plocal_any (dropF p'.net p'.ev xs) A9 c9 p'.net p'.ev p'.part _ (o9.rd layP) (by omega)).mono ?_; rintro e w10 ⟨rfl, b10⟩
            rw [dropped_none]
            have o10 := o9.below b10
            have B10 := B9.trans (b10.mono hl9)
            have hl10 : w.heap.size < w10.heap.size := Nat.lt_of_lt_of_le (by simp) B10.size
            clear e0 e1 e2 e3 o9 B9 b10 hl9
            obtain ⟨e0, e1, e2, e3⟩ := box4 w _ _ _ _ _ B10
            have hca := padd_any (dropF p'.net p'.ev xs) p' A9 c9 w10 (o10.rd layP) (by omega) (fun q hq => HWF.out q (List.mem_filter.1 hq).1) HPW.out
            have ha : addF (dropF p'.net p'.ev xs) p' = (dropF p'.net p'.ev xs ++ [p'], 0) := by
              unfold addF
              rw [rightB_drop _ _ _ HV.out, HVP.out, any_drop p' _ _ _ HXX.out]
              rfl
            rw [ha] at hca
            have HCA := Lib.hid (show Calls Try.prog 9 #[.slice A9 (dropF p'.net p'.ev xs).length c9, p'.v] w10 fun e w' => ∃ A' c', e = .returned (.tuple #[.slice A' ((dropF p'.net p'.ev xs).length + 1) c', .int .i64 0]) ∧ OwnP w' w10.heap.size A' c' (dropF p'.net p'.ev xs ++ [p']) ∧ Below w10.heap.size w10 w' from
              hca.mono fun e w' ⟨A', c', h1, h2, h3⟩ => ⟨A', c', by rw [h1]; simp, h2, h3⟩)
            clear hca ha
            go_wp2_with fail
            refine HCA.out.mono ?_; rintro e w11 ⟨A11, c11, rfl, o11, b11⟩
            have o1011 := o10.below b11
            have B11 := B10.trans (b11.mono hl10)
            have hl11 : w.heap.size < w11.heap.size := Nat.lt_of_lt_of_le (by simp) B11.size
            clear e0 e1 e2 e3 o10 B10 b11 hl10 o11
            obtain ⟨e0, e1, e2, e3⟩ := box4 w _ _ _ _ _ B11
            have hr11 := hr.now (HB.out.trans (B11.mono (Nat.le_succ _)))
            go_wp2_with fail
            refine (pdrop_any xs A c p'.net p'.ev _ hr11 (by omega)).mono ?_; rintro e w12 ⟨A12, c12, rfl, o12, b12⟩
            have o912 := o1011.below b12
            have B12 := B11.trans (b12.mono hl11)
            have hl12 : w.heap.size < w12.heap.size := Nat.lt_of_lt_of_le (by simp) B12.size
            clear e0 e1 e2 e3 o1011 B11 b12 hl11 hr11
            go_wp2_with fail
            refine (rsame_any _ _ A9 A12 c9 c12 _ (o912.rd layP) (o12.rd layP) (by omega)).mono ?_; rintro e w13 ⟨rfl, b13⟩
            rw [show decide (dropF p'.net p'.ev xs = dropF p'.net p'.ev xs) = true by simp]
            go_wp2
            go_ret
            exact ⟨rfl, HB.out.trans ((B12.trans (b13.mono hl12)).mono (Nat.le_succ _))⟩
          · have hx : xs.any (fun q => excl q p) = true := hxx
            rw [hx, if_pos rfl] at h1
            rw [h1]
            clear hx hxx h1
            go_wp2
            go_ret
            exact ⟨rfl, HB.out.trans (B6.mono (Nat.le_succ _))⟩
        · have hx : xs.any (fun q => excl q p) = true := hxx
          rw [hx, if_pos rfl] at h1
          rw [h1]
          clear hx hxx h1
          go_wp2
          go_ret
          exact ⟨rfl, HB.out.trans (B6.mono (Nat.le_succ _))⟩
end Go.Proofs.Ytlhidlaoecjnpaa
