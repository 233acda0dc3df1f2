/- The walk of LeaseOne. -/
import Derived.Test.YtoibgenhbpppdaaDoorLsG
import Derived.Test.YtoibgenhbpppdaaDoorDet
namespace Go.Proofs.YtoibgenhbpppdaaDoor
open Go.RowKit

theorem RdL.wm {w : World} {B : Nat} {A : Option Addr} {xs : List WM} (h : RdL 5 WM.cs w B A xs) {k : Nat} (hk : k < xs.length) : ∃ b off, A = some ⟨b, off, none⟩ ∧ b < B ∧ w.cell? ⟨b, off + k * 5, none⟩ = some (.int .i64 xs[k].kind) ∧ w.cell? ⟨b, off + k * 5 + 1, none⟩ = some (.int .i64 xs[k].who) ∧ w.cell? ⟨b, off + k * 5 + 2, none⟩ = some (.int .i64 xs[k].later) ∧
    w.cell? ⟨b, off + k * 5 + 3, none⟩ = some (.int .i64 xs[k].span) ∧ w.cell? ⟨b, off + k * 5 + 4, none⟩ = some (.string (bs xs[k].txt)) := by
  obtain ⟨b, off, e, hb, hc⟩ := h.at_ hk
  exact ⟨b, off, e, hb, hc 0 _ rfl, hc 1 _ rfl, hc 2 _ rfl, hc 3 _ rfl, hc 4 _ rfl⟩

structure OneI (x : Ls) (ow : List Int) (now : Int) : Prop where
  f : x.fine = true
  n : 0 ≤ now
  e : x.epoch = ow.length
  t : x.till ≤ now + 1000
  l : 0 < ow.length → ow.getLast? = some x.who
/-- What a request has done. -/
def OneS (x : Ls) (ow : List Int) (who now span : Int) (y : Ls) (ow' : List Int) (er : Int) : Prop :=
  OneI y ow' now ∧ ow'.length ≤ ow.length + 1 ∧ ((er = 21 ∧ y = x ∧ x.who ≠ who ∧ 0 < x.epoch ∧ now ≤ x.till) ∨ (er = 0 ∧ y.who = who ∧ 0 < y.epoch ∧ now + span ≤ y.till ∧ x.epoch ≤ y.epoch))
theorem one_old {x : Ls} {ow : List Int} {n0 who now span : Int} (h : OneI x ow n0) (ha : Asks x who now span) (hn : n0 ≤ now) (hc : (grantL x who now span).epoch ≠ ow.length + 1 ∨ grantE x who now span ≠ 0) : OneS x ow who now span (grantL x who now span) ow (grantE x who now span) := by
  have hf := (fine_iff x).1 h.f
  have h1 := h.e
  have h2 := h.t
  have ha2 := ha
  unfold Asks at ha2
  rcases grant_case ha with ⟨g1, g2, g3, g4, g5⟩ | ⟨g1, g2, g3, g4, g5⟩ | ⟨g1, g4, g5⟩
  · rw [g4, g5]
    exact ⟨⟨h.f, by omega, h.e, by omega, h.l⟩, by omega, .inl ⟨rfl, rfl, g3, g1, g2⟩⟩
  · rw [g4, g5]
    refine ⟨⟨(fine_iff _).2 ⟨by simp only; omega, by simp only; omega, by simp only; omega⟩, by omega, h.e, by simp only; omega, fun hl => by rw [h.l hl, g3]⟩, by omega, .inr ⟨rfl, rfl, g1, by simp only; omega, Int.le_refl _⟩⟩
  · rw [g4, g5] at hc
    simp only at hc
    omega
theorem one_new {x : Ls} {ow : List Int} {n0 who now span : Int} (h : OneI x ow n0) (ha : Asks x who now span) (hn : n0 ≤ now) (hc : (grantL x who now span).epoch = ow.length + 1) (he : grantE x who now span = 0) : OneS x ow who now span (grantL x who now span) (ow ++ [who]) (grantE x who now span) := by
  have hf := (fine_iff x).1 h.f
  have h1 := h.e
  have h2 := h.t
  have ha2 := ha
  unfold Asks at ha2
  rcases grant_case ha with ⟨g1, g2, g3, g4, g5⟩ | ⟨g1, g2, g3, g4, g5⟩ | ⟨g1, g4, g5⟩
  · rw [g5] at he; simp at he
  · rw [g4] at hc; simp only at hc; omega
  · rw [g4, g5]
    refine ⟨⟨(fine_iff _).2 ⟨by simp only; omega, by simp only; omega, by simp only; omega⟩, by omega, by simp; omega, by simp only; omega, fun _ => by simp⟩, by simp, .inr ⟨rfl, rfl, by simp only; omega, by simp only; omega, by simp only; omega⟩⟩

theorem ar_a {j n : Nat} (h : j ≤ n + 2) : j + 1 ≤ n + 3 := by omega
theorem ar_b {e : Int} {j : Nat} (h : e < j) : e < ((j + 1 : Nat) : Int) := by omega
theorem ar_c {e : Int} {n : Nat} (h : e = ((n + 1 : Nat) : Int)) : e < ((n + 2 : Nat) : Int) := by omega
theorem ar_d (n : Nat) : max (n : Int) 0 = n := by omega
/-- The world behind the request: the box of the answer, the box of the lease, the owners. -/
def OneB (w wx : World) (x m : Ls) (er who now span : Int) (b8 b5 n : Nat) (o : Value) : Prop :=
  ∃ (os : List Int) (A : Option Addr) (c : Nat), o = .slice A (os.length + 1) c ∧ os.length ≤ n ∧ OneI m (os ++ [m.who]) now ∧ ((er = 21 ∧ m = x ∧ x.who ≠ who ∧ 0 < x.epoch ∧ now ≤ x.till) ∨ (er = 0 ∧ m.who = who ∧ 0 < m.epoch ∧ now + span ≤ m.till ∧ x.epoch ≤ m.epoch)) ∧
    BxW w wx [(b8, m), (b5, x)] ∧ OwnL wx w.heap.size 3 1 intE A c (os ++ [m.who]) ∧ slBlk A ≠ some b5
theorem last_split {l : List Int} {a : Int} (h : l.getLast? = some a) : ∃ os, l = os ++ [a] := by
  have hne : l ≠ [] := fun e => by subst e; simp at h
  refine ⟨l.dropLast, ?_⟩
  rw [List.getLast?_eq_some_getLast hne] at h
  have := List.dropLast_concat_getLast hne
  rw [Option.some.inj h] at this
  exact this.symm
theorem OneB.mk {w wx : World} {x m : Ls} {er who now span : Int} {b8 b5 n : Nat} {ow ow' : List Int} {A : Option Addr} {c : Nat} {o : Value} (h : OneS x ow who now span m ow' er) (hB : BxW w wx [(b8, m), (b5, x)]) (hO : OwnL wx w.heap.size 3 1 intE A c ow')
    (hne : slBlk A ≠ some b5) (hn : ow'.length ≤ n + 1) (ho : o = .slice A ow'.length c) : OneB w wx x m er who now span b8 b5 n o := by
  obtain ⟨h1, h2, h3⟩ := h
  have hpos : 0 < ow'.length := by
    have := h1.e
    rcases h3 with ⟨_, e, _, h4, _⟩ | ⟨_, _, h4, _⟩
    · rw [e] at this; omega
    · omega
  obtain ⟨os, rfl⟩ := last_split (h1.l hpos)
  simp only [List.length_append, List.length_singleton] at hn ho
  exact ⟨os, A, c, ho, by omega, h1, h3, hB, hO, hne⟩

def okW (v : WM) : Bool := decide (0 ≤ v.who) && (decide (v.who ≤ 5) && (decide (0 ≤ v.later) && (decide (v.later ≤ 1000) && (decide (1 ≤ v.span) && decide (v.span ≤ 1000)))))
structure OneW (w wr : World) (b5 : Nat) (x : Ls) (A : Option Addr) (c : Nat) (ow : List Int) : Prop where
  b : BxW w wr [(b5, x)]
  o : OwnL wr w.heap.size 3 1 intE A c ow
  ne : slBlk A ≠ some b5
theorem OneW.on {w wr wx : World} {b5 : Nat} {x : Ls} {A : Option Addr} {c : Nat} {ow : List Int} (h : OneW w wr b5 x A c ow) (hb : Below wr.heap.size wr wx) : OneW w wx b5 x A c ow :=
  ⟨h.b.on hb, h.o.below hb, h.ne⟩

set_option maxRecDepth 100000 in
set_option maxHeartbeats 8000000 in
theorem one47_any (xs : List WM) (A0 : Option Addr) (c0 : Nat) (w : World) (hV : Vs w.heap.size w) (hr : RdL 5 WM.cs w w.heap.size A0 xs) (hn : xs.length ≤ 9223372036854775807) :
    Calls Tryd.prog 4 #[.slice A0 xs.length c0] w fun e w' => e = .returned (.bool true) ∧ Below w.heap.size w w' := by
  have HV := Lib.hid hV
  have HR := Lib.hid hr
  clear hV hr
  go_enter Tryd.func4, Tryd.ntmps4
  go_wp2_with fail
  refine (small47_any _ HV.out).mono ?_
  rintro e w1 ⟨rfl, hb1⟩
  have HB1 := Lib.hid hb1
  clear hb1
  by_cases g1 : (40 : Int) < xs.length
  · go_wp2_with fail
    go_ret
    exact ⟨rfl, HB1.out⟩
  have HW0 := Lib.hid (((BxW.nil_ w).on HB1.out).box ⟨0, 0, 0⟩)
  obtain ⟨b5, hb5⟩ : ∃ b, b = w1.heap.size := ⟨_, rfl⟩
  rw [← hb5] at HW0
  have HB5 := Lib.hid hb5.symm
  clear hb5
  go_upto_region 7 with fail
  rw [HB5.out]
  have HO0 : Hid (OneW w (w1.alloc (.cells #[.int .i64 0, .int .i64 0, .int .i64 0] 23)) b5 ⟨0, 0, 0⟩ none 0 []) := Lib.hid ⟨HW0.out, OwnL.nil_, by simp [slBlk]⟩
  generalize (w1.alloc (.cells #[.int .i64 0, .int .i64 0, .int .i64 0] 23)) = w2 at *
  clear HW0 HB5 HB1
  go_wp2_with fail
  go_loopw [4, 6, 7] (fun t o i wr => ∃ (k : Nat) (x : Ls) (ow : List Int) (A : Option Addr) (c : Nat) (now : Int), k ≤ xs.length ∧ i = .int .i64 k ∧ t = .int .i64 now ∧ o = .slice A ow.length c ∧ OneI x ow now ∧ now ≤ 1000 * k ∧ ow.length ≤ k ∧ OneW w wr b5 x A c ow) (fun _ _ i _ => xs.length - (intOf i).toNat)
  case atStart => exact ⟨0, ⟨0, 0, 0⟩, [], none, 0, 0, Nat.zero_le _, rfl, rfl, rfl, ⟨by decide, by decide, rfl, by decide, fun h => by simp at h⟩, by simp, by simp, HO0.out⟩
  case round =>
    obtain ⟨k, x, ow, A, c, now, hk, rfl, rfl, rfl, hI, hnow, hol, hW⟩ := hrel
    have HI := Lib.hid hI
    have HW := Lib.hid hW
    have hnn := hI.n
    clear hI hW HO0
    by_cases hlt : k < xs.length
    · obtain ⟨b, off, hA, hbl, u0, u1, u2, u3, u4⟩ := RdL.wm HR.out hlt
      subst hA
      generalize xs[k] = v at *
      have HVc := Lib.hid (fun wx (h : Below w.heap.size w wx) => And.intro ((h.cell (p := ⟨b, off + k * 5 + 1, none⟩) hbl).trans u1) (And.intro ((h.cell (p := ⟨b, off + k * 5 + 2, none⟩) hbl).trans u2) ((h.cell (p := ⟨b, off + k * 5 + 3, none⟩) hbl).trans u3)))
      clear u0 u1 u2 u3 u4 hbl
      obtain ⟨v1, v2, v3⟩ := HVc.out _ HW.out.b.b
      cases d0 : decide (v.who < 0)
      rotate_left
      · as_aux_lemma =>
          go_wp2_with fail
          go_ret
          exact ⟨rfl, HW.out.b.b⟩
      cases d1 : decide (5 < v.who)
      rotate_left
      · as_aux_lemma =>
          go_wp2_with fail
          go_ret
          exact ⟨rfl, HW.out.b.b⟩
      cases d2 : decide (v.later < 0)
      rotate_left
      · as_aux_lemma =>
          go_wp2_with fail
          go_ret
          exact ⟨rfl, HW.out.b.b⟩
      cases d3 : decide (1000 < v.later)
      rotate_left
      · as_aux_lemma =>
          go_wp2_with fail
          go_ret
          exact ⟨rfl, HW.out.b.b⟩
      cases d4 : decide (v.span < 1)
      rotate_left
      · as_aux_lemma =>
          go_wp2_with fail
          go_ret
          exact ⟨rfl, HW.out.b.b⟩
      cases d5 : decide (1000 < v.span)
      rotate_left
      · as_aux_lemma =>
          go_wp2_with fail
          go_ret
          exact ⟨rfl, HW.out.b.b⟩
      have m0 : 0 ≤ v.who := by simpa using d0
      have m1 : v.who ≤ 5 := by simpa using d1
      have m2 : 0 ≤ v.later := by simpa using d2
      have m3 : v.later ≤ 1000 := by simpa using d3
      have m4 : 1 ≤ v.span := by simpa using d4
      have m5 : v.span ≤ 1000 := by simpa using d5
      have HAs : Hid (Asks x v.who (now + v.later) v.span) := Lib.hid ⟨HI.out.f, m0, m1, by omega, by omega, m4, m5, by rw [HI.out.e]; omega⟩
      go_upto_region 13 with fail
      clear d0 d1 d2 d3 d4 d5
      obtain ⟨now', hnw⟩ : ∃ n, n = now + v.later := ⟨_, rfl⟩
      rw [← hnw] at HAs ⊢
      have hn0 : 0 ≤ now' := by omega
      have hn1 : now' ≤ 1000000 := by omega
      have hn2 : now' ≤ 1000 * (k + 1) := by omega
      have HNw := Lib.hid hnw
      clear hnw
      have HC := Lib.hid (fun wq (h : Below wr.heap.size wr wq) => (HW.out.on h).b.cells b5 x (by simp))
      have HCv := Lib.hid (fun wq (h : Below wr.heap.size wr wq) => (show _ ∧ _ from ⟨(HVc.out wq (HW.out.b.b.trans (h.mono HW.out.b.b.size))).1, (HVc.out wq (HW.out.b.b.trans (h.mono HW.out.b.b.size))).2.2⟩))
      have HGr := Lib.hid (fun w => grant_any x v.who now' v.span w ⟨by omega, by omega⟩)
      have HCs := Lib.hid (fun h => one_old (ow := ow) HI.out HAs.out (by have := HNw.out; omega) h)
      have HCn := Lib.hid (fun h h' => one_new (ow := ow) HI.out HAs.out (by have := HNw.out; omega) h h')
      generalize grantL x v.who now' v.span = m at *
      generalize grantE x v.who now' v.span = er at *
      go_cut [8, 9] (fun y z wx => ∃ b8, y = .pointer (some ⟨b8, 0, none⟩) ∧ z = .int .i64 er ∧ wr.heap.size ≤ b8 ∧ Below wr.heap.size wr wx ∧ BxW w wx [(b8, m), (b5, x)])
      case first => as_aux_lemma =>
        refine wp_region_held_drew (S := (fun w' => Below wr.heap.size wr w')) (by kernel_rfl) ((Below.refl _ _).drew) (fun hHeld => ?_)
        obtain ⟨wd, hwd⟩ : ∃ x, x = wr.drew := ⟨_, rfl⟩
        rw [← hwd] at hHeld ⊢
        clear hwd
        refine wpAnyH_take (i := 0) (v := ?_) rfl (by kernel_rfl) (by kernel_rfl) (by kernel_rfl) (fun _ _ _ h => h) (Or.inl ⟨by rfl, ?_⟩) (by assumption) ?_
        rotate_left
        · intro wq hSq
          obtain ⟨q0, q1, q2⟩ := HC.out _ hSq
          go_simp
          try with_reducible rfl
        simp only [Act.put, List.setIfInBounds_toArray, List.set_cons_zero, List.set_cons_succ, List.getElem_toArray, List.getElem_cons_zero, List.getElem_cons_succ]
        refine wpAnyH_take (i := 1) (v := ?_) rfl (by kernel_rfl) (by kernel_rfl) (by kernel_rfl) (fun _ _ _ h => h) (Or.inl ⟨by rfl, ?_⟩) (by assumption) ?_
        rotate_left
        · intro wq hSq
          skip
          go_simp
          try with_reducible rfl
        simp only [Act.put, List.setIfInBounds_toArray, List.set_cons_zero, List.set_cons_succ, List.getElem_toArray, List.getElem_cons_zero, List.getElem_cons_succ]
        refine wpAnyH_take (i := 2) (v := ?_) rfl (by kernel_rfl) (by kernel_rfl) (by kernel_rfl) (fun _ _ _ h => h) (Or.inl ⟨by rfl, ?_⟩) (by assumption) ?_
        rotate_left
        · intro wq hSq
          skip
          go_simp
          try with_reducible rfl
        simp only [Act.put, List.setIfInBounds_toArray, List.set_cons_zero, List.set_cons_succ, List.getElem_toArray, List.getElem_cons_zero, List.getElem_cons_succ]
        refine wpAnyH_take (i := 3) (v := ?_) rfl (by kernel_rfl) (by kernel_rfl) (by kernel_rfl) (fun _ _ _ h => h) (Or.inl ⟨by rfl, ?_⟩) (by assumption) ?_
        rotate_left
        · intro wq hSq
          skip
          go_simp
          try with_reducible rfl
        simp only [Act.put, List.setIfInBounds_toArray, List.set_cons_zero, List.set_cons_succ, List.getElem_toArray, List.getElem_cons_zero, List.getElem_cons_succ]
        refine wpAnyH_take (i := 4) (v := ?_) rfl (by kernel_rfl) (by kernel_rfl) (by kernel_rfl) (fun _ _ _ h => h) (Or.inl ⟨by rfl, ?_⟩) (by assumption) ?_
        rotate_left
        · intro wq hSq
          skip
          go_simp
          try with_reducible rfl
        simp only [Act.put, List.setIfInBounds_toArray, List.set_cons_zero, List.set_cons_succ, List.getElem_toArray, List.getElem_cons_zero, List.getElem_cons_succ]
        refine wpAnyH_take (i := 5) (v := ?_) rfl (by kernel_rfl) (by kernel_rfl) (by kernel_rfl) (fun _ _ _ h => h) (Or.inl ⟨by rfl, ?_⟩) (by assumption) ?_
        rotate_left
        · intro wq hSq
          obtain ⟨q0, q1⟩ := HCv.out _ hSq
          go_simp
          try with_reducible rfl
        simp only [Act.put, List.setIfInBounds_toArray, List.set_cons_zero, List.set_cons_succ, List.getElem_toArray, List.getElem_cons_zero, List.getElem_cons_succ]
        refine wpAnyH_take (i := 6) (v := ?_) rfl (by kernel_rfl) (by kernel_rfl) (by kernel_rfl) (fun _ _ _ h => h) (Or.inl ⟨by rfl, ?_⟩) (by assumption) ?_
        rotate_left
        · intro wq hSq
          skip
          go_simp
          try with_reducible rfl
        simp only [Act.put, List.setIfInBounds_toArray, List.set_cons_zero, List.set_cons_succ, List.getElem_toArray, List.getElem_cons_zero, List.getElem_cons_succ]
        refine wpAnyH_take (i := 7) (v := ?_) rfl (by kernel_rfl) (by kernel_rfl) (by kernel_rfl) (fun _ _ _ h => h) (Or.inl ⟨by rfl, ?_⟩) (by assumption) ?_
        rotate_left
        · intro wq hSq
          skip
          go_simp
          try with_reducible rfl
        simp only [Act.put, List.setIfInBounds_toArray, List.set_cons_zero, List.set_cons_succ, List.getElem_toArray, List.getElem_cons_zero, List.getElem_cons_succ]
        refine wpAnyH_take (i := 8) (v := ?_) rfl (by kernel_rfl) (by kernel_rfl) (by kernel_rfl) (fun _ _ _ h => h) (Or.inl ⟨by rfl, ?_⟩) (by assumption) ?_
        rotate_left
        · intro wq hSq
          skip
          go_simp
          try with_reducible rfl
        simp only [Act.put, List.setIfInBounds_toArray, List.set_cons_zero, List.set_cons_succ, List.getElem_toArray, List.getElem_cons_zero, List.getElem_cons_succ]
        refine wpAnyH_take (i := 9) (v := ?_) rfl (by kernel_rfl) (by kernel_rfl) (by kernel_rfl) (fun _ _ _ h => h) (Or.inl ⟨by rfl, ?_⟩) (by assumption) ?_
        rotate_left
        · intro wq hSq
          skip
          go_simp
          try with_reducible rfl
        simp only [Act.put, List.setIfInBounds_toArray, List.set_cons_zero, List.set_cons_succ, List.getElem_toArray, List.getElem_cons_zero, List.getElem_cons_succ]
        refine wpAnyH_take (i := 10) (v := ?_) rfl (by kernel_rfl) (by kernel_rfl) (by kernel_rfl) (fun _ _ _ h => h) (Or.inl ⟨by rfl, ?_⟩) (by assumption) ?_
        rotate_left
        · intro wq hSq
          skip
          go_simp
          try with_reducible rfl
        simp only [Act.put, List.setIfInBounds_toArray, List.set_cons_zero, List.set_cons_succ, List.getElem_toArray, List.getElem_cons_zero, List.getElem_cons_succ]
        refine wpAnyH_take (i := 11) (v := ?_) rfl (by kernel_rfl) (by kernel_rfl) (by kernel_rfl) (fun _ _ _ h => h) (Or.inl ⟨by rfl, ?_⟩) (by assumption) ?_
        rotate_left
        · intro wq hSq
          obtain ⟨q0, q1⟩ := HCv.out _ hSq
          go_simp
          try with_reducible rfl
        simp only [Act.put, List.setIfInBounds_toArray, List.set_cons_zero, List.set_cons_succ, List.getElem_toArray, List.getElem_cons_zero, List.getElem_cons_succ]
        refine wpAnyH_ready (rs := [12, 16]) (by kernel_rfl) (by simp) ?_
        refine AllReadyH.cons rfl (fun K hK => ?_) (AllReadyH.cons rfl (fun K hK => ?_) AllReadyH.nil)
        · go_simp
          refine (HGr.out _).mono ?_
          rintro e w4 ⟨rfl, hb4⟩
          have HHd := Lib.hid (hHeld.trans (hb4.mono hHeld.size))
          unfold Ls.v
          go_wp2_with fail
          refine hK.out _ _ HHd.out ?_
          clear hK K hHeld
          intro hHeld
          refine wpAnyH_take (i := 13) (v := ?_) rfl (by kernel_rfl) (by kernel_rfl) (by kernel_rfl) (fun _ _ _ h => h) (Or.inl ⟨by rfl, ?_⟩) (by assumption) ?_
          rotate_left
          · intro wq hSq
            skip
            go_simp
            try with_reducible rfl
          simp only [Act.put, List.setIfInBounds_toArray, List.set_cons_zero, List.set_cons_succ, List.getElem_toArray, List.getElem_cons_zero, List.getElem_cons_succ]
          refine wpAnyH_take (i := 14) (v := ?_) rfl (by kernel_rfl) (by kernel_rfl) (by kernel_rfl) (fun _ _ _ h => h) (Or.inl ⟨by rfl, ?_⟩) (by assumption) ?_
          rotate_left
          · intro wq hSq
            skip
            go_simp
            try with_reducible rfl
          simp only [Act.put, List.setIfInBounds_toArray, List.set_cons_zero, List.set_cons_succ, List.getElem_toArray, List.getElem_cons_zero, List.getElem_cons_succ]
          refine wpAnyH_take (i := 15) (v := ?_) rfl (by kernel_rfl) (by kernel_rfl) (by kernel_rfl) (fun _ _ _ h => h) (Or.inl ⟨by rfl, ?_⟩) (by assumption) ?_
          rotate_left
          · intro wq hSq
            skip
            go_simp
            try with_reducible rfl
          simp only [Act.put, List.setIfInBounds_toArray, List.set_cons_zero, List.set_cons_succ, List.getElem_toArray, List.getElem_cons_zero, List.getElem_cons_succ]
          refine wpAnyH_ready (rs := [16]) (by kernel_rfl) (by simp) ?_
          refine AllReadyH.cons rfl (fun K hK => ?_) AllReadyH.nil
          go_simp
          obtain ⟨wa, hwa⟩ : ∃ x, x = (w4).alloc (.cells #[.int .i64 0, .int .i64 0, .int .i64 0] 23) := ⟨_, rfl⟩
          rw [← hwa]
          have hba : Below (w4).heap.size w4 wa := by rw [hwa]; exact (Below.refl _ _).alloc (Nat.le_refl _) _
          have hze : wa.heap[(w4).heap.size]? = some (lsObj ⟨0, 0, 0⟩) := by rw [hwa]; exact heap_alloc_new _ _
          obtain ⟨b8, hb8⟩ : ∃ b, b = (w4).heap.size := ⟨_, rfl⟩
          rw [← hb8] at hze ⊢
          have hlo : wr.heap.size ≤ b8 := by have := hHeld.size; omega
          have HHd := Lib.hid (hHeld.trans (hba.mono hHeld.size))
          clear hwa hba hb8
          refine hK.out _ _ HHd.out ?_
          clear hK K hHeld
          intro hHeld
          have hz := hze
          have e0 := box_cell hz 0 _ rfl
          have e1 := box_cell hz 1 _ rfl
          have e2 := box_cell hz 2 _ rfl
          have f0 := box_free hz 0
          have f1 := box_free hz 1
          have f2 := box_free hz 2
          refine wpAnyH_ready (rs := [17]) (by kernel_rfl) (by simp) ?_
          refine AllReadyH.cons rfl (fun K hK => ?_) AllReadyH.nil
          go_simp
          have HSt := Lib.hid (set3_same b8 m ⟨0, 0, 0⟩ hz)
          have HHd := Lib.hid (set3_below b8 m hlo hHeld)
          refine hK.out _ _ HHd.out ?_
          clear hK K hHeld
          intro hHeld
          refine wpAnyH_take (i := 18) (v := ?_) rfl (by kernel_rfl) (by kernel_rfl) (by kernel_rfl) (fun _ _ _ h => h) (Or.inl ⟨by rfl, ?_⟩) (by assumption) ?_
          rotate_left
          · intro wq hSq
            skip
            go_simp
            try with_reducible rfl
          simp only [Act.put, List.setIfInBounds_toArray, List.set_cons_zero, List.set_cons_succ, List.getElem_toArray, List.getElem_cons_zero, List.getElem_cons_succ]
          refine wpAnyH_done (by kernel_rfl) ?_ _
          have HHe := Lib.hid hHeld
          clear hHeld e0 e1 e2 f0 f1 f2
          go_wp2
          go_meet
          refine ⟨b8, rfl, rfl, hlo, HHd.out, ?_⟩
          · have hbx := HW.out.b.on HHd.out
            refine ⟨hbx.b, fun p hp => ?_⟩
            rcases List.mem_cons.1 hp with rfl | hp
            · exact ⟨Nat.le_trans HW.out.b.b.size hlo, HSt.out⟩
            · exact hbx.at_ p hp
        · go_simp
          obtain ⟨wa, hwa⟩ : ∃ x, x = (wd).alloc (.cells #[.int .i64 0, .int .i64 0, .int .i64 0] 23) := ⟨_, rfl⟩
          rw [← hwa]
          have hba : Below (wd).heap.size wd wa := by rw [hwa]; exact (Below.refl _ _).alloc (Nat.le_refl _) _
          have hze : wa.heap[(wd).heap.size]? = some (lsObj ⟨0, 0, 0⟩) := by rw [hwa]; exact heap_alloc_new _ _
          obtain ⟨b8, hb8⟩ : ∃ b, b = (wd).heap.size := ⟨_, rfl⟩
          rw [← hb8] at hze ⊢
          have hlo : wr.heap.size ≤ b8 := by have := hHeld.size; omega
          have HHd := Lib.hid (hHeld.trans (hba.mono hHeld.size))
          clear hwa hba hb8
          refine hK.out _ _ HHd.out ?_
          clear hK K hHeld
          intro hHeld
          refine wpAnyH_ready (rs := [12]) (by kernel_rfl) (by simp) ?_
          refine AllReadyH.cons rfl (fun K hK => ?_) AllReadyH.nil
          go_simp
          have hb8lt := box_lt hze
          refine (HGr.out _).mono ?_
          rintro e w4 ⟨rfl, hb4⟩
          have HHd := Lib.hid (hHeld.trans (hb4.mono hHeld.size))
          unfold Ls.v
          go_wp2_with fail
          refine hK.out _ _ HHd.out ?_
          clear hK K hHeld
          intro hHeld
          refine wpAnyH_take (i := 13) (v := ?_) rfl (by kernel_rfl) (by kernel_rfl) (by kernel_rfl) (fun _ _ _ h => h) (Or.inl ⟨by rfl, ?_⟩) (by assumption) ?_
          rotate_left
          · intro wq hSq
            skip
            go_simp
            try with_reducible rfl
          simp only [Act.put, List.setIfInBounds_toArray, List.set_cons_zero, List.set_cons_succ, List.getElem_toArray, List.getElem_cons_zero, List.getElem_cons_succ]
          refine wpAnyH_take (i := 14) (v := ?_) rfl (by kernel_rfl) (by kernel_rfl) (by kernel_rfl) (fun _ _ _ h => h) (Or.inl ⟨by rfl, ?_⟩) (by assumption) ?_
          rotate_left
          · intro wq hSq
            skip
            go_simp
            try with_reducible rfl
          simp only [Act.put, List.setIfInBounds_toArray, List.set_cons_zero, List.set_cons_succ, List.getElem_toArray, List.getElem_cons_zero, List.getElem_cons_succ]
          refine wpAnyH_take (i := 15) (v := ?_) rfl (by kernel_rfl) (by kernel_rfl) (by kernel_rfl) (fun _ _ _ h => h) (Or.inl ⟨by rfl, ?_⟩) (by assumption) ?_
          rotate_left
          · intro wq hSq
            skip
            go_simp
            try with_reducible rfl
          simp only [Act.put, List.setIfInBounds_toArray, List.set_cons_zero, List.set_cons_succ, List.getElem_toArray, List.getElem_cons_zero, List.getElem_cons_succ]
          have hz := (hb4.block b8 hb8lt).trans hze
          have e0 := box_cell hz 0 _ rfl
          have e1 := box_cell hz 1 _ rfl
          have e2 := box_cell hz 2 _ rfl
          have f0 := box_free hz 0
          have f1 := box_free hz 1
          have f2 := box_free hz 2
          refine wpAnyH_ready (rs := [17]) (by kernel_rfl) (by simp) ?_
          refine AllReadyH.cons rfl (fun K hK => ?_) AllReadyH.nil
          go_simp
          have HSt := Lib.hid (set3_same b8 m ⟨0, 0, 0⟩ hz)
          have HHd := Lib.hid (set3_below b8 m hlo hHeld)
          refine hK.out _ _ HHd.out ?_
          clear hK K hHeld
          intro hHeld
          refine wpAnyH_take (i := 18) (v := ?_) rfl (by kernel_rfl) (by kernel_rfl) (by kernel_rfl) (fun _ _ _ h => h) (Or.inl ⟨by rfl, ?_⟩) (by assumption) ?_
          rotate_left
          · intro wq hSq
            skip
            go_simp
            try with_reducible rfl
          simp only [Act.put, List.setIfInBounds_toArray, List.set_cons_zero, List.set_cons_succ, List.getElem_toArray, List.getElem_cons_zero, List.getElem_cons_succ]
          refine wpAnyH_done (by kernel_rfl) ?_ _
          have HHe := Lib.hid hHeld
          clear hHeld e0 e1 e2 f0 f1 f2
          go_wp2
          go_meet
          refine ⟨b8, rfl, rfl, hlo, HHd.out, ?_⟩
          · have hbx := HW.out.b.on HHd.out
            refine ⟨hbx.b, fun p hp => ?_⟩
            rcases List.mem_cons.1 hp with rfl | hp
            · exact ⟨Nat.le_trans HW.out.b.b.size hlo, HSt.out⟩
            · exact hbx.at_ p hp
      case rest =>
        obtain ⟨b8, rfl, rfl, hlo, hbw, hbx⟩ := hcut
        have HBx := Lib.hid hbx
        have HOw := Lib.hid (HW.out.o.below hbw)
        have HN8 : Hid (slBlk A ≠ some b8) := Lib.hid (fun h => by have := (HW.out.o.blk_lt h).2; omega)
        have HN5 := Lib.hid HW.out.ne
        obtain ⟨w1c, w2c, w3c⟩ := HVc.out _ HBx.out.b
        obtain ⟨e0, e1, e2⟩ := HBx.out.cells b8 m (by simp)
        have HRc := Lib.hid (HR.out.now HBx.out.b)
        have hb8 := (HBx.out.lt b8 m (by simp)).2
        have hb5 := (HBx.out.lt b5 x (by simp)).2
        clear hbw hbx v1 v2 v3 HC HCv HGr HW hlo
        go_upto_region 14 with fail
        go_cut [103] (fun z wx => z = .bool (decide (er = 0) && decide (m.epoch = ow.length + 1)) ∧ wc = wx)
        case first => as_aux_lemma =>
          by_cases q1 : er = 0
          · have q2 : (er == 0) = true := by simp [q1]
            have q4 : decide (er = 0) = true := by simp [q1]
            clear q1
            by_cases q5 : m.epoch = ow.length + 1
            · have q6 : (m.epoch == (ow.length : Int) + 1) = true := by simp [q5]
              have q7 : decide (m.epoch = (ow.length : Int) + 1) = true := by simp [q5]
              clear q5
              go_wp2_with fail
              go_meet
              exact ⟨by rw [q4, q7]; simp [q6], rfl⟩
            · have q6 : (m.epoch == (ow.length : Int) + 1) = false := by simpa using q5
              have q7 : decide (m.epoch = (ow.length : Int) + 1) = false := by simpa using q5
              clear q5
              go_wp2_with fail
              go_meet
              exact ⟨by rw [q4, q7]; simp [q6], rfl⟩
          · have q2 : (er == 0) = false := by simpa using q1
            have q4 : decide (er = 0) = false := by simpa using q1
            clear q1
            go_wp2_with fail
            go_meet
            exact ⟨by rw [q4]; simp [q2], rfl⟩
        case rest =>
          obtain ⟨rfl, rfl⟩ := hcut
          obtain ⟨bq, hbq⟩ : ∃ q, q = (decide (er = 0) && decide (m.epoch = ow.length + 1)) := ⟨_, rfl⟩
          rw [← hbq]
          have HBq := Lib.hid hbq.symm
          clear hbq
          go_upto_if 103 with fail
          go_cut [6] (fun o wx => OneB w wx x m er v.who now' v.span b8 b5 ow.length o)
          case first => as_aux_lemma =>
            cases bq
            rotate_left
            · have HS := Lib.hid (HCn.out (by have := HBq.out; simp at this; exact this.2) (by have := HBq.out; simp at this; exact this.1))
              go_wp2_with (first
                | (at_builtin; refine wp_append_l rfl (.tmp 104) (.tmp 110) rfl slInt intLay w.heap.size (xs := ow) (ys := [v.who]) rfl rfl (HOw.out.alloc _) rfl rfl (RdL.one wc v.who _ _ rfl _ rfl) (by simp; omega) (by have := HBx.out.b.size; simp; omega) ?_; intro A3 c3 w6 hown3 hg3 hb3 hat3; have HO3 := Lib.hid hown3; have HG3 := Lib.hid hg3; have HA3 := Lib.hid hat3; clear hown3 hg3 hb3 hat3)
                | fail)
              go_meet
              have hz : (wc.alloc (.cells #[.int .i64 v.who] 3)).heap.size = wc.heap.size + 1 := by simp
              have hBa := HBx.out.on ((Below.refl wc.heap.size wc).alloc (Nat.le_refl _) (.cells #[.int .i64 v.who] 3))
              have hgo := HG3.out
              have hat := HA3.out
              rw [own_blk] at hgo hat
              rw [own_blk] at hat
              refine OneB.mk HS.out ⟨hBa.b.grown hgo (by have := HBx.out.b.size; omega) (fun j hj => (HOw.out.blk_lt hj).1), fun p hp => ?_⟩ HO3.out ?_ (by simp) (by simp)
              · obtain ⟨z1, z2⟩ := hBa.at_ p hp
                refine ⟨z1, (hgo.block p.1 (box_lt z2) (fun e => ?_)).trans z2⟩
                rcases List.mem_cons.1 hp with rfl | hp
                · exact HN8.out e.symm
                · simp only [List.mem_singleton] at hp
                  subst hp
                  exact HN5.out e.symm
              · intro e
                rcases hat with h | h
                · exact HN5.out (h ▸ e)
                · rw [h] at e
                  have := Option.some.inj e
                  omega
            · have HS := Lib.hid (HCs.out (by
                have h3 := HBq.out
                simp at h3
                by_cases h : er = 0
                · exact .inl (h3 h)
                · exact .inr h))
              go_wp2_with fail
              go_meet
              exact OneB.mk HS.out HBx.out HOw.out HN5.out (by simp) rfl
          case rest =>
            obtain ⟨os, A', c', rfl, hos, hI', hcase, hbx, hown, hne⟩ := hcut
            have HC3 := Lib.hid hcase
            have HI3 := Lib.hid hI'
            have HW3 := Lib.hid hown
            have HBx3 := Lib.hid hbx
            have HNe3 := Lib.hid hne
            clear hcase hI' hown hbx hne HCs HCn HOw HN8 HN5 HRc w1c w2c w3c e0 e1 e2 HBx hb8 hb5 HBq HAs HI
            have hme : m.epoch = (os.length : Int) + 1 := by have := HI3.out.e; simp at this; exact this
            have HMe := Lib.hid hme
            have HCo : Hid (∃ bo oo, A' = some ⟨bo, oo, none⟩ ∧ bo < wc.heap.size ∧ wc.cell? ⟨bo, oo + os.length, none⟩ = some (.int .i64 m.who)) := Lib.hid (by
              obtain ⟨bo, oo, h1, h2, h3⟩ := rd_int' (k := os.length) (HW3.out.rd intLay) (by simp)
              refine ⟨bo, oo, h1, h2, ?_⟩
              rw [h3]; simp)
            obtain ⟨bo, oo, hAo, hbo, hco⟩ := HCo.out
            subst hAo
            have HOc := Lib.hid (fun wq (h : Below wc.heap.size wc wq) => (h.cell (p := ⟨bo, oo + os.length, none⟩) hbo).trans hco)
            have HC8 := Lib.hid (fun wq (h : Below wc.heap.size wc wq) => (HBx3.out.on h).cells b8 m (by simp))
            have HC5 := Lib.hid (fun wq (h : Below wc.heap.size wc wq) => (HBx3.out.on h).cells b5 x (by simp))
            have HCv := Lib.hid (fun wq (h : Below wc.heap.size wc wq) => HVc.out wq (HBx3.out.b.trans (h.mono HBx3.out.b.size)))
            clear hme hbo hco HCo
            go_upto_if 113 with fail
            go_cut [] (fun wx => Below wc.heap.size wc wx)
            case first => as_aux_lemma =>
              rcases HC3.out with ⟨rfl, _⟩ | ⟨rfl, p2, p3, p4, p5⟩
              · go_wp2_with fail
                go_meet
                exact Below.refl _ _
              · have HMy : Hid (∀ w, Calls Tryd.prog 11 #[.agg #[.int .i64 v.who, .int .i64 ((os.length : Int) + 1), .int .i64 m.till], .int .i64 v.who, .int .i64 ((os.length : Int) + 1), .int .i64 now'] w fun e w' => e = .returned (.int .i64 0) ∧ Below w.heap.size w w') := Lib.hid (fun w => by
                  have h := may_any m m.who m.epoch now' w
                  rw [(may_ok HI3.out.f).2 ⟨by omega, rfl, rfl, by omega⟩] at h
                  unfold Ls.v at h
                  rw [HMe.out, p2] at h
                  exact h)
                have HD8 : Hid (∀ wq, Below wc.heap.size wc wq → wq.cell? ⟨b8, 0, none⟩ = some (.int .i64 v.who) ∧ wq.cell? ⟨b8, 1, none⟩ = some (.int .i64 ((os.length : Int) + 1)) ∧ wq.cell? ⟨b8, 2, none⟩ = some (.int .i64 m.till)) := Lib.hid (fun wq h => by
                  have := HC8.out wq h
                  rw [HMe.out, p2] at this
                  exact this)
                have HDo : Hid (∀ wq, Below wc.heap.size wc wq → wq.cell? ⟨bo, oo + os.length, none⟩ = some (.int .i64 v.who)) := Lib.hid (fun wq h => by rw [← p2]; exact HOc.out wq h)
                have t1 : decide (m.till < now' + v.span) = false := by simp; omega
                have t2 : decide ((os.length : Int) + 1 < x.epoch) = false := by have := HMe.out; simp; omega
                have s1 : IntKind.i64.wrap (now' + v.span) = now' + v.span := by rw [IntKind.wrap_i64]; omega
                have s2 : IntKind.i64.wrap ((os.length : Int) + 1 - 1) = os.length := by rw [IntKind.wrap_i64]; omega
                have s3 : IntKind.i64.wrap (os.length : Int) = os.length := by rw [IntKind.wrap_i64]; omega
                have s4 : (os.length : Int) < (os.length : Int) + 1 := by omega
                clear p2 p3 p4 p5
                go_wp2_with fail
                refine wp_region_det (S := (fun w' => Below wc.heap.size wc w')) (by kernel_rfl) (by kernel_rfl) ((Below.refl _ _).drew) ?_
                rw [List.toList_toArray]
                repeat (first
                    | ((with_reducible show Det _ _ _ _ (Oper.mk _ (Op.call (Call.mk (Callee.value (Operand.func 11)) _ _)) _ _ _ _ :: _) _); refine Det.step (.int .i64 0) (by rfl) (fun wq hSq K hK => ?_) ?_; (· (go_simp; refine (HMy.out _).mono ?_; rintro e4 w4 ⟨rfl, hb4⟩; go_wp2_with fail; refine hK.out _ _ (hSq.trans (hb4.mono hSq.size)) ?_; rfl)); simp only [Act.put, List.setIfInBounds_toArray, List.set_cons_zero, List.set_cons_succ, List.getElem_toArray, List.getElem_cons_zero, List.getElem_cons_succ])
                    | (refine Det.skip (by rfl) ?_; simp only [Act.put, List.setIfInBounds_toArray, List.set_cons_zero, List.set_cons_succ, List.getElem_toArray, List.getElem_cons_zero, List.getElem_cons_succ])
                    | (refine Det.read (v := ?_) (by rfl) ?_ ?_; rotate_left; (· (intro wq hSq; obtain ⟨q0, q1, q2⟩ := HD8.out _ hSq; obtain ⟨q3, q4, q5⟩ := HC5.out _ hSq; obtain ⟨q6, q7, q8⟩ := HCv.out _ hSq; have q9 := HDo.out _ hSq; go_simp; try with_reducible rfl)); simp only [Act.put, List.setIfInBounds_toArray, List.set_cons_zero, List.set_cons_succ, List.getElem_toArray, List.getElem_cons_zero, List.getElem_cons_succ])
                    | fail)
                refine Det.done fun wz hz => ?_
                go_wp2
                go_meet
                exact hz
            case rest =>
              have HB4 := Lib.hid hcut
              obtain ⟨wp, hwp⟩ : ∃ x, x = wc := ⟨_, rfl⟩
              have HBx4 := Lib.hid (HBx3.out.on HB4.out)
              have HW4 := Lib.hid (HW3.out.below HB4.out)
              clear hwp hcut HB4 HBx3 HW3 HC8 HC5 HCv HOc
              have HC8 := Lib.hid (fun wq (h : Below wc.heap.size wc wq) => (HBx4.out.on h).cells b8 m (by simp))
              have HC5 := Lib.hid (fun wq (h : Below wc.heap.size wc wq) => (HBx4.out.on h).cells b5 x (by simp))
              have HCv := Lib.hid (fun wq (h : Below wc.heap.size wc wq) => HVc.out wq (HBx4.out.b.trans (h.mono HBx4.out.b.size)))
              go_upto_region 19 with fail
              go_cut [199] (fun z wx => z = .bool false ∧ Below wc.heap.size wc wx)
              case first => as_aux_lemma =>
                rcases HC3.out with ⟨rfl, p1, p2, p3, p4⟩ | ⟨rfl, _⟩
                · have HMz : Hid (∀ w, Calls Tryd.prog 11 #[.agg #[.int .i64 x.who, .int .i64 x.epoch, .int .i64 x.till], .int .i64 x.who, .int .i64 x.epoch, .int .i64 now'] w fun e w' => e = .returned (.int .i64 0) ∧ Below w.heap.size w w') := Lib.hid (fun w => by
                    have h := may_any x x.who x.epoch now' w
                    rw [(may_ok (p1 ▸ HI3.out.f)).2 ⟨by omega, rfl, rfl, p4⟩] at h
                    exact h)
                  have HD8 : Hid (∀ wq, Below wc.heap.size wc wq → wq.cell? ⟨b8, 0, none⟩ = some (.int .i64 x.who) ∧ wq.cell? ⟨b8, 1, none⟩ = some (.int .i64 x.epoch) ∧ wq.cell? ⟨b8, 2, none⟩ = some (.int .i64 x.till)) := Lib.hid (fun wq h => by
                    have := HC8.out wq h
                    rw [p1] at this
                    exact this)
                  have t1 : (x.who == v.who) = false := by simpa using p2
                  clear p1 p2 p3 p4
                  go_wp2_with fail
                  refine wp_region_det (S := (fun w' => Below wc.heap.size wc w')) (by kernel_rfl) (by kernel_rfl) ((Below.refl _ _).drew) ?_
                  rw [List.toList_toArray]
                  repeat (first
                      | ((with_reducible show Det _ _ _ _ (Oper.mk _ (Op.call (Call.mk (Callee.value (Operand.func 11)) _ _)) _ _ _ _ :: _) _); refine Det.step (.int .i64 0) (by rfl) (fun wq hSq K hK => ?_) ?_; (· (go_simp; refine (HMz.out _).mono ?_; rintro e4 w4 ⟨rfl, hb4⟩; go_wp2_with fail; refine hK.out _ _ (hSq.trans (hb4.mono hSq.size)) ?_; rfl)); simp only [Act.put, List.setIfInBounds_toArray, List.set_cons_zero, List.set_cons_succ, List.getElem_toArray, List.getElem_cons_zero, List.getElem_cons_succ])
                      | (refine Det.skip (by rfl) ?_; simp only [Act.put, List.setIfInBounds_toArray, List.set_cons_zero, List.set_cons_succ, List.getElem_toArray, List.getElem_cons_zero, List.getElem_cons_succ])
                      | (refine Det.read (v := ?_) (by rfl) ?_ ?_; rotate_left; (· (intro wq hSq; obtain ⟨q0, q1, q2⟩ := HD8.out _ hSq; obtain ⟨q3, q4, q5⟩ := HC5.out _ hSq; obtain ⟨q6, q7, q8⟩ := HCv.out _ hSq; go_simp; try with_reducible rfl)); simp only [Act.put, List.setIfInBounds_toArray, List.set_cons_zero, List.set_cons_succ, List.getElem_toArray, List.getElem_cons_zero, List.getElem_cons_succ])
                      | fail)
                  refine Det.done fun wz hz => ?_
                  go_wp2
                  go_meet
                  exact ⟨by simp, hz⟩
                · go_wp2_with fail
                  refine wp_region_det (S := (fun w' => Below wc.heap.size wc w')) (by kernel_rfl) (by kernel_rfl) ((Below.refl _ _).drew) ?_
                  rw [List.toList_toArray]
                  repeat (first
                      | (refine Det.skip (by rfl) ?_; simp only [Act.put, List.setIfInBounds_toArray, List.set_cons_zero, List.set_cons_succ, List.getElem_toArray, List.getElem_cons_zero, List.getElem_cons_succ])
                      | (refine Det.read (v := ?_) (by rfl) ?_ ?_; rotate_left; (· (intro wq hSq; skip; go_simp; try with_reducible rfl)); simp only [Act.put, List.setIfInBounds_toArray, List.set_cons_zero, List.set_cons_succ, List.getElem_toArray, List.getElem_cons_zero, List.getElem_cons_succ])
                      | fail)
                  refine Det.done fun wz hz => ?_
                  go_wp2
                  go_meet
                  exact ⟨by simp, hz⟩
              case rest =>
                obtain ⟨rfl, hcut⟩ := hcut
                have HBx5 := Lib.hid (HBx4.out.on hcut)
                have HW5 := Lib.hid (HW4.out.below hcut)
                clear hcut HBx4 HW4 HC8 HC5 HCv
                obtain ⟨e0, e1, e2⟩ := HBx5.out.cells b8 m (by simp)
                obtain ⟨z0, z1, z2⟩ := HBx5.out.cells b5 x (by simp)
                have k0 := HBx5.out.free b5 x (by simp) 0
                have k1 := HBx5.out.free b5 x (by simp) 1
                have k2 := HBx5.out.free b5 x (by simp) 2
                go_upto_region 21 with fail
                go_cut [] (fun wx => OneW w wx b5 m (some ⟨bo, oo, none⟩) c' (os ++ [m.who]))
                case first => as_aux_lemma =>
                  go_wp2_with fail
                  go_meet
                  exact ⟨(HBx5.out.put b5 m x (by simp)).sub (fun p hp => by simp only [List.mem_singleton] at hp; subst hp; simp), HW5.out.turn (fun i hi _ => set3_other b5 m i (fun e => HNe3.out (by rw [← e]; exact hi))), HNe3.out⟩
                case rest =>
                  have HW6 := Lib.hid hcut
                  clear hcut HBx5 HW5 e0 e1 e2 z0 z1 z2 k0 k1 k2 HNe3 HVc
                  go_wp2_with fail
                  go_loopw [10, 11] (fun a q wr => ∃ (n u : Nat), a = .int .i64 n ∧ q = .int .i64 u ∧ n ≤ 1 ∧ u ≤ 6 ∧ (n = 1 → m.who < u) ∧ OneW w wr b5 m (some ⟨bo, oo, none⟩) c' (os ++ [m.who])) (fun _ q _ => 6 - (intOf q).toNat)
                  case atStart => exact ⟨0, 0, rfl, rfl, by omega, by omega, by omega, HW6.out⟩
                  case round =>
                    obtain ⟨n, u, rfl, rfl, hn1, hu6, hlw, hW⟩ := hrel
                    have HW7 := Lib.hid hW
                    have HLw := Lib.hid hlw
                    clear hW hlw HW6
                    by_cases hu : u ≤ 5
                    · have hub : decide ((u : Int) ≤ 5) = true := by simp; omega
                      go_wp2_with fail
                      go_loopw [10, 12] (fun a q wr => ∃ (n j : Nat), a = .int .i64 n ∧ q = .int .i64 j ∧ n ≤ 1 ∧ j ≤ os.length + 3 ∧ (n = 1 → m.who < u ∨ (m.who = u ∧ m.epoch < j)) ∧ OneW w wr b5 m (some ⟨bo, oo, none⟩) c' (os ++ [m.who])) (fun _ q _ => os.length + 3 - (intOf q).toNat)
                      case atStart => exact ⟨n, 0, rfl, rfl, hn1, by omega, fun h => .inl (HLw.out h), HW7.out⟩
                      case round =>
                        obtain ⟨n2, j, rfl, rfl, hn2, hj, hlx, hWx⟩ := hrel
                        have HW8 := Lib.hid hWx
                        have HLx := Lib.hid hlx
                        clear hWx hlx HW7
                        by_cases hj2 : j ≤ os.length + 2
                        · obtain ⟨z0, z1, z2⟩ := HW8.out.b.cells b5 m (by simp)
                          go_wp2_with fail
                          obtain ⟨mv, hmv⟩ : ∃ q, q = mayF m u j now' := ⟨_, rfl⟩
                          have hmy := fun w => may_any m u j now' w
                          rw [← hmv] at hmy
                          refine (hmy _).mono ?_
                          rintro e w9 ⟨rfl, hb9⟩
                          have HW9 := Lib.hid (HW8.out.on hb9)
                          have HMv := Lib.hid hmv.symm
                          clear hb9 z0 z1 z2 hmy hmv
                          by_cases hok : mv = 0
                          · as_aux_lemma =>
                              have HM := Lib.hid ((may_ok HI3.out.f).1 (HMv.out.trans hok))
                              have hje : j = os.length + 1 := by have := HM.out; have := HMe.out; omega
                              have hn0 : n2 = 0 := by
                                have h1 := HM.out
                                by_cases h : n2 = 1
                                · have := HLx.out h; omega
                                · omega
                              have hok2 : (mv == 0) = true := by simp [hok]
                              clear hok
                              subst hje
                              subst hn0
                              obtain ⟨b', o', ha1, ha2, ha3⟩ := rd_int' (k := os.length) (HW9.out.o.rd intLay) (by simp)
                              cases ha1
                              have hco : w9.cell? ⟨bo, oo + os.length, none⟩ = some (.int .i64 u) := by rw [ha3, ← HM.out.2.1]; simp
                              have hmx : max (os.length : Int) 0 = os.length := ar_d os.length
                              have HRb : Hid (m.epoch < ((os.length + 2 : Nat) : Int)) := Lib.hid (ar_c HM.out.2.2.1)
                              have HRa : Hid (os.length + 2 ≤ os.length + 3) := Lib.hid (Nat.le_succ _)
                              clear ha2 ha3
                              go_wp2_with fail
                              go_roundw
                              case rel => exact ⟨1, os.length + 2, by go_num, by go_num, Nat.le_refl _, HRa.out, fun _ => .inr ⟨HM.out.2.1, HRb.out⟩, HW9.out⟩
                              case measure => simp [intOf]; omega
                          · as_aux_lemma =>
                              have hok2 : (mv == 0) = false := by simpa using hok
                              have HRa : Hid (j + 1 ≤ os.length + 3) := Lib.hid (ar_a hj2)
                              have HRb : Hid (n2 = 1 → m.who < u ∨ (m.who = u ∧ m.epoch < ((j + 1 : Nat) : Int))) := Lib.hid (fun h => by
                                rcases HLx.out h with h1 | h1
                                · exact .inl h1
                                · exact .inr ⟨h1.1, ar_b h1.2⟩)
                              clear hok HMv HLw
                              go_wp2_with fail
                              go_roundw
                              case rel => exact ⟨n2, j + 1, rfl, by go_num, hn2, HRa.out, HRb.out, HW9.out⟩
                              case measure => simp [intOf]; omega
                        · as_aux_lemma =>
                            go_wp2_with fail
                            go_roundw
                            case rel => exact ⟨n2, u + 1, rfl, by go_num, hn2, by omega, fun h => by (rcases HLx.out h with h1 | h1 <;> omega), HW8.out⟩
                            case measure => simp [intOf]; omega
                    · as_aux_lemma =>
                        have y1 : decide ((1 : Int) < n) = false := by simp; omega
                        have y2 : decide (1 < n) = false := by simp; omega
                        go_wp2_with fail
                        go_roundw
                        case rel => exact ⟨k + 1, m, os ++ [m.who], some ⟨bo, oo, none⟩, c', now', by omega, by go_num, rfl, by simp, HI3.out, by omega, by simp; omega, HW7.out⟩
                        case measure => simp [intOf]; omega
    · go_wp2_with fail
      go_ret
      exact ⟨rfl, HW.out.b.b⟩
end Go.Proofs.YtoibgenhbpppdaaDoor
