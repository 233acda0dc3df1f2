/- The walk of TargetDrops. -/
import Derived.Test.YtlhidlaoecjnpaaTgJ
namespace Go.Proofs.Ytlhidlaoecjnpaa
open Go.RowKit

theorem rightGo_iff : ∀ (xs pre : List Pair), rightGo pre xs = true ↔ (∀ p ∈ xs, validP p = true) ∧ (∀ p ∈ xs, ∀ q ∈ pre, excl p q = false) ∧ xs.Pairwise (fun q p => excl p q = false)
  | [], pre => by simp [rightGo]
  | x :: r, pre => by
    rw [rightGo, Bool.and_eq_true, Bool.and_eq_true, rightGo_iff r (pre ++ [x]), List.all_eq_true]
    simp only [List.mem_append, List.pairwise_cons, List.mem_cons, forall_eq_or_imp, Bool.not_eq_true', List.not_mem_nil, or_false]
    constructor
    · rintro ⟨⟨h1, h2⟩, h3, h4, h5⟩
      exact ⟨⟨h1, h3⟩, ⟨h2, fun p hp q hq => h4 p hp q (.inl hq)⟩, fun p hp => h4 p hp x (.inr rfl), h5⟩
    · rintro ⟨⟨h1, h3⟩, ⟨h2, h4⟩, h5, h6⟩
      refine ⟨⟨h1, h2⟩, h3, fun p hp q hq => ?_, h6⟩
      rcases hq with hq | rfl
      · exact h4 p hp q hq
      · exact h5 p hp
theorem rightB_iff (xs : List Pair) : rightB xs = true ↔ (∀ p ∈ xs, validP p = true) ∧ xs.Pairwise (fun q p => excl p q = false) := by
  rw [rightB, rightGo_iff]
  simp
theorem rightB_drop (net ev : Int) (xs : List Pair) (h : rightB xs = true) : rightB (dropF net ev xs) = true := by
  rw [rightB_iff] at h ⊢
  exact ⟨fun p hp => h.1 p (List.mem_filter.1 hp).1, h.2.filter _⟩
theorem drop_drop (a b c d : Int) (xs : List Pair) : dropF a b (dropF c d xs) = dropF c d (dropF a b xs) := by
  unfold dropF
  rw [List.filter_filter, List.filter_filter]
  congr 1
  funext p
  exact Bool.and_comm _ _
theorem drop_twice (a b : Int) (xs : List Pair) : dropF a b (dropF a b xs) = dropF a b xs := by
  unfold dropF
  rw [List.filter_filter]
  congr 1
  funext p
  exact Bool.and_self _
theorem drop_at (net ev : Int) (xs : List Pair) (k : Nat) {p : Pair} (h : xs[k]? = some p) (hn : (p.net == net && p.ev == ev) = false) : (dropF net ev xs)[(dropF net ev (xs.take k)).length]? = some p := by
  obtain ⟨hk, rfl⟩ := List.getElem?_eq_some_iff.1 h
  have : dropF net ev xs = dropF net ev (xs.take k) ++ dropF net ev (xs.drop k) := by
    unfold dropF
    rw [← List.filter_append, List.take_append_drop]
  rw [this, List.getElem?_append_right (Nat.le_refl _), Nat.sub_self, List.drop_eq_getElem_cons hk, dropF, List.filter_cons_of_pos (by rw [hn]; rfl)]
  rfl

set_option maxRecDepth 100000 in
set_option maxHeartbeats 2000000 in
theorem drops_walk (xs : List Pair) (A : Option Addr) (c : Nat) (net ev other second : Int) (w : World) (hr : RdP w w.heap.size A xs) (hm : xs.length ≤ 9223372036854775807) (hwf : ∀ q ∈ xs, q.wf) :
    Calls Try.prog 6 #[.slice A xs.length c, .int .i64 net, .int .i64 ev, .int .i64 other, .int .i64 second] w fun e w' => e = .returned (.bool true) ∧ Below w.heap.size w w' := by
  have HWF := Lib.hid hwf
  clear hwf
  by_cases hlen : 40 < xs.length
  · go_enter Try.func6, Try.ntmps6
    go_wp2_with (go_at_call 8; refine (small_any _).mono ?_; rintro e w1 ⟨rfl, b1⟩)
    go_ret
    exact ⟨rfl, b1⟩
  · have hle : xs.length ≤ 40 := by omega
    clear hlen
    have hld : (dropF net ev xs).length ≤ 40 := Nat.le_trans (List.length_filter_le _ _) hle
    have hld2 : (dropF other second xs).length ≤ 40 := Nat.le_trans (List.length_filter_le _ _) hle
    have hld3 : (dropF other second (dropF net ev xs)).length ≤ 40 := Nat.le_trans (List.length_filter_le _ _) hld
    have hld4 : (dropF net ev (dropF net ev xs)).length ≤ 40 := Nat.le_trans (List.length_filter_le _ _) hld
    go_enter Try.func6, Try.ntmps6
    go_wp2_with fail
    refine (small_any _).mono ?_; rintro e w1 ⟨rfl, b1⟩
    have hr1 := hr.now b1
    go_wp2_with fail
    refine (pdrop_any xs A c net ev _ hr1 (by omega)).mono ?_; rintro e w2 ⟨A2, c2, rfl, o2, b2⟩
    have B2 := b1.trans (b2.mono b1.size)
    have r2 := o2.rd layP
    have O2 := Lib.hid o2
    clear hr1 b1 b2 o2
    have DA := fun k p h hn => drop_at net ev xs k (p := p) h hn
    have DS := fun k p h => dropF_snoc net ev xs k (p := p) h
    have DA := Lib.hid DA
    have DS := Lib.hid DS
    have DD := Lib.hid (show (dropF net ev (xs.take xs.length)).length = (dropF net ev xs).length by rw [List.take_of_length_le (Nat.le_refl _)])
    have HC := Lib.hid (drop_drop net ev other second xs)
    have HT := Lib.hid (drop_twice net ev xs)
    have HRD := Lib.hid (rightB_drop net ev xs)
    have hwd : ∀ q ∈ dropF net ev xs, q.wf := fun q hq => HWF.out q (List.mem_filter.1 hq).1
    have HWD := Lib.hid hwd
    clear hwd
    generalize hX : dropF net ev xs = X at *
    have HX := Lib.hid hX
    clear hX
    go_wp2
    go_loopw [13, 14] (fun sa si wr => ∃ k : Nat, k ≤ xs.length ∧ si = .int .i64 k ∧ sa = .int .i64 ((dropF net ev (xs.take k)).length : Nat) ∧ Below w2.heap.size w2 wr) (fun _ i _ => xs.length - (intOf i).toNat)
    case atStart => exact ⟨0, Nat.zero_le _, rfl, rfl, Below.refl _ _⟩
    case round =>
      obtain ⟨k, hk, rfl, rfl, hb⟩ := hrel
      by_cases hlt : k < xs.length
      · obtain ⟨bb, off, p, rfl, hbb, hp, d0, d1, d2, d3⟩ := RdP_at (hr.now (B2.trans (hb.mono B2.size))) hlt
        have hs := DS.out k p hp
        have hd := dropF_len net ev xs k
        by_cases hn : (p.net == net && p.ev == ev) = true
        · have h1 : p.net = net := by simp at hn; exact hn.1
          have h2 : p.ev = ev := by simp at hn; exact hn.2
          rw [if_pos hn, List.append_nil] at hs
          have HS := Lib.hid hs
          clear hs hn hp
          have t1 : (p.net == net) = true := by simp [h1]
          have t2 : (p.ev == ev) = true := by simp [h2]
          clear h1 h2
          generalize hg : dropF net ev (xs.take k) = D at *
          have HG := Lib.hid hg
          clear hg
          go_wp2
          go_roundw
          case rel => exact ⟨k + 1, by omega, by go_num, by rw [HS.out], hb⟩
          case measure => simp [intOf]; omega
        · have hn' : (p.net == net && p.ev == ev) = false := by simpa using hn
          have hat := DA.out k p hp hn'
          rw [if_neg hn] at hs
          generalize hg : dropF net ev (xs.take k) = D at *
          have HG := Lib.hid hg
          have HS := Lib.hid hs
          have hlD : D.length < X.length := (List.getElem?_eq_some_iff.1 hat).1
          obtain ⟨bb2, off2, p', he, hbb2, hp', g0, g1, g2, g3⟩ := RdP_at (r2.now hb) hlD
          obtain rfl : p' = p := by rw [hat] at hp'; injection hp' with hp'; exact hp'.symm
          clear hg hs hat hp' hp hn
          subst he
          have hrun := fun w => neq_pair p'.net p'.loc p'.ev p'.part p'.net p'.loc p'.ev p'.part w
          simp only [beq_self_eq_true, Bool.and_self, Bool.not_true] at hrun
          by_cases h1 : p'.net = net
          · have t1 : (p'.net == net) = true := by simp [h1]
            have t2 : (p'.ev == ev) = false := by simpa [h1] using hn'
            clear h1 hn'
            go_wp2_with fail
            go_quiet (fail)
            go_wp2
            go_roundw
            case rel => exact ⟨k + 1, by omega, by go_num, by rw [HS.out, List.length_append]; go_num, below_drewN hb _⟩
            case measure => simp [intOf]; omega
          · have t1 : (p'.net == net) = false := by simpa using h1
            clear h1 hn'
            go_wp2_with fail
            go_quiet (fail)
            go_wp2
            go_roundw
            case rel => exact ⟨k + 1, by omega, by go_num, by rw [HS.out, List.length_append]; go_num, below_drewN hb _⟩
            case measure => simp [intOf]; omega
      · obtain rfl : k = xs.length := by omega
        rw [DD.out]
        have B3 := B2.trans (hb.mono B2.size)
        have p3 := r2.now hb
        clear hb B2 r2
        go_wp2_with fail
        refine (pdrop_any X A2 c2 other second _ p3 (by omega)).mono ?_; rintro e w4 ⟨A4, c4, rfl, o4, b4⟩
        have B4 := B3.trans (b4.mono B3.size)
        have p4 := p3.now b4
        have hr4 := hr.now B4
        clear B3 b4 p3
        go_wp2_with fail
        refine (pdrop_any xs A c other second _ hr4 (by omega)).mono ?_; rintro e w5 ⟨A5, c5, rfl, o5, b5⟩
        have B5 := B4.trans (b5.mono B4.size)
        have p5 := p4.now b5
        have o45 := o4.below b5
        clear B4 b5 p4 hr4 o4
        go_wp2_with fail
        refine (pdrop_any (dropF other second xs) A5 c5 net ev _ (o5.rd layP) (by omega)).mono ?_; rintro e w6 ⟨A6, c6, rfl, o6, b6⟩
        rw [HC.out] at o6 ⊢
        have B6 := B5.trans (b6.mono B5.size)
        have p6 := p5.now b6
        have o46 := o45.below b6
        clear B5 b6 p5 o45 o5
        go_wp2_with fail
        refine (pdrop_any X A2 c2 net ev _ p6 (by omega)).mono ?_; rintro e w7 ⟨A7, c7, rfl, o7, b7⟩
        rw [HT.out] at o7 ⊢
        have B7 := B6.trans (b7.mono B6.size)
        have p7 := p6.now b7
        have o47 := o46.below b7
        have o67 := o6.below b7
        clear B6 b7 p6 o46 o6
        go_wp2_with fail
        refine (rsame_any X X A7 A2 c7 c2 _ (o7.rd layP) p7 (by omega)).mono ?_; rintro e w8 ⟨rfl, b8⟩
        rw [show decide (X = X) = true by simp]
        have B8 := B7.trans (b8.mono B7.size)
        have p8 := p7.now b8
        have o48 := o47.below b8
        have o68 := o67.below b8
        clear B7 b8 p7 o47 o67 o7
        go_wp2_with fail
        refine (rsame_any _ _ A4 A6 c4 c6 _ (o48.rd layP) (o68.rd layP) (by omega)).mono ?_; rintro e w9 ⟨rfl, b9⟩
        rw [show decide (dropF other second X = dropF other second X) = true by simp]
        have B9 := B8.trans (b9.mono B8.size)
        have p9 := p8.now b9
        have hr9 := hr.now B9
        clear B8 b9 p8 o48 o68
        go_wp2_with fail
        refine (pright_any xs A c _ hr9 (by omega) HWF.out).mono ?_; rintro e w10 ⟨rfl, b10⟩
        have B10 := B9.trans (b10.mono B9.size)
        cases hv : rightB xs
        · go_wp2
          go_ret
          exact ⟨rfl, B10⟩
        · have hv2 : rightB X = true := HRD.out hv
          go_wp2_with fail
          refine (pright_any X A2 c2 _ (p9.now b10) (by omega) HWD.out).mono ?_; rintro e w11 ⟨rfl, b11⟩
          rw [hv2]
          go_wp2
          go_ret
          exact ⟨rfl, B10.trans (b11.mono B10.size)⟩
end Go.Proofs.Ytlhidlaoecjnpaa
