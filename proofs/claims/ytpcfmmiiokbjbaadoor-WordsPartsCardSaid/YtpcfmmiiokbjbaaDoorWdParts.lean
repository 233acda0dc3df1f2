/- The walk of WordsParts. -/
import Derived.Test.YtpcfmmiiokbjbaaDoorWdTells
namespace Go.Proofs.YtpcfmmiiokbjbaaDoor
open Go.RowKit

theorem flatn_succ (l : List (List UInt8)) (k : Nat) (hk : k < l.length) : (l.take (k + 1)).flatten = (l.take k).flatten ++ l[k] := by
  rw [List.take_succ_eq_append_getElem hk, List.flatten_append]
  simp
theorem flatn_le (l : List (List UInt8)) (k : Nat) : (l.take k).flatten.length ≤ l.flatten.length := by
  conv => rhs; rw [← List.take_append_drop k l]
  rw [List.flatten_append, List.length_append]
  omega
/-- What the parts are. -/
theorem parts_plain (s : List UInt8) (size most : Int) (h1 : 2 ≤ size) (h2 : 1 ≤ most) :
    (∀ (k : Nat) (hk : k < (partsF s size most).length), (partsF s size most)[k].length ≤ size ∧ ((k : Int) + 1 < (partsF s size most).length → ((partsF s size most)[k].length : Int) = size) ∧ ((partsF s size most)[k] = [] → s = [])) ∧
    1 ≤ (partsF s size most).length ∧ ((partsF s size most).length : Int) ≤ most ∧
    ((partsF s size most).flatten = s ∨ (size * most < s.length ∧ ((partsF s size most).length : Int) = most ∧ (partsF s size most).flatten = s.take (size * most - 1).toNat ++ [43])) := by
  have hd : partsF s size most = partsL size.toNat (most - 1).toNat s := by rw [partsF, if_neg (by omega)]
  rw [hd]
  have hl := partsL_len size.toNat (most - 1).toNat s
  refine ⟨fun k hk => ?_, hl.1, by omega, ?_⟩
  · have h := partsL_each (size := size.toNat) (by omega) (most - 1).toNat s k _ (List.getElem?_eq_getElem hk)
    refine ⟨by omega, fun h3 => ?_, h.2.2⟩
    have := h.2.1 (by omega)
    omega
  · have ha := partsL_all (size := size.toNat) (by omega) (most - 1).toNat s
    have e : size.toNat * ((most - 1).toNat + 1) = (size * most).toNat := by
      have : (most - 1).toNat + 1 = most.toNat := by omega
      rw [this, Int.toNat_mul (by omega) (by omega)]
    have hp : 0 ≤ size * most := Int.mul_nonneg (by omega) (by omega)
    rw [e] at ha
    rcases Nat.lt_or_ge (size * most).toNat s.length with h | h
    · right
      obtain ⟨h3, h4⟩ := ha.2 h
      refine ⟨by omega, by omega, ?_⟩
      rw [h4]
      congr 2
      omega
    · exact .inl (ha.1 h)
set_option maxRecDepth 100000 in
set_option maxHeartbeats 8000000 in
theorem wparts10_any (s : List UInt8) (size most : Int) (w : World) (hV : Vs w.heap.size w) (hsz : InInt size) (hmo : InInt most) :
    Calls Tryd.prog 4 #[.string (bs s), .int .i64 size, .int .i64 most] w fun e w' => e = .returned (.bool true) ∧ Below w.heap.size w w' := by
  have HV := Lib.hid hV
  have HSz := Lib.hid hsz
  have HMo := Lib.hid hmo
  have hbz : (bs s).size = s.length := bs_size s
  have HB0 := Lib.hid (Below.refl w.heap.size w)
  have HD : Hid ((size < 2 ∨ most < 1) → partsF s size most = []) := Lib.hid (fun h => by rw [partsF, if_pos h])
  have HP := Lib.hid (parts_plain s size most)
  clear hV hsz hmo
  go_enter Tryd.func4, Tryd.ntmps4
  go_wp2_with fail
  refine (small10_any _ HV.out).mono ?_
  rintro e w1 ⟨rfl, hb⟩
  have HB1 := Lib.hid (HB0.out.trans (hb.mono HB0.out.size))
  clear hb
  by_cases g1 : (400 : Int) < s.length
  · go_wp2_with fail
    go_ret
    exact ⟨rfl, HB1.out⟩
  have d1 : decide ((400 : Int) < s.length) = false := by simp; omega
  have hls : s.length ≤ 1000000 := by omega
  have hl4 : s.length ≤ 400 := by omega
  have HPl := Lib.hid (partsF_len s size most hls)
  clear g1
  go_wp2_with fail
  refine (parts_any s size most _ hls HSz.out HMo.out).mono ?_
  rintro e w2 ⟨A2, c2, rfl, ho, hb⟩
  have HR2 := Lib.hid (ho.rd (strLay))
  have HN2 := Lib.hid hb
  have HB2 := Lib.hid (HB1.out.trans (hb.mono HB1.out.size))
  clear hb ho
  generalize partsF s size most = l at *
  by_cases g2 : size < 2
  · have hl0 : l.length = 0 := by rw [HD.out (.inl g2)]; rfl
    have d2 : decide (size < 2) = true := by simpa using g2
    clear g2
    go_wp2_with fail
    go_ret
    exact ⟨rfl, HB2.out⟩
  have d2 : decide (size < 2) = false := by simpa using g2
  by_cases g3 : most < 1
  · have hl0 : l.length = 0 := by rw [HD.out (.inr g3)]; rfl
    have d3 : decide (most < 1) = true := by simpa using g3
    clear g2 g3
    go_wp2_with fail
    go_ret
    exact ⟨rfl, HB2.out⟩
  have d3 : decide (most < 1) = false := by simpa using g3
  obtain ⟨hE, hl1, hl2, hA⟩ := HP.out (by omega) (by omega)
  have HE := Lib.hid hE
  have HA := Lib.hid hA
  have HL1 := Lib.hid hl1
  have HL2 := Lib.hid hl2
  have HFl : Hid (l.flatten.length ≤ 1000) := Lib.hid (by
    rcases hA with h | ⟨_, _, h⟩
    · rw [h]; omega
    · rw [h]; simp; omega)
  have HFk := Lib.hid (flatn_le l)
  clear hE hA g2 g3 HP HD
  go_wp2_with fail
  go_loopw [9, 10] (fun al i wr => ∃ k : Nat, k ≤ l.length ∧ i = .int .i64 k ∧ al = .string (bs (l.take k).flatten) ∧ Below w.heap.size w wr ∧ RdL 1 strE wr wr.heap.size A2 l) (fun _ i _ => l.length - (intOf i).toNat)
  case atStart => exact ⟨0, Nat.zero_le _, rfl, rfl, HB2.out, HR2.out⟩
  case round =>
    obtain ⟨k, hk, rfl, rfl, hb, hr⟩ := hrel
    have HB3 := Lib.hid hb
    have HR3 := Lib.hid hr
    have HLk := Lib.hid (HFk.out k)
    have hln := HL1.out
    have hlm := HL2.out
    have hlx := HPl.out
    clear HR2 HB2 hb hr
    by_cases hlt : k < l.length
    · obtain ⟨b, off, hA, hbl, hc⟩ := rd_str' HR3.out hlt
      subst hA
      have HSt := Lib.hid (flatn_succ l k hlt)
      obtain ⟨he1, he2, he3⟩ := HE.out k hlt
      have HXl : Hid ((l.take k).flatten.length ≤ 1000) := Lib.hid (by have := HLk.out; have := HFl.out; omega)
      generalize l[k] = x at *
      generalize (l.take k).flatten = al at *
      have HXz := Lib.hid (show x.length ≤ 1000 from by
        have h1 := HFk.out (k + 1)
        rw [HSt.out, List.length_append] at h1
        have := HFl.out
        omega)
      have hxz : (bs x).size = x.length := bs_size x
      have q1 : decide (size < (x.length : Int)) = false := by simp; omega
      have q2 : (decide ((k : Int) < (l.length : Int) - 1) && ((x.length : Int) != size)) = false := by
        by_cases h : (k : Int) + 1 < l.length
        · have := he2 h
          simp [this]
        · have : decide ((k : Int) < (l.length : Int) - 1) = false := by simp; omega
          rw [this]; rfl
      have q3 : ((bs x).toList.isEmpty && !(bs s).toList.isEmpty) = false := by
        rw [bs_toList, bs_toList]
        cases x with
        | nil => rw [he3 rfl]; rfl
        | cons a r => rfl
      cases t1 : decide ((k : Int) < (l.length : Int) - 1) <;> cases t2 : ((x.length : Int) != size) <;> cases t3 : (bs x).toList.isEmpty <;> cases t4 : (bs s).toList.isEmpty <;> (rw [t1, t2] at q2; rw [t3, t4] at q3; first | cases q2; done | cases q3; done | skip)
      all_goals clear q2 q3 he1 he2 he3
      all_goals have hxa := HXl.out
      all_goals have hxb := HXz.out
      all_goals
        go_wp2_with (first
          | ((with_reducible show wpList _ _ _ (Oper.mk _ (Op.binOp .add 9 _ _ _) _ _ _ _ :: _) _ _); refine wp_cat rfl rfl Tryd.underlying9 rfl rfl (by first | omega | (simp; done) | (simp; omega)) ?_)
          | fail)
        go_roundw
        case rel => exact ⟨k + 1, by omega, by go_num, by rw [HSt.out], HB3.out, HR3.out⟩
        case measure => simp [intOf]; omega
    · have HE2 : Hid ((l.take k).flatten = l.flatten) := Lib.hid (by rw [List.take_of_length_le (by omega)])
      rw [HE2.out]
      have p1 : decide ((l.length : Int) < 1) = false := by simp; omega
      have p2 : decide (most < (l.length : Int)) = false := by simp; omega
      cases hq : ((bs l.flatten).toList == (bs s).toList)
      · have hq2 : l.flatten ≠ s := fun e => by rw [e] at hq; simp at hq
        rcases HA.out with h | ⟨h1, h2, h3⟩
        · exact absurd h hq2
        clear hq2
        rw [h3] at hq ⊢
        have z1 := of_decide_eq_false d2
        have z2 := of_decide_eq_false d3
        have hpos : 2 ≤ size * most := by
          have := Int.mul_le_mul (show 2 ≤ size by omega) (show 1 ≤ most by omega) (by omega) (by omega)
          omega
        obtain ⟨n, hn⟩ : ∃ n : Nat, size * most = (n : Int) + 1 := ⟨(size * most - 1).toNat, by omega⟩
        have hn2 : (size * most - 1).toNat = n := by omega
        rw [hn2] at hq ⊢
        have hns : n < s.length := by omega
        have hsz2 : (bs (s.take n ++ [43])).size = n + 1 := by rw [bs_size]; simp; omega
        have hx1 : (bs (s.take n ++ [43])).extract 0 n = bs (s.take n) := by rw [bs_take]; simp [show min n s.length = n by omega]
        have hx2 : (bs s).extract 0 n = bs (s.take n) := bs_take s n
        have hx3 : (bs (s.take n ++ [43])).extract n (n + 1) = bs [43] := by
          have h := bs_drop (s.take n ++ [43]) n
          have e : (s.take n ++ [43]).length = n + 1 := by simp; omega
          rw [e] at h
          rw [h]
          congr 1
          rw [List.drop_append_of_le_length (by simp; omega), List.drop_of_length_le (by simp; omega)]
          rfl
        have q1 : ((bs (s.take n)).toList == (bs (s.take n)).toList) = true := beq_self_eq_true _
        have q2 : ((bs [43]).toList == [43]) = true := by rw [bs_toList]; decide
        have hbig : (n : Int) + 1 ≤ 401 := by omega
        have d9 : decide ((n : Int) + 1 < (s.length : Int)) = true := by simp; omega
        have hmx : max (n : Int) 0 = n := by omega
        have hmn : min (n : Int) (s.length : Int) = n := by omega
        have hlm : (l.length : Int) = most := h2
        clear h1 h2 h3 hpos z1 z2 hn2 HA HE HFl HFk HSz HMo HL1 HL2 HLk HE2 HPl
        go_wp2_with fail
        go_quiet (fail)
        go_wp2
        go_ret
        exact ⟨rfl, below_drewN HB3.out _⟩
      · clear HA
        go_wp2_with fail
        go_ret
        exact ⟨rfl, HB3.out⟩
end Go.Proofs.YtpcfmmiiokbjbaaDoor
