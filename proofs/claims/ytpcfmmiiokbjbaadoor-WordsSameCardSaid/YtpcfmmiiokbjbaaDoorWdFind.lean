/- Contracts of words.Find and of the reference's Find. -/
import Derived.Test.YtpcfmmiiokbjbaaDoorWdHas
import Derived.Test.YtpcfmmiiokbjbaaDoorWdF
import Derived.Lib.SlicesS
import Derived.Test.YtpcfmmiiokbjbaaDoorDetE
namespace Go.Proofs.YtpcfmmiiokbjbaaDoor
open Go.RowKit

theorem containsS_bs (xs : List (List UInt8)) (s : List UInt8) : Lib.containsS (xs.map bs) (bs s) = hasB xs s := by
  rw [Bool.eq_iff_iff, Lib.containsS_iff]
  unfold hasB
  rw [List.contains_iff_mem, List.mem_map]
  constructor
  · rintro ⟨x, hx, e⟩
    exact bs_inj e ▸ hx
  · intro h
    exact ⟨s, h, rfl⟩
theorem contains_any (xs : List (List UInt8)) (s : List UInt8) (A : Option Addr) (c : Nat) (w : World) (hr : RdL 1 strE w w.heap.size A xs) (hx : xs.length ≤ 9223372036854775807) :
    Calls Tryd.prog 29 #[.slice A xs.length c, .string (bs s)] w fun e w' => e = .returned (.bool (hasB xs s)) ∧ w = w' := by
  rcases Nat.eq_zero_or_pos xs.length with h0 | hpos
  · have : xs = [] := List.eq_nil_of_length_eq_zero h0
    subst this
    refine (Tryd.slices_Contains_string_empty A c (bs s) w).mono ?_
    rintro e w' ⟨rfl, rfl⟩
    exact ⟨rfl, rfl⟩
  · obtain ⟨b, off, rfl, _⟩ := rd_str' hr hpos
    refine (Tryd.slices_Contains_string b off xs.length c (xs.map bs) (bs s) w (by simp) hx (fun j hj => ?_)).mono ?_
    · have hj' : j < xs.length := by simpa using hj
      obtain ⟨b2, off2, e2, _, h2⟩ := rd_str' hr hj'
      injection e2 with e2
      injection e2 with e3 e4 _
      subst e3 e4
      rw [h2]
      simp [List.getD, List.getElem?_map, List.getElem?_eq_getElem hj']
    · rintro e w' ⟨rfl, rfl⟩
      refine ⟨?_, rfl⟩
      rw [← containsS_bs, List.take_of_length_le (by simp)]
/-- Does a text have the word v? -/
def hasW (v t : List UInt8) : Bool := hasB (wordsF t) v
theorem findF_one {texts : List (List UInt8)} {word v : List UInt8} (h : wordsF word = [v]) : findF texts word = idxs (hasW v) 0 texts := by
  unfold findF
  rw [h]
  rfl
theorem findF_no {texts : List (List UInt8)} {word : List UInt8} (h : (wordsF word).length ≠ 1) : findF texts word = [] := by
  unfold findF
  split
  · rename_i w e
    rw [e] at h
    exact absurd rfl h
  · rfl
theorem idxs_le (p : List UInt8 → Bool) : ∀ (l : List (List UInt8)) (i : Nat), (idxs p i l).length ≤ l.length
  | [], i => by simp [idxs]
  | u :: r, i => by
    have := idxs_le p r (i + 1)
    rw [idxs]
    split <;> simp only [List.length_cons] <;> omega
theorem idxs_take (p : List UInt8 → Bool) (l : List (List UInt8)) (k : Nat) (hk : k < l.length) : idxs p 0 (l.take (k + 1)) = idxs p 0 (l.take k) ++ (if p l[k] then [(k : Int)] else []) := by
  rw [List.take_succ_eq_append_getElem hk, idxs_snoc]
  simp [show min k l.length = k by omega]
set_option maxRecDepth 100000 in
set_option maxHeartbeats 2000000 in
theorem find_any (texts : List (List UInt8)) (word : List UInt8) (A : Option Addr) (c : Nat) (w : World) (hr : RdL 1 strE w w.heap.size A texts) (hn : texts.length ≤ 1000000) (hx : ∀ x ∈ texts, x.length ≤ 1000000) (hl : word.length ≤ 1000000) :
    Calls Tryd.prog 17 #[.slice A texts.length c, .string (bs word)] w fun x w' => ∃ A2 c2, x = .returned (.slice A2 (findF texts word).length c2) ∧ OwnL w' w.heap.size 3 1 intE A2 c2 (findF texts word) ∧ Below w.heap.size w w' := by
  have HR := Lib.hid hr
  have HX := Lib.hid hx
  have HNo := Lib.hid (fun h => findF_no (texts := texts) (word := word) h)
  have HYes := Lib.hid (fun v h => findF_one (texts := texts) (word := word) (v := v) h)
  clear hr hx
  go_enter Tryd.func17, Tryd.ntmps17
  go_wp2_with fail
  refine (words_any word _ hl).mono ?_
  rintro e w1 ⟨Aw, cw, rfl, how, hb1⟩
  have HW := Lib.hid (how.rd strLay)
  have HB1 := Lib.hid hb1
  clear how hb1
  generalize wordsF word = ws at *
  by_cases h1 : ws.length = 1
  · obtain ⟨v, rfl⟩ : ∃ v, ws = [v] := List.length_eq_one_iff.1 h1
    have HF : Hid (findF texts word = idxs (hasW v) 0 texts) := Lib.hid (HYes.out v rfl)
    obtain ⟨b0, off0, hA0, hb0, hc0⟩ := rd_str' (k := 0) HW.out (by simp)
    subst hA0
    rw [List.getElem_cons_zero, Nat.add_zero] at hc0
    have HC0 := Lib.hid hc0
    have HLe := Lib.hid (idxs_le (hasW v) texts 0)
    clear HNo HYes HW hc0 h1
    go_wp2_with fail
    go_loopw [6, 16] (fun o i wr => ∃ (k : Nat) (A2 : Option Addr) (c2 : Nat), k ≤ texts.length ∧ i = .int .i64 k ∧ o = .slice A2 (idxs (hasW v) 0 (texts.take k)).length c2 ∧ OwnL wr w1.heap.size 3 1 intE A2 c2 (idxs (hasW v) 0 (texts.take k)) ∧ Below w1.heap.size w1 wr) (fun _ i _ => texts.length - (intOf i).toNat)
    case atStart => exact ⟨0, none, 0, Nat.zero_le _, rfl, rfl, OwnL.nil_, Below.refl _ _⟩
    case round =>
      obtain ⟨k, A2, c2, hk, rfl, rfl, hown, hb⟩ := hrel
      have HO := Lib.hid hown
      have HB := Lib.hid hb
      have HI := Lib.hid (idxs_le (hasW v) (texts.take k) 0)
      have hcv : wr.cell? ⟨b0, off0, none⟩ = some (.string (bs v)) := (hb.cell (p := ⟨b0, off0, none⟩) hb0).trans HC0.out
      clear hown hb
      by_cases hlt : k < texts.length
      · obtain ⟨b, off, hA, hbl, hc⟩ := rd_str' (HR.out.now (HB1.out.trans (HB.out.mono HB1.out.size))) hlt
        subst hA
        have HSt := Lib.hid (idxs_take (hasW v) texts k hlt)
        have HXk := Lib.hid (HX.out _ (List.getElem_mem hlt))
        generalize texts[k] = s at *
        have hwl : (wordsF s).length ≤ 1000000 := by have := words_len s; have := HXk.out; omega
        have hbr : b0 < wr.heap.size := Nat.lt_of_lt_of_le hb0 HB.out.size
        go_wp2_with fail
        refine wp_region_below [(1, fun g => .slice g.1 (wordsF s).length g.2, fun g w' => RdL 1 strE w' w'.heap.size g.1 (wordsF s)), (5, fun _ => .bool (hasW v s), fun _ _ => True)] (by kernel_rfl) (by kernel_rfl) (by repeat (first | exact trivial | refine ⟨fun g wa wb hs hs' ht h => by first | exact trivial | exact h.now ht | exact h.below ht | exact ht.cell h | exact h, ?_⟩)) ?_
        rw [List.toList_toArray]
        repeat (first
          | (refine DetE.skip (by rfl) ?_; simp only [Act.put, List.setIfInBounds_toArray, List.set_cons_zero, List.set_cons_succ, List.getElem_toArray, List.getElem_cons_zero, List.getElem_cons_succ])
          | (refine DetE.read (v := ?_) (by rfl) (by rfl) ?_ ?_; rotate_left; (· (intro wq hSq hkq; skip; go_simp; try with_reducible rfl)); simp only [Act.put, List.setIfInBounds_toArray, List.set_cons_zero, List.set_cons_succ, List.getElem_toArray, List.getElem_cons_zero, List.getElem_cons_succ])
          | fail)
        refine DetE.eff _ _ (by rfl) (by rfl) (fun wq hSq hkq K hK => ?_) (fun g1 => ?_)
        · go_simp
          refine (words_any s wq HXk.out).mono ?_
          rintro e4 w4 ⟨A4, c4, rfl, ho4, hb4⟩
          go_wp2_with fail
          exact hK.out ((A4, c4)) _ (hSq.trans (hb4.mono hSq.size)) hb4 (ho4.rd strLay) _ rfl
        simp only [Act.put, List.setIfInBounds_toArray, List.set_cons_zero, List.set_cons_succ, List.getElem_toArray, List.getElem_cons_zero, List.getElem_cons_succ]
        repeat (first
          | (refine DetE.skip (by rfl) ?_; simp only [Act.put, List.setIfInBounds_toArray, List.set_cons_zero, List.set_cons_succ, List.getElem_toArray, List.getElem_cons_zero, List.getElem_cons_succ])
          | (refine DetE.read (v := ?_) (by rfl) (by rfl) ?_ ?_; rotate_left; (· (intro wq hSq hkq; have hcq := (hSq.cell (p := ⟨b0, off0, none⟩) hbr).trans hcv; go_simp; try with_reducible rfl)); simp only [Act.put, List.setIfInBounds_toArray, List.set_cons_zero, List.set_cons_succ, List.getElem_toArray, List.getElem_cons_zero, List.getElem_cons_succ])
          | fail)
        refine DetE.eff _ _ (by rfl) (by rfl) (fun wq hSq hkq K hK => ?_) (fun g2 => ?_)
        · go_simp
          refine ((contains_any (wordsF s) v g1.1 g1.2 wq (hkq 1 _ rfl (by kernel_rfl)) (by omega))).mono ?_
          rintro e4 w4 ⟨rfl, rfl⟩
          go_wp2_with fail
          exact hK.out ((none, 0)) _ hSq (Below.refl _ _) (trivial) _ rfl
        simp only [Act.put, List.setIfInBounds_toArray, List.set_cons_zero, List.set_cons_succ, List.getElem_toArray, List.getElem_cons_zero, List.getElem_cons_succ]
        refine DetE.done fun wz hz hkz => ?_
        have HZ := Lib.hid (HB.out.trans (hz.mono HB.out.size))
        have HOz := Lib.hid (HO.out.below hz)
        clear hkz hz hcv hc HO HB
        have hil := HI.out
        have hil2 : (texts.take k).length ≤ k := by simp; omega
        clear HI
        cases hv : hasW v s
        · have HE : Hid (idxs (hasW v) 0 (texts.take (k + 1)) = idxs (hasW v) 0 (texts.take k)) := Lib.hid (by rw [HSt.out, hv]; simp)
          clear HSt
          go_wp2_with fail
          go_roundw
          case rel => exact ⟨k + 1, A2, c2, by omega, by go_num, by rw [HE.out], by rw [HE.out]; exact HOz.out, HZ.out⟩
          case measure => simp [intOf]; omega
        · have HE : Hid (idxs (hasW v) 0 (texts.take (k + 1)) = idxs (hasW v) 0 (texts.take k) ++ [(k : Int)]) := Lib.hid (by rw [HSt.out, hv]; simp)
          clear HSt
          generalize idxs (hasW v) 0 (texts.take k) = xs at *
          go_wp2_with (first
            | (at_builtin; refine wp_append_l rfl (.tmp 27) (.tmp 29) rfl slInt intLay w1.heap.size (xs := xs) (ys := [(k : Int)]) rfl rfl (HOz.out.alloc _) rfl rfl (RdL.one wz (k : Int) _ _ rfl _ rfl) (by simp; omega) (by have := HZ.out.size; simp; omega) ?_; intro A3 c3 w6 hown3 hg3 hb3 hat3; have HO3 := Lib.hid hown3; have HB3 := Lib.hid (((Below.refl w1.heap.size wz).alloc HZ.out.size _).trans hb3); clear hown3 hg3 hb3 hat3)
            | fail)
          go_roundw
          case rel => exact ⟨k + 1, A3, c3, by omega, by go_num, by rw [HE.out]; simp, by rw [HE.out]; exact HO3.out, HZ.out.trans HB3.out⟩
          case measure => simp [intOf]; omega
      · have HE : Hid (idxs (hasW v) 0 (texts.take k) = findF texts word) := Lib.hid (by rw [HF.out, List.take_of_length_le (by omega)])
        rw [HE.out] at HO ⊢
        go_wp2_with fail
        go_ret
        exact ⟨A2, c2, rfl, (HO.out).mono HB1.out.size, HB1.out.trans (HB.out.mono HB1.out.size)⟩
  · have HE : Hid (findF texts word = []) := Lib.hid (HNo.out h1)
    have d1 : ((ws.length : Int) != 1) = true := by simp; omega
    go_wp2_with fail
    go_ret
    exact ⟨none, 0, by rw [HE.out]; rfl, by rw [HE.out]; exact OwnL.nil_, HB1.out⟩
set_option maxRecDepth 100000 in
set_option maxHeartbeats 2000000 in
theorem findR_any (texts : List (List UInt8)) (word : List UInt8) (A : Option Addr) (c : Nat) (w : World) (hr : RdL 1 strE w w.heap.size A texts) (hn : texts.length ≤ 1000000) (hx : ∀ x ∈ texts, x.length ≤ 1000000) (hl : word.length ≤ 1000000) :
    Calls Tryd.prog 18 #[.slice A texts.length c, .string (bs word)] w fun x w' => ∃ A2 c2, x = .returned (.slice A2 (findF texts word).length c2) ∧ OwnL w' w.heap.size 3 1 intE A2 c2 (findF texts word) ∧ Below w.heap.size w w' := by
  have HR := Lib.hid hr
  have HX := Lib.hid hx
  have HNo := Lib.hid (fun h => findF_no (texts := texts) (word := word) h)
  have HYes := Lib.hid (fun v h => findF_one (texts := texts) (word := word) (v := v) h)
  clear hr hx
  go_enter Tryd.func18, Tryd.ntmps18
  go_wp2_with fail
  refine (wordsR_any word _ hl).mono ?_
  rintro e w1 ⟨Aw, cw, rfl, how, hb1⟩
  have HW := Lib.hid (how.rd strLay)
  have HB1 := Lib.hid hb1
  clear how hb1
  generalize wordsF word = ws at *
  by_cases h1 : ws.length = 1
  · obtain ⟨v, rfl⟩ : ∃ v, ws = [v] := List.length_eq_one_iff.1 h1
    have HF : Hid (findF texts word = idxs (hasW v) 0 texts) := Lib.hid (HYes.out v rfl)
    obtain ⟨b0, off0, hA0, hb0, hc0⟩ := rd_str' (k := 0) HW.out (by simp)
    subst hA0
    rw [List.getElem_cons_zero, Nat.add_zero] at hc0
    have HC0 := Lib.hid hc0
    have HLe := Lib.hid (idxs_le (hasW v) texts 0)
    clear HNo HYes HW hc0 h1
    go_wp2_with fail
    go_loopw [6, 7] (fun o i wr => ∃ (k : Nat) (A2 : Option Addr) (c2 : Nat), k ≤ texts.length ∧ i = .int .i64 k ∧ o = .slice A2 (idxs (hasW v) 0 (texts.take k)).length c2 ∧ OwnL wr w1.heap.size 3 1 intE A2 c2 (idxs (hasW v) 0 (texts.take k)) ∧ Below w1.heap.size w1 wr) (fun _ i _ => texts.length - (intOf i).toNat)
    case atStart => exact ⟨0, none, 0, Nat.zero_le _, rfl, rfl, OwnL.nil_, Below.refl _ _⟩
    case round =>
      obtain ⟨k, A2, c2, hk, rfl, rfl, hown, hb⟩ := hrel
      have HO := Lib.hid hown
      have HB := Lib.hid hb
      have HI := Lib.hid (idxs_le (hasW v) (texts.take k) 0)
      have hcv : wr.cell? ⟨b0, off0, none⟩ = some (.string (bs v)) := (hb.cell (p := ⟨b0, off0, none⟩) hb0).trans HC0.out
      clear hown hb
      by_cases hlt : k < texts.length
      · obtain ⟨b, off, hA, hbl, hc⟩ := rd_str' (HR.out.now (HB1.out.trans (HB.out.mono HB1.out.size))) hlt
        subst hA
        have HSt := Lib.hid (idxs_take (hasW v) texts k hlt)
        have HXk := Lib.hid (HX.out _ (List.getElem_mem hlt))
        generalize texts[k] = s at *
        have hwl : (wordsF s).length ≤ 1000000 := by have := words_len s; have := HXk.out; omega
        have hbr : b0 < wr.heap.size := Nat.lt_of_lt_of_le hb0 HB.out.size
        go_wp2_with fail
        refine wp_region_below [(4, fun g => .slice g.1 (wordsF s).length g.2, fun g w' => RdL 1 strE w' w'.heap.size g.1 (wordsF s)), (8, fun _ => .bool (hasW v s), fun _ _ => True)] (by kernel_rfl) (by kernel_rfl) (by repeat (first | exact trivial | refine ⟨fun g wa wb hs hs' ht h => by first | exact trivial | exact h.now ht | exact h.below ht | exact ht.cell h | exact h, ?_⟩)) ?_
        rw [List.toList_toArray]
        repeat (first
          | (refine DetE.skip (by rfl) ?_; simp only [Act.put, List.setIfInBounds_toArray, List.set_cons_zero, List.set_cons_succ, List.getElem_toArray, List.getElem_cons_zero, List.getElem_cons_succ])
          | (refine DetE.read (v := ?_) (by rfl) (by rfl) ?_ ?_; rotate_left; (· (intro wq hSq hkq; have hcq := (hSq.cell (p := ⟨b, off + k, none⟩) hbl).trans hc; go_simp; try with_reducible rfl)); simp only [Act.put, List.setIfInBounds_toArray, List.set_cons_zero, List.set_cons_succ, List.getElem_toArray, List.getElem_cons_zero, List.getElem_cons_succ])
          | fail)
        refine DetE.eff _ _ (by rfl) (by rfl) (fun wq hSq hkq K hK => ?_) (fun g1 => ?_)
        · go_simp
          refine (wordsR_any s wq HXk.out).mono ?_
          rintro e4 w4 ⟨A4, c4, rfl, ho4, hb4⟩
          go_wp2_with fail
          exact hK.out ((A4, c4)) _ (hSq.trans (hb4.mono hSq.size)) hb4 (ho4.rd strLay) _ rfl
        simp only [Act.put, List.setIfInBounds_toArray, List.set_cons_zero, List.set_cons_succ, List.getElem_toArray, List.getElem_cons_zero, List.getElem_cons_succ]
        repeat (first
          | (refine DetE.skip (by rfl) ?_; simp only [Act.put, List.setIfInBounds_toArray, List.set_cons_zero, List.set_cons_succ, List.getElem_toArray, List.getElem_cons_zero, List.getElem_cons_succ])
          | (refine DetE.read (v := ?_) (by rfl) (by rfl) ?_ ?_; rotate_left; (· (intro wq hSq hkq; have hcq := (hSq.cell (p := ⟨b0, off0, none⟩) hbr).trans hcv; go_simp; try with_reducible rfl)); simp only [Act.put, List.setIfInBounds_toArray, List.set_cons_zero, List.set_cons_succ, List.getElem_toArray, List.getElem_cons_zero, List.getElem_cons_succ])
          | fail)
        refine DetE.eff _ _ (by rfl) (by rfl) (fun wq hSq hkq K hK => ?_) (fun g2 => ?_)
        · go_simp
          refine ((has_any (wordsF s) v g1.1 g1.2 wq (hkq 4 _ rfl (by kernel_rfl)) (by omega))).mono ?_
          rintro e4 w4 ⟨rfl, rfl⟩
          go_wp2_with fail
          exact hK.out ((none, 0)) _ hSq (Below.refl _ _) (trivial) _ rfl
        simp only [Act.put, List.setIfInBounds_toArray, List.set_cons_zero, List.set_cons_succ, List.getElem_toArray, List.getElem_cons_zero, List.getElem_cons_succ]
        refine DetE.done fun wz hz hkz => ?_
        have HZ := Lib.hid (HB.out.trans (hz.mono HB.out.size))
        have HOz := Lib.hid (HO.out.below hz)
        clear hkz hz hcv hc HO HB
        have hil := HI.out
        have hil2 : (texts.take k).length ≤ k := by simp; omega
        clear HI
        cases hv : hasW v s
        · have HE : Hid (idxs (hasW v) 0 (texts.take (k + 1)) = idxs (hasW v) 0 (texts.take k)) := Lib.hid (by rw [HSt.out, hv]; simp)
          clear HSt
          go_wp2_with fail
          go_roundw
          case rel => exact ⟨k + 1, A2, c2, by omega, by go_num, by rw [HE.out], by rw [HE.out]; exact HOz.out, HZ.out⟩
          case measure => simp [intOf]; omega
        · have HE : Hid (idxs (hasW v) 0 (texts.take (k + 1)) = idxs (hasW v) 0 (texts.take k) ++ [(k : Int)]) := Lib.hid (by rw [HSt.out, hv]; simp)
          clear HSt
          generalize idxs (hasW v) 0 (texts.take k) = xs at *
          go_wp2_with (first
            | (at_builtin; refine wp_append_l rfl (.tmp 30) (.tmp 32) rfl slInt intLay w1.heap.size (xs := xs) (ys := [(k : Int)]) rfl rfl (HOz.out.alloc _) rfl rfl (RdL.one wz (k : Int) _ _ rfl _ rfl) (by simp; omega) (by have := HZ.out.size; simp; omega) ?_; intro A3 c3 w6 hown3 hg3 hb3 hat3; have HO3 := Lib.hid hown3; have HB3 := Lib.hid (((Below.refl w1.heap.size wz).alloc HZ.out.size _).trans hb3); clear hown3 hg3 hb3 hat3)
            | fail)
          go_roundw
          case rel => exact ⟨k + 1, A3, c3, by omega, by go_num, by rw [HE.out]; simp, by rw [HE.out]; exact HO3.out, HZ.out.trans HB3.out⟩
          case measure => simp [intOf]; omega
      · have HE : Hid (idxs (hasW v) 0 (texts.take k) = findF texts word) := Lib.hid (by rw [HF.out, List.take_of_length_le (by omega)])
        rw [HE.out] at HO ⊢
        go_wp2_with fail
        go_ret
        exact ⟨A2, c2, rfl, (HO.out).mono HB1.out.size, HB1.out.trans (HB.out.mono HB1.out.size)⟩
  · have HE : Hid (findF texts word = []) := Lib.hid (HNo.out h1)
    have d1 : ((ws.length : Int) == 1) = false := by simp; omega
    go_wp2_with fail
    go_loopw [6, 7] (fun o i wr => i = .int .i64 0 ∧ o = .slice none 0 0 ∧ wr = w1) (fun _ i _ => 0)
    case atStart => exact ⟨rfl, rfl, rfl⟩
    case round =>
      obtain ⟨rfl, rfl, rfl⟩ := hrel
      by_cases h0 : 0 < texts.length
      · go_wp2_with fail
        go_ret
        exact ⟨none, 0, by rw [HE.out]; rfl, by rw [HE.out]; exact OwnL.nil_, HB1.out⟩
      · go_wp2_with fail
        go_ret
        exact ⟨none, 0, by rw [HE.out]; rfl, by rw [HE.out]; exact OwnL.nil_, HB1.out⟩
end Go.Proofs.YtpcfmmiiokbjbaaDoor
