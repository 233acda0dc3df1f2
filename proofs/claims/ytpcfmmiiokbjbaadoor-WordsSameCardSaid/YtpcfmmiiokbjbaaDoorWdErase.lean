/- The walk of WordsErase. -/
import Derived.Test.YtpcfmmiiokbjbaaDoorWdTells
import Derived.Test.YtpcfmmiiokbjbaaDoorWdUp
import Derived.Test.YtpcfmmiiokbjbaaDoorDetC
namespace Go.Proofs.YtpcfmmiiokbjbaaDoor
open Go.RowKit

-- as wdB, with HNk: below the world ahead of it
/-- All but k. -/
def restF (k : Nat) (a : List Int) : List Int := a.filter fun n => n != (k : Int)
theorem restF_take (k : Nat) (a : List Int) (j : Nat) (hj : j < a.length) : restF k (a.take (j + 1)) = if a[j] != (k : Int) then restF k (a.take j) ++ [a[j]] else restF k (a.take j) := by
  unfold restF
  rw [List.take_succ_eq_append_getElem hj, List.filter_append, List.filter_cons]
  split <;> simp
theorem restF_le (k : Nat) (a : List Int) : (restF k a).length ≤ a.length := List.length_filter_le _ _
def noneF (n : Nat) : List (List UInt8) := List.replicate n []
theorem noneF_len (n : Nat) : (noneF n).length = n := by simp [noneF]
theorem noneF_succ (n : Nat) : noneF n ++ [[]] = noneF (n + 1) := by simp [noneF, List.replicate_succ']
theorem digest_none (n : Nat) : digestF (noneF n) = [] := digL_none n 0
/-- The digests: the whole one, the one without the text, the text's alone. -/
theorem digests (texts : List (List UInt8)) (k : Nat) (hk : k < texts.length) : ∃ pre line post, digestF texts = pre ++ (line ++ post) ∧ digestF (texts.set k []) = pre ++ post ∧ digestF ((noneF texts.length).set k texts[k]) = line ∧ (line = [] ↔ texts[k] = []) := by
  obtain ⟨pre, post, h1, h2, h3⟩ := digest_set texts k hk
  exact ⟨pre, digOne k texts[k], post, by rw [h1, List.append_assoc], h2, h3, digOne_nil _ _⟩
/-- What the loops know. -/
structure ErW (w wx : World) (Al : Option Addr) (less : List (List UInt8)) (Aa : Option Addr) (a : List Int) (Ab : Option Addr) (b : List Int) : Prop where
  bw : Below w.heap.size w wx
  less : RdL 1 strE wx wx.heap.size Al less
  ra : RdL 1 intE wx wx.heap.size Aa a
  rb : RdL 1 intE wx wx.heap.size Ab b
theorem ErW.on {w wx wy : World} {Al : Option Addr} {less : List (List UInt8)} {Aa : Option Addr} {a : List Int} {Ab : Option Addr} {b : List Int} (h : ErW w wx Al less Aa a Ab b) (hb : Below wx.heap.size wx wy) : ErW w wy Al less Aa a Ab b :=
  ⟨h.bw.trans (hb.mono h.bw.size), h.less.now hb, h.ra.now hb, h.rb.now hb⟩
theorem find_n (n : Nat) (texts : List (List UInt8)) (word : List UInt8) (A : Option Addr) (c : Nat) (w : World) (h : texts.length = n) (hr : RdL 1 strE w w.heap.size A texts) (hn : n ≤ 1000000) (hx : ∀ x ∈ texts, x.length ≤ 1000000) (hl : word.length ≤ 1000000) :
    Calls Tryd.prog 17 #[.slice A n c, .string (bs word)] w fun x w' => ∃ A2 c2, x = .returned (.slice A2 (findF texts word).length c2) ∧ OwnL w' w.heap.size 3 1 intE A2 c2 (findF texts word) ∧ Below w.heap.size w w' := by
  subst h
  exact find_any texts word A c w hr hn hx hl
theorem digest_n {B : Nat} (n : Nat) (texts : List (List UInt8)) (A : Option Addr) (c : Nat) (w : World) (h : texts.length = n) (hV : Vs B w) (hr : RdL 1 strE w w.heap.size A texts) (hn : n ≤ 1000000) (hx : ∀ x ∈ texts, x.length ≤ 1000000) :
    Calls Tryd.prog 19 #[.slice A n c] w fun e w' => e = .returned (.string (bs (digestF texts))) ∧ Below w.heap.size w w' := by
  subst h
  exact digest_any texts A c w hV hr hn hx
set_option maxRecDepth 100000 in
set_option maxHeartbeats 8000000 in
theorem erase10_any (texts : List (List UInt8)) (at_ : Nat) (word : List UInt8) (A : Option Addr) (c : Nat) (w : World) (hV : Vs w.heap.size w) (hr : RdL 1 strE w w.heap.size A texts) (hn : texts.length ≤ 9223372036854775807) (hat : at_ ≤ 255) :
    Calls Tryd.prog 5 #[.slice A texts.length c, .int .u8 at_, .string (bs word)] w fun e w' => e = .returned (.bool true) ∧ Below w.heap.size w w' := by
  have HV := Lib.hid hV
  have HR := Lib.hid hr
  have hbz : (bs word).size = word.length := bs_size word
  have HB0 := Lib.hid (Below.refl w.heap.size w)
  clear hV hr
  go_enter Tryd.func5, Tryd.ntmps5
  go_wp2_with fail
  refine (small10_any _ HV.out).mono ?_
  rintro e w1 ⟨rfl, hb⟩
  have HB1 := Lib.hid (HB0.out.trans (hb.mono HB0.out.size))
  clear hb
  go_wp2_with fail
  refine (fewW_any texts 20 A c _ (HR.out.now HB1.out) hn (by decide)).mono ?_
  rintro e w2 ⟨rfl, rfl⟩
  cases hf : fewB texts 20
  · go_wp2_with fail
    go_ret
    exact ⟨rfl, HB1.out⟩
  have HF := Lib.hid (fewB_inv hf)
  have hf1 := HF.out.1
  have HX := Lib.hid (show ∀ x ∈ texts, x.length ≤ 1000000 from fun x hx => by have := HF.out.2 x hx; omega)
  clear hf
  by_cases g0 : texts.length = 0
  · have d0 : ((texts.length : Int) == 0) = true := by simpa using g0
    clear g0
    go_wp2_with fail
    go_ret
    exact ⟨rfl, HB1.out⟩
  have d0 : ((texts.length : Int) == 0) = false := by simpa using g0
  by_cases g1 : (300 : Int) < word.length
  · have d1 : decide ((300 : Int) < word.length) = true := by simp; omega
    clear g1
    go_wp2_with fail
    go_ret
    exact ⟨rfl, HB1.out⟩
  have d1 : decide ((300 : Int) < word.length) = false := by simp; omega
  have hlw : word.length ≤ 1000000 := by omega
  obtain ⟨k, hk⟩ : ∃ k, k = at_ % texts.length := ⟨_, rfl⟩
  have hkl : k < texts.length := by rw [hk]; exact Nat.mod_lt _ (by omega)
  have hki : (at_ : Int) % (texts.length : Int) = (k : Int) := by rw [hk]; exact (Int.natCast_emod _ _).symm
  have htl : texts.length ≤ 20 := by omega
  have hk19 : k ≤ 19 := by omega
  clear hk g0 g1
  go_wp2_with fail
  refine (erased_any texts k A c _ (HR.out.now HB1.out) (by omega) hkl).mono ?_
  rintro e w3 ⟨A3, c3, rfl, ho, hb⟩
  have HR3 := Lib.hid (ho.rd (strLay))
  have HN3 := Lib.hid hb
  have HB3 := Lib.hid (HB1.out.trans (hb.mono HB1.out.size))
  clear hb ho
  have HLL := Lib.hid (show (texts.set k []).length = texts.length by simp)
  have HXs := Lib.hid (show ∀ x ∈ texts.set k [], x.length ≤ 1000000 from fun x hx => by
    rcases List.mem_or_eq_of_mem_set hx with h | h
    · exact HX.out x h
    · rw [h]; simp)
  have HFs := Lib.hid (find_set texts word k hkl)
  have HFl := Lib.hid (findF_len texts word)
  obtain ⟨pre, line, post, hd1, hd2, hd3, hd4⟩ := digests texts k hkl
  have HD1 := Lib.hid hd1
  have HD2 := Lib.hid hd2
  have HD3 := Lib.hid hd3
  have HD4 := Lib.hid hd4
  have HDl : Hid ((pre ++ (line ++ post)).length ≤ 1000) := Lib.hid (by
    have := digL_len texts 0 (by omega)
    rw [← hd1, digestF]
    omega)
  clear hd1 hd2 hd3 hd4
  go_wp2_with fail
  refine (find_any texts word A c _ (HR.out.now HB3.out) (by omega) HX.out hlw).mono ?_
  rintro e w4 ⟨A4, c4, rfl, ho, hb⟩
  have HR4 := Lib.hid (ho.rd (intLay))
  have HN4 := Lib.hid hb
  have HB4 := Lib.hid (HB3.out.trans (hb.mono HB3.out.size))
  clear hb ho
  have HR3b := Lib.hid (HR3.out.now HN4.out)
  clear HR3 HN3
  generalize hls : texts.set k [] = less at *
  have HLs := Lib.hid hls
  clear hls
  go_wp2_with fail
  refine (find_n texts.length less word A3 c3 _ HLL.out HR3b.out (by omega) HXs.out hlw).mono ?_
  rintro e w5 ⟨A5, c5, rfl, ho, hb⟩
  have HR5 := Lib.hid (ho.rd (intLay))
  have HN5 := Lib.hid hb
  have HB5 := Lib.hid (HB4.out.trans (hb.mono HB4.out.size))
  clear hb ho
  have HE5 := Lib.hid (⟨HB5.out, HR3b.out.now HN5.out, HR4.out.now HN5.out, HR5.out⟩ : ErW w w5 A3 less A4 (findF texts word) A5 (findF less word))
  have HFs2 : Hid (findF less word = restF k (findF texts word)) := Lib.hid HFs.out
  have HRl := Lib.hid (restF_le k (findF texts word))
  clear HFs HR3b HR4 HR5 HN4 HN5 HB1 HB3 HB4 HB5
  generalize findF texts word = a at *
  generalize findF less word = b at *
  go_wp2_with fail
  go_loopw [12, 13] (fun o i wr => ∃ (j : Nat) (A6 : Option Addr) (c6 : Nat), j ≤ a.length ∧ i = .int .i64 j ∧ o = .slice A6 (restF k (a.take j)).length c6 ∧ OwnL wr w5.heap.size 3 1 intE A6 c6 (restF k (a.take j)) ∧ Below w5.heap.size w5 wr) (fun _ i _ => a.length - (intOf i).toNat)
  case atStart => exact ⟨0, none, 0, Nat.zero_le _, rfl, rfl, OwnL.nil_, Below.refl _ _⟩
  case round =>
    obtain ⟨j, A6, c6, hj, rfl, rfl, ho, hb⟩ := hrel
    have HO := Lib.hid ho
    have HB := Lib.hid hb
    have HE := Lib.hid (HE5.out.on hb)
    have hfl := HFl.out
    have HRk := Lib.hid (restF_le k (a.take j))
    clear ho hb
    by_cases hlt : j < a.length
    · obtain ⟨ba, off, hA, hbl, hc⟩ := rd_int' HE.out.ra hlt
      subst hA
      have HSt := Lib.hid (restF_take k a j hlt)
      have hjl : (a.take j).length ≤ 20 := by simp; omega
      generalize a[j] = v at *
      have hrk := HRk.out
      generalize restF k (a.take j) = xs at *
      cases hv : (v != (k : Int))
      · have HS2 : Hid (restF k (a.take (j + 1)) = xs) := Lib.hid (by rw [HSt.out, hv]; simp)
        clear HSt
        go_wp2_with fail
        go_roundw
        case rel => exact ⟨j + 1, A6, c6, by omega, by go_num, by rw [HS2.out], by rw [HS2.out]; exact HO.out, HB.out⟩
        case measure => simp [intOf]; omega
      · have HS2 : Hid (restF k (a.take (j + 1)) = xs ++ [v]) := Lib.hid (by rw [HSt.out, hv]; simp)
        clear HSt
        go_wp2_with (first
          | (at_builtin; refine wp_append_l rfl (.tmp 62) (.tmp 67) rfl slInt intLay w5.heap.size (xs := xs) (ys := [v]) rfl rfl (HO.out.alloc _) rfl rfl (RdL.one wr v _ _ rfl _ rfl) (by simp; omega) (by have := HB.out.size; simp; omega) ?_; intro A7 c7 w6 hown3 hg3 hb3 hat3; have HO3 := Lib.hid hown3; have HB3 := Lib.hid ((HB.out.alloc HB.out.size _).trans hb3); clear hown3 hg3 hb3 hat3)
          | fail)
        go_roundw
        case rel => exact ⟨j + 1, A7, c7, by omega, by go_num, by rw [HS2.out]; simp, by rw [HS2.out]; exact HO3.out, HB3.out⟩
        case measure => simp [intOf]; omega
    · have HEq : Hid (a.take j = a) := Lib.hid (List.take_of_length_le (by omega))
      rw [HEq.out] at HO ⊢
      have HRr := Lib.hid (HO.out.rd intLay)
      have hrk := HRl.out
      generalize restF k a = rest at *
      obtain ⟨wa, hwa⟩ : ∃ x, x = wr := ⟨_, rfl⟩
      have HRa : Hid (RdL 1 intE wa wa.heap.size A6 rest) := Lib.hid (hwa ▸ HRr.out)
      have HEa : Hid (ErW w wa A3 less A4 a A5 b) := Lib.hid (hwa ▸ HE.out)
      have HB0 : Hid (Below wa.heap.size wa wr) := Lib.hid (hwa ▸ Below.refl _ _)
      clear hwa HRr HE HO HB HE5 HRk
      go_wp2_with fail
      go_loopw [14, 15] (fun o i wr => ∃ (j : Nat) (A7 : Option Addr) (c7 : Nat), j ≤ texts.length ∧ i = .int .i64 j ∧ o = .slice A7 (noneF j).length c7 ∧ OwnL wr wa.heap.size 9 1 strE A7 c7 (noneF j) ∧ Below wa.heap.size wa wr) (fun _ i _ => texts.length - (intOf i).toNat)
      case atStart => exact ⟨0, none, 0, Nat.zero_le _, rfl, rfl, OwnL.nil_, HB0.out⟩
      case round =>
        obtain ⟨j, A7, c7, hj, rfl, rfl, ho, hb⟩ := hrel
        have HO := Lib.hid ho
        have HB := Lib.hid hb
        have HNL := Lib.hid (noneF_len j)
        clear ho hb HB0
        by_cases hlt : j < texts.length
        · have HS2 := Lib.hid (noneF_succ j)
          generalize noneF j = xs at *
          go_wp2_with (first
            | (at_builtin; refine wp_append_l rfl (.tmp 75) (.tmp 76) rfl slStr strLay wa.heap.size (xs := xs) (ys := [[]]) rfl rfl (HO.out.alloc _) rfl rfl (RdL.one wr [] _ _ rfl _ rfl) (by have := HNL.out; simp; omega) (by have := HB.out.size; simp; omega) ?_; intro A8 c8 w6 hown3 hg3 hb3 hat3; have HO3 := Lib.hid hown3; have HB3 := Lib.hid ((HB.out.alloc HB.out.size _).trans hb3); clear hown3 hg3 hb3 hat3)
            | fail)
          go_roundw
          case rel => exact ⟨j + 1, A8, c8, by omega, by go_num, by rw [← HS2.out]; simp; try omega, by rw [← HS2.out]; exact HO3.out, HB3.out⟩
          case measure => simp [intOf]; omega
        · have hje : j = texts.length := by omega
          have HNl : Hid ((noneF j).length = texts.length) := Lib.hid (HNL.out.trans hje)
          have HDg : Hid (digestF ((noneF j).set k (texts[k]'hkl)) = line) := Lib.hid (by rw [hje]; exact HD3.out)
          have HDn : Hid (digestF (noneF j) = []) := Lib.hid (digest_none j)
          have HNx : Hid (∀ x ∈ noneF j, x.length ≤ 1000000) := Lib.hid (fun x hx => by
            rw [noneF] at hx
            rw [(List.mem_replicate.1 hx).2]
            simp)
          have HNy : Hid (∀ x ∈ (noneF j).set k (texts[k]'hkl), x.length ≤ 1000000) := Lib.hid (fun x hx => by
            rcases List.mem_or_eq_of_mem_set hx with h | h
            · exact HNx.out x h
            · rw [h]; exact HX.out _ (List.getElem_mem hkl))
          clear HNL HD3 hje
          generalize noneF j = ns at *
          obtain ⟨wb, hwb⟩ : ∃ x, x = wr := ⟨_, rfl⟩
          have HEb : Hid (ErW w wb A3 less A4 a A5 b) := Lib.hid (hwb ▸ HEa.out.on HB.out)
          have HRs : Hid (RdL 1 intE wb wb.heap.size A6 rest) := Lib.hid (hwb ▸ HRa.out.now HB.out)
          have HRn : Hid (RdL 1 strE wb wb.heap.size A7 ns) := Lib.hid (hwb ▸ HO.out.rd strLay)
          rw [← hwb]
          clear hwb HEa HRa HB HO HB0
          have hb0 : Below wb.heap.size wb (wb.alloc (.cells #[] 9)) := (Below.refl _ _).alloc (Nat.le_refl _) _
          have HO0 := Lib.hid (OwnL.empty (enc := strE) (sz := 1) wb 9 wb.heap.size (Nat.le_refl _) _ rfl)
          have HR0 := Lib.hid (HRn.out.below hb0)
          have HB0 := Lib.hid hb0
          clear hb0
          have HNz := Lib.hid (show (([] : List (List UInt8)).length + ns.length) * 16 ≤ 140737488355328 by have := HNl.out; simp; omega)
          have HNp := Lib.hid (show 0 < ns.length by have := HNl.out; omega)
          go_upto_region 20 with (first
            | (at_builtin; refine wp_append_l rfl (.tmp 78) (.tmp 79) rfl slStr strLay wb.heap.size (xs := ([] : List (List UInt8))) (ys := ns) rfl rfl HO0.out rfl rfl HR0.out HNz.out (by simp) ?_; intro A9 c9 w7 hown hg hb hat; simp only [List.nil_append] at hown ⊢; obtain ⟨g9, rfl⟩ := own_some hown HNp.out; have HO9 := Lib.hid hown; have HB9 := Lib.hid (HB0.out.trans hb); clear hown hg hb hat)
            | fail)
          have hkn : k < ns.length := by have := HNl.out; omega
          have HB7 := Lib.hid (HEb.out.bw.trans (HB9.out.mono HEb.out.bw.size))
          obtain ⟨bt, off, hA, hbl, hc⟩ := rd_str' (HR.out.now HB7.out) hkl
          subst hA
          have HC : Hid (∀ w', Below w.heap.size w w' → w'.cell? ⟨bt, off + k, none⟩ = some (.string (bs (texts[k]'hkl)))) := Lib.hid (fun w' hb' => by
            obtain ⟨b2, off2, hA2, _, hc2⟩ := rd_str' (HR.out.now hb') hkl
            injection hA2 with hA2
            injection hA2 with e1 e2 _
            subst e1 e2
            exact hc2)
          generalize texts[k] = tk at *
          have hb8 : ∀ w4 : World, w7.grownBy w4 (some g9) → Below w.heap.size w w4 ∧ Below wb.heap.size wb w4 := fun w4 hg4 =>
            ⟨HB7.out.grown hg4 HB7.out.size (fun j hj => Nat.le_trans HEb.out.bw.size (HO9.out.blk_lt hj).1), HB9.out.grown hg4 HB9.out.size (fun j hj => (HO9.out.blk_lt hj).1)⟩
          have HG := Lib.hid hb8
          clear hb8
          go_upto_region 21 with (first
            | ((with_reducible show wpList _ _ _ (Oper.mk _ (Op.store 9 _ _) _ _ _ _ :: _) _ _); refine wp_store_l rfl _ _ rfl slStr strLay HO9.out k hkn k rfl (by omega) tk _ rfl rfl ?_; intro w8 hown4 hg4; have HR8 := Lib.hid (hown4.rd strLay); have HB8 := Lib.hid (HG.out _ hg4).1; have HBb := Lib.hid (HG.out _ hg4).2; clear hown4 hg4)
            | fail)
          have HE8 := Lib.hid (HEb.out.on HBb.out)
          have HRs8 := Lib.hid (HRs.out.now HBb.out)
          have HRn8 := Lib.hid (HRn.out.now HBb.out)
          clear HEb HRs HRn HB7 HB9 HO9 HO0 HR0 HB0 hc HG
          go_wp2_with fail
          refine (digest_n ns.length (ns.set k tk) _ c9 _ (by simp) (HV.out.on HB8.out) HR8.out (by have := HNl.out; omega) HNy.out).mono ?_
          rintro e w10 ⟨rfl, hb⟩
          have HN10 := Lib.hid hb
          have HB10 := Lib.hid (HB8.out.trans (hb.mono HB8.out.size))
          clear hb
          rw [HDg.out]
          go_wp2_with fail
          refine (digest_n texts.length texts _ c _ rfl (HV.out.on HB10.out) (HR.out.now HB10.out) (by omega) HX.out).mono ?_
          rintro e w11 ⟨rfl, hb⟩
          have HN11 := Lib.hid hb
          have HB11 := Lib.hid (HB10.out.trans (hb.mono HB10.out.size))
          clear hb
          rw [HD1.out]
          have HE11 := Lib.hid (HE8.out.on (HN10.out.trans (HN11.out.mono HN10.out.size)))
          have HRs11 := Lib.hid (HRs8.out.now (HN10.out.trans (HN11.out.mono HN10.out.size)))
          have HRn11 := Lib.hid (HRn8.out.now (HN10.out.trans (HN11.out.mono HN10.out.size)))
          clear HE8 HRs8 HRn8 HN10 HN11 HB8 HBb
          go_wp2_with fail
          refine (digest_n texts.length less _ c3 _ HLL.out (HV.out.on HB11.out) HE11.out.less (by omega) HXs.out).mono ?_
          rintro e w12 ⟨rfl, hb⟩
          have HN12 := Lib.hid hb
          have HB12 := Lib.hid (HB11.out.trans (hb.mono HB11.out.size))
          clear hb
          rw [HD2.out]
          have HRb12 := Lib.hid (HE11.out.rb.now HN12.out)
          have HRs12 := Lib.hid (HRs11.out.now HN12.out)
          have HRn12 := Lib.hid (HRn11.out.now HN12.out)
          have hbl := HFs2.out
          clear HE11 HRs11 HRn11 HN12
          subst hbl
          go_wp2_with fail
          refine (intsW_refl b _ _ c6 c5 _ HRs12.out HRb12.out (by omega)).mono ?_
          rintro e w13 ⟨rfl, hb⟩
          have HN13 := Lib.hid hb
          have HB13 := Lib.hid (HB12.out.trans (hb.mono HB12.out.size))
          clear hb
          go_wp2_with fail
          refine (digest_n ns.length ns _ c7 _ rfl (HV.out.on HB13.out) (HRn12.out.now HN13.out) (by have := HNl.out; omega) HNx.out).mono ?_
          rintro e w14 ⟨rfl, hb⟩
          have HB14 := Lib.hid (HB13.out.trans (hb.mono HB13.out.size))
          clear hb
          rw [HDn.out]
          have HX3 : Hid ((pre ++ (line ++ post)).length = (pre ++ post).length + line.length) := Lib.hid (by simp; omega)
          have HY3 : Hid ((pre ++ post).take pre.length ++ line ++ (pre ++ post).drop pre.length = pre ++ (line ++ post)) := Lib.hid (by simp)
          have HPy : Hid (pre.length ≤ (pre ++ post).length) := Lib.hid (by simp)
          generalize pre ++ (line ++ post) = X at *
          generalize pre ++ post = Y at *
          have e1 : ((X.length : Int) != (Y.length : Int) + (line.length : Int)) = false := by have := HX3.out; simp; omega
          have e2 : (bs ([] : List UInt8)).toList.isEmpty = true := by rw [bs_toList]; rfl
          have e3 : (bs line).toList.isEmpty = (bs tk).toList.isEmpty := by
            rw [bs_toList, bs_toList, Bool.eq_iff_iff, List.isEmpty_iff, List.isEmpty_iff]
            exact HD4.out
          have s1 : (bs X).size = X.length := bs_size X
          have s2 : (bs Y).size = Y.length := bs_size Y
          have s3 : (bs line).size = line.length := bs_size line
          have hxl := HDl.out
          have hcq := HC.out _ HB14.out
          have hyl : Y.length ≤ 1000 := by have := HX3.out; omega
          have hll3 : line.length ≤ 1000 := by have := HX3.out; omega
          go_wp2_with fail
          clear e1 e2 e3 hcq
          go_loopw [20] (fun i wr => ∃ n : Nat, n ≤ pre.length ∧ i = .int .i64 n ∧ Below w.heap.size w wr) (fun i _ => pre.length + 1 - (intOf i).toNat)
          case atStart => exact ⟨0, Nat.zero_le _, rfl, HB14.out⟩
          case round =>
            obtain ⟨n, hn', rfl, hb⟩ := hrel
            have HB := Lib.hid hb
            clear hb
            have hpy := HPy.out
            have hx1 : (bs Y).extract 0 n = bs (Y.take n) := bs_take Y n
            have hx2 : (bs Y).extract n Y.length = bs (Y.drop n) := bs_drop Y n
            have hl1 : (Y.take n).length ≤ 1000 := by rw [List.length_take]; omega
            have hl2 : (Y.drop n).length ≤ 1000 := by rw [List.length_drop]; omega
            have HT : Hid (n = pre.length → (Y.take n ++ line) ++ Y.drop n = X) := Lib.hid (fun h => by rw [h]; exact HY3.out)
            generalize Y.take n = y1 at *
            generalize Y.drop n = y2 at *
            go_wp2_with fail
            refine wp_region_det (S := Below wr.heap.size wr) (by kernel_rfl) (by kernel_rfl) ((Below.refl _ _).drew) ?_
            rw [List.toList_toArray]
            repeat (first
              | ((with_reducible show Det _ _ _ _ (Oper.mk _ (Op.binOp .add 9 _ _ _) _ _ _ _ :: _) _); refine Det.cat (by rfl) rfl Tryd.underlying9 rfl rfl (by first | omega | (simp; done) | (simp; omega) | (simp only [List.length_append, List.length_cons, List.length_nil]; omega)) ?_; simp only [Act.put, List.setIfInBounds_toArray, List.set_cons_zero, List.set_cons_succ, List.getElem_toArray, List.getElem_cons_zero, List.getElem_cons_succ])
              | (refine Det.skip (by rfl) ?_; simp only [Act.put, List.setIfInBounds_toArray, List.set_cons_zero, List.set_cons_succ, List.getElem_toArray, List.getElem_cons_zero, List.getElem_cons_succ])
              | (refine Det.read (v := ?_) (by rfl) ?_ ?_; rotate_left; (· (intro wq hSq; skip; go_simp; try with_reducible rfl)); simp only [Act.put, List.setIfInBounds_toArray, List.set_cons_zero, List.set_cons_succ, List.getElem_toArray, List.getElem_cons_zero, List.getElem_cons_succ])
              | fail)
            refine Det.done fun wz hz => ?_
            have HZ := Lib.hid (HB.out.trans (hz.mono HB.out.size))
            clear hz
            cases hq : ((bs (y1 ++ (line ++ y2))).toList == (bs X).toList)
            · have hlt3 : n < pre.length := by
                rcases Nat.lt_or_ge n pre.length with h | h
                · exact h
                · have h1 := HT.out (by omega)
                  rw [List.append_assoc] at h1
                  rw [h1] at hq
                  simp at hq
              go_wp2_with fail
              go_roundw
              case rel => exact ⟨n + 1, by omega, by go_num, HZ.out⟩
              case measure => simp [intOf]; omega
            · go_wp2_with fail
              go_ret
              exact ⟨rfl, HZ.out⟩
theorem u8_wf {n : Int} (h : (Lit.int .u8 n).wf = true) : 0 ≤ n ∧ n ≤ 255 := by
  simp [Lit.wf, IntKind.min, IntKind.max, IntKind.bits, IntKind.signed] at h
  omega
theorem erase10_int (texts : List (List UInt8)) (at_ : Int) (word : List UInt8) (A : Option Addr) (c : Nat) (w : World) (hV : Vs w.heap.size w) (hr : RdL 1 strE w w.heap.size A texts) (hn : texts.length ≤ 9223372036854775807) (hat : 0 ≤ at_ ∧ at_ ≤ 255) :
    Calls Tryd.prog 5 #[.slice A texts.length c, .int .u8 at_, .string (bs word)] w fun e w' => e = .returned (.bool true) ∧ Below w.heap.size w w' := by
  obtain ⟨n, rfl⟩ : ∃ n : Nat, at_ = n := ⟨at_.toNat, by omega⟩
  exact erase10_any texts n word A c w hV hr hn (by omega)
end Go.Proofs.YtpcfmmiiokbjbaaDoor
