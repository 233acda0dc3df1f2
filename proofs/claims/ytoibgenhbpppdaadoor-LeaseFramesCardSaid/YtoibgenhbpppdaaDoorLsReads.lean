/- The walk of LeaseReads. -/
import Derived.Test.YtoibgenhbpppdaaDoorLsF
namespace Go.Proofs.YtoibgenhbpppdaaDoor
open Go.RowKit

theorem frame_inj {a b : Int} {s t : List UInt8} (h : framedB a s = true) (e : frameF a s = frameF b t) : a = b ∧ s = t := by
  cases h2 : framedB b t with
  | true =>
    have h3 := openF_back h
    rw [e, openF_back h2] at h3
    injection h3 with e1 h3
    injection h3 with e2 _
    exact ⟨e1.symm, e2.symm⟩
  | false =>
    rw [frame_no h2, frame_yes h] at e
    have := congrArg List.length e
    simp [encI] at this
theorem frame_ne {a : Int} {s : List UInt8} (h : framedB a s = true) : frameF a s ≠ [] := fun e => by
  rw [frame_yes h] at e
  have := congrArg List.length e
  simp [encI] at this
theorem valid_one {a : Int} {s : List UInt8} (h : framedB a s = true) : validP [frameF a s] = ([s], a) := by
  have h0 := (framedB_iff a s).1 h
  unfold Framed at h0
  simp [validP, vstep, openF_back h]
  omega
theorem valid_text (l : List UInt8) : ((validP [l]).1 = [] ) ∨ ∃ n r, framedB n r = true ∧ l = frameF n r ∧ (validP [l]).1 = [r] := by
  by_cases h : (openF l).2.2 = true
  · have h1 := openF_inv h
    have h2 := (framedB_iff _ _).2 h1.1
    right
    refine ⟨(openF l).1, (openF l).2.1, h2, h1.2, ?_⟩
    rw [h1.2, valid_one h2, ← h1.2]
  · left
    simp [validP, vstep, h]
/-- The number of a decimal form. -/
def dval (l : List UInt8) : Int := l.foldl (fun a c => 10 * a + ((c.toNat : Int) - 48)) 0
theorem dval_snoc (l : List UInt8) (c : UInt8) : dval (l ++ [c]) = 10 * dval l + ((c.toNat : Int) - 48) := by simp [dval]
theorem dval_dd : ∀ u : Nat, dval (Lib.decDigits u) = u := by
  intro u
  induction u using Nat.strongRecOn with
  | _ u ih =>
    by_cases h : u < 10
    · rw [dd_small h]
      have := dig_nat h
      simp [dval, this]
      omega
    · rw [dd_big h, dval_snoc, ih (u / 10) (by omega), dig_nat (by omega)]
      omega
theorem dval_from : ∀ (l : List UInt8) (a : Int), 0 ≤ a → (∀ c ∈ l, 48 ≤ c.toNat ∧ c.toNat ≤ 57) →
    0 ≤ l.foldl (fun a c => 10 * a + ((c.toNat : Int) - 48)) a ∧ l.foldl (fun a c => 10 * a + ((c.toNat : Int) - 48)) a < (a + 1) * 10 ^ l.length
  | [], a, h, _ => by simp; omega
  | c :: r, a, h, hc => by
    have h1 := hc c (by simp)
    have h2 := dval_from r (10 * a + ((c.toNat : Int) - 48)) (by omega) (fun d hd => hc d (by simp [hd]))
    refine ⟨h2.1, Int.lt_of_lt_of_le h2.2 ?_⟩
    rw [List.length_cons, Int.pow_succ, Int.mul_comm (10 ^ r.length) 10, ← Int.mul_assoc]
    exact Int.mul_le_mul_of_nonneg_right (by omega) (Int.le_of_lt (Int.pow_pos (by decide)))
theorem dval_bound (l : List UInt8) (h : l.length ≤ 10) (hc : ∀ c ∈ l, 48 ≤ c.toNat ∧ c.toNat ≤ 57) : 0 ≤ dval l ∧ dval l < 10000000000 := by
  have h1 := dval_from l 0 (by omega) hc
  refine ⟨h1.1, Int.lt_of_lt_of_le h1.2 ?_⟩
  have h2 : 10 ^ l.length ≤ 10 ^ 10 := Nat.pow_le_pow_right (by decide) h
  have h3 : (10 : Int) ^ l.length = ((10 ^ l.length : Nat) : Int) := by simp
  rw [h3]
  simp only [Int.zero_add, Int.one_mul]
  omega

set_option maxRecDepth 100000 in
set_option maxHeartbeats 8000000 in
theorem reads47_any (a b : Int) (s t text : List UInt8) (w : World) (hV : Vs w.heap.size w) (ha : InInt a) (hb : InInt b)
    (hs : s.length ≤ 9223372036854775807) (ht : t.length ≤ 9223372036854775807) (hx : text.length ≤ 9223372036854775807) :
    Calls Tryd.prog 6 #[.int .i64 a, .string (bs s), .int .i64 b, .string (bs t), .string (bs text)] w fun e w' => e = .returned (.bool true) ∧ Below w.heap.size w w' := by
  have HV := Lib.hid hV
  have HA := Lib.hid ha
  have HBi := Lib.hid hb
  have z1 : (bs s).size = s.length := bs_size s
  have z2 : (bs t).size = t.length := bs_size t
  have z3 : (bs text).size = text.length := bs_size text
  clear hV ha hb
  go_enter Tryd.func6, Tryd.ntmps6
  go_wp2_with fail
  refine (small47_any _ HV.out).mono ?_
  rintro e w1 ⟨rfl, hb1⟩
  have HB1 := Lib.hid hb1
  clear hb1
  by_cases g1 : (300 : Int) < s.length
  · go_wp2_with fail
    go_ret
    exact ⟨rfl, HB1.out⟩
  have d1 : decide (300 < s.length) = false := by simp; omega
  by_cases g2 : (300 : Int) < t.length
  · go_wp2_with fail
    go_ret
    exact ⟨rfl, HB1.out⟩
  have d2 : decide (300 < t.length) = false := by simp; omega
  by_cases g3 : (300 : Int) < text.length
  · go_wp2_with fail
    go_ret
    exact ⟨rfl, HB1.out⟩
  have d3 : decide (300 < text.length) = false := by simp; omega
  go_wp2_with fail
  refine (frame_any a s _ (⟨HB1.out.size, fun w' hb => HV.out.2 w' ((HB1.out.mono HV.out.le).trans (hb.mono HV.out.le))⟩ : Vs w.heap.size _) HA.out (by omega)).mono ?_
  rintro e w2 ⟨rfl, hb2⟩
  have HB2 := Lib.hid (HB1.out.trans (hb2.mono HB1.out.size))
  clear hb2 HB1
  go_wp2_with fail
  refine (frame_any b t _ (⟨HB2.out.size, fun w' hb => HV.out.2 w' ((HB2.out.mono HV.out.le).trans (hb.mono HV.out.le))⟩ : Vs w.heap.size _) HBi.out (by omega)).mono ?_
  rintro e w3 ⟨rfl, hb3⟩
  have HB3 := Lib.hid (HB2.out.trans (hb3.mono HB2.out.size))
  clear hb3 HB2
  go_upto_region 6 with fail
  go_cut [14] (fun x wx => x = .bool (framedB a s) ∧ w3 = wx)
  case first =>
    have HD := Lib.hid (show framedB a s = (decide (1 ≤ a) && (decide (a ≤ 1073741824) && decide (s.length ≤ 20000))) from rfl)
    by_cases e1 : 1 ≤ a
    · by_cases e2 : a ≤ 1073741824
      · have HE : Hid (framedB a s = true) := Lib.hid (by rw [HD.out]; simp; omega)
        go_wp2_with fail
        go_meet
        exact ⟨by rw [HE.out], rfl⟩
      · have HE : Hid (framedB a s = false) := Lib.hid (by rw [HD.out]; simp; omega)
        go_wp2_with fail
        go_meet
        exact ⟨by rw [HE.out], rfl⟩
    · have HE : Hid (framedB a s = false) := Lib.hid (by rw [HD.out]; simp; omega)
      go_wp2_with fail
      go_meet
      exact ⟨by rw [HE.out], rfl⟩
  case rest =>
    obtain ⟨rfl, rfl⟩ := hcut
    obtain ⟨fr, hfr⟩ : ∃ f, f = framedB a s := ⟨_, rfl⟩
    rw [← hfr]
    have HFr := Lib.hid hfr.symm
    clear hfr
    go_upto_region 7 with fail
    go_cut [50] (fun x wx => x = .bool false ∧ w3 = wx)
    case first =>
      cases fr
      · have e1 : (bs (frameF a s)).toList = [] := by rw [frame_no HFr.out, bs_toList]
        have e2 : (bs (frameF a s)).toList.isEmpty = true := by rw [e1]; rfl
        go_wp2_with fail
        go_meet
        exact ⟨by simp, rfl⟩
      · have e2 : (bs (frameF a s)).toList.isEmpty = false := by rw [bs_toList]; simpa using frame_ne HFr.out
        have e3 : ¬ (bs (frameF a s)).toList = [] := by rw [bs_toList]; exact frame_ne HFr.out
        go_wp2_with fail
        go_meet
        exact ⟨by simp, rfl⟩
    case rest =>
      obtain ⟨rfl, rfl⟩ := hcut
      go_upto_if 51 with fail
      go_cut [] (fun wx => Below w.heap.size w wx)
      case first =>
        cases fr
        · go_wp2_with fail
          go_meet
          exact HB3.out
        · go_wp2_with fail
          have hb4 : Below w3.heap.size w3 (w3.alloc (.cells #[.string (bs (frameF a s))] 9)) := (Below.refl _ _).alloc (Nat.le_refl _) _
          have hr4 := RdL.block strLay w3 [frameF a s] #[.string (bs (frameF a s))] 9 rfl w3.heap.size rfl
          have HB4 := Lib.hid (HB3.out.trans (hb4.mono HB3.out.size))
          have hv := valid_any [frameF a s] (some ⟨w3.heap.size, 0, none⟩) 1 _ (⟨HB4.out.size, fun w' hb => HV.out.2 w' ((HB4.out.mono HV.out.le).trans (hb.mono HV.out.le))⟩ : Vs w.heap.size _) hr4 (fun x hx => by
            simp only [List.mem_singleton] at hx
            subst hx
            rw [frame_yes HFr.out, List.length_append]
            have h1 := encI_len a HA.out
            have h2 := encT_len s ⟨by omega, by omega⟩
            omega) (by simp)
          rw [valid_one HFr.out] at hv
          refine hv.mono ?_
          rintro e w5 ⟨A5, c5, rfl, ho5, hb5⟩
          have HO5 := Lib.hid (ho5.rd strLay)
          have HB5 := Lib.hid (HB4.out.trans (hb5.mono HB4.out.size))
          clear hb4 hr4 hv ho5 hb5 HB4
          go_wp2_with fail
          have hb6 : Below w5.heap.size w5 (w5.alloc (.cells #[.string (bs s)] 9)) := (Below.refl _ _).alloc (Nat.le_refl _) _
          have hr6 := RdL.block strLay w5 [s] #[.string (bs s)] 9 rfl w5.heap.size rfl
          refine (strings_any [s] [s] A5 (some ⟨w5.heap.size, 0, none⟩) c5 1 _ (HO5.out.now hb6) hr6 (by simp) (by simp)).mono ?_
          rintro e w7 ⟨rfl, hb7⟩
          have HB7 := Lib.hid ((HB5.out.trans (hb6.mono HB5.out.size)).trans (hb7.mono (HB5.out.trans (hb6.mono HB5.out.size)).size))
          clear hb6 hr6 hb7 HO5 HB5
          by_cases q : frameF a s = frameF b t
          · have h0 := frame_inj HFr.out q
            have p1 : ((bs (frameF a s)).toList == (bs (frameF b t)).toList) = true := by rw [bs_beq, q]; simp
            have p2 : (a == b) = true := by simp [h0.1]
            have p3 : ((bs s).toList == (bs t).toList) = true := by rw [bs_beq, h0.2]; simp
            clear h0 q
            go_wp2_with fail
            go_meet
            exact HB7.out
          · have p1 : ((bs (frameF a s)).toList == (bs (frameF b t)).toList) = false := by rw [bs_beq]; simpa using q
            by_cases e1 : a = b
            · have e2 : ¬ s = t := fun e2 => q (by rw [e1, e2])
              have p2 : (a == b) = true := by simp [e1]
              have p3 : ((bs s).toList == (bs t).toList) = false := by rw [bs_beq]; simpa using e2
              clear e1 e2 q
              go_wp2_with fail
              go_meet
              exact HB7.out
            · have p2 : (a == b) = false := by simpa using e1
              clear e1 q
              go_wp2_with fail
              go_meet
              exact HB7.out
      case rest =>
        have HB8 := Lib.hid hcut
        clear hcut HB3
        go_wp2_with fail
        have hb9 : Below wc.heap.size wc (wc.alloc (.cells #[.string (bs text)] 9)) := (Below.refl _ _).alloc (Nat.le_refl _) _
        have hr9 := RdL.block strLay wc [text] #[.string (bs text)] 9 rfl wc.heap.size rfl
        have HB9 := Lib.hid (HB8.out.trans (hb9.mono HB8.out.size))
        refine (valid_any [text] (some ⟨wc.heap.size, 0, none⟩) 1 _ (⟨HB9.out.size, fun w' hb => HV.out.2 w' ((HB9.out.mono HV.out.le).trans (hb.mono HV.out.le))⟩ : Vs w.heap.size _) hr9 (fun x hx => by
            simp only [List.mem_singleton] at hx
            subst hx
            omega) (by simp)).mono ?_
        rintro e w10 ⟨A10, c10, rfl, ho10, hb10⟩
        have HR10 := Lib.hid (ho10.rd strLay)
        have HB10 := Lib.hid (HB9.out.trans (hb10.mono HB9.out.size))
        have HT := Lib.hid (valid_text text)
        clear hb9 hr9 ho10 hb10 HB8 HB9
        generalize (validP [text]).1 = out at *
        rcases HT.out with e1 | ⟨n, r, hfr, e1, e2⟩
        · subst e1
          go_wp2_with fail
          go_ret
          exact ⟨rfl, HB10.out⟩
        · have HFn := Lib.hid hfr
          have HTx := Lib.hid e1
          subst e2
          obtain ⟨b0, off0, hA0, hb0, hc0⟩ := rd_str' (k := 0) HR10.out (by simp)
          subst hA0
          rw [List.getElem_cons_zero, Nat.add_zero] at hc0
          have h0 := (framedB_iff n r).1 hfr
          have hr1 : framedB 1 r = true := (framedB_iff 1 r).2 ⟨by omega, by omega, h0.2.2⟩
          have hn0 : 0 ≤ n := by have := h0.1; omega
          have hit : Lib.itoa n = Lib.decDigits n.toNat := by rw [Lib.itoa, if_neg (by omega)]
          have hdl : (Lib.decDigits n.toNat).length ≤ 10 := dd_len 9 n.toNat (by have := h0.2.1; omega)
          have hd0 : 1 ≤ (Lib.decDigits n.toNat).length := by have := dd_ne n.toNat; cases h : Lib.decDigits n.toNat <;> simp_all
          have htx : text = Lib.decDigits n.toNat ++ 59 :: encT r := by rw [e1, frame_yes hfr, encI, hit]; simp
          have hl1 : (frameF 1 r).length = 2 + (encT r).length := by rw [frame_yes hr1]; simp [encI, Lib.itoa, Lib.decDigits]; omega
          have hl2 : text.length = (Lib.decDigits n.toNat).length + 1 + (encT r).length := by rw [htx]; simp; omega
          have HDv : Hid (dval (Lib.decDigits n.toNat) = n) := Lib.hid (by rw [dval_dd]; omega)
          have HDc := Lib.hid (dd_dig n.toNat)
          have HDt : Hid (text.take (Lib.decDigits n.toNat).length = Lib.decDigits n.toNat) := Lib.hid (by rw [htx]; simp)
          have hz5 : (bs (frameF 1 r)).size = (frameF 1 r).length := bs_size _
          have hr300 : r.length ≤ 300 := by
            have : r.length ≤ (encT r).length := by simp [encT]; omega
            omega
          clear e1 h0 hr1 hit htx hfr HT HR10
          generalize Lib.decDigits n.toNat = ds at *
          obtain ⟨D, hD⟩ : ∃ D, D = ds.length := ⟨_, rfl⟩
          rw [← hD] at hdl hd0 hl2 HDt
          have HDl := Lib.hid hD
          clear hD
          go_upto_region 18 with fail
          go_cut [17] (fun x wx => x = .int .i64 D ∧ Below w.heap.size w wx ∧ wx.cell? ⟨b0, off0, none⟩ = some (.string (bs r)))
          case first =>
            go_wp2_with fail
            refine (frame_any 1 r _ (⟨HB10.out.size, fun w' hb => HV.out.2 w' ((HB10.out.mono HV.out.le).trans (hb.mono HV.out.le))⟩ : Vs w.heap.size _) ⟨by decide, by decide⟩ (by omega)).mono ?_
            rintro e w11 ⟨rfl, hb11⟩
            have HB11 := Lib.hid (HB10.out.trans (hb11.mono HB10.out.size))
            have HC11 := Lib.hid ((hb11.cell (p := ⟨b0, off0, none⟩) hb0).trans hc0)
            clear hb11
            generalize (frameF 1 r).length = L1 at *
            go_wp2_with fail
            go_meet
            exact ⟨by congr 1; omega, HB11.out, HC11.out⟩
          case rest =>
            obtain ⟨rfl, hbc, hcc⟩ := hcut
            have HB11 := Lib.hid hbc
            clear hbc hc0 HB10 hb0
            go_wp2_with fail
            go_loop [18, 19] (fun e i => ∃ k : Nat, k ≤ D ∧ i = .int .i64 k ∧ e = .int .i64 (dval (ds.take k))) (fun _ i => D - (intOf i).toNat)
            case atStart => exact ⟨0, Nat.zero_le _, rfl, rfl⟩
            case round =>
              obtain ⟨k, hk, rfl, rfl⟩ := hrel
              by_cases hlt : k < D
              · have hkt : k < text.length := by omega
                have hkd : k < ds.length := by have := HDl.out; omega
                have hek : text[k] = ds[k] := by
                  have h1 : (text.take D)[k]? = some text[k] := by rw [List.getElem?_take, if_pos hlt, List.getElem?_eq_getElem hkt]
                  rw [HDt.out, List.getElem?_eq_getElem hkd] at h1
                  exact (Option.some.inj h1).symm
                have HSn : Hid (dval (ds.take (k + 1)) = 10 * dval (ds.take k) + ((ds[k].toNat : Int) - 48)) := Lib.hid (by rw [List.take_succ_eq_append_getElem hkd, dval_snoc])
                have hcb := HDc.out ds[k] (List.getElem_mem hkd)
                have hvb := dval_bound (ds.take k) (by rw [List.length_take]; omega) (fun c hc => HDc.out c (List.mem_of_mem_take hc))
                have hget : ∀ h, (bs text)[k]'h = ds[k] := fun h => hek
                clear hek
                generalize ds[k] = c at *
                generalize dval (ds.take k) = v at *
                have hb0 := hvb.1
                have hb1 := hvb.2
                have hc0 := hcb.1
                have hc1 := hcb.2
                have q1 : decide ((c.toNat : Int) < 48) = false := by simp; omega
                have q2 : decide ((57 : Int) < c.toNat) = false := by simp; omega
                have q3 : decide (c.toNat < 48) = false := by simp; omega
                have q4 : decide (57 < c.toNat) = false := by simp; omega
                clear hvb hcb
                go_wp2_with fail
                go_round
                case rel => exact ⟨k + 1, by omega, by go_num, by rw [HSn.out]⟩
                case measure => simp [intOf]; omega
              · have HV0 : Hid (dval (ds.take k) = n) := Lib.hid (by rw [List.take_of_length_le (by have := HDl.out; omega)]; exact HDv.out)
                rw [HV0.out]
                have h0 := (framedB_iff n r).1 HFn.out
                have hin : InInt n := by unfold Framed at h0; exact ⟨by omega, by omega⟩
                have HIn := Lib.hid hin
                clear h0 hin
                go_wp2_with fail
                refine (frame_any n r _ (⟨HB11.out.size, fun w' hb => HV.out.2 w' ((HB11.out.mono HV.out.le).trans (hb.mono HV.out.le))⟩ : Vs w.heap.size _) HIn.out (by omega)).mono ?_
                rintro e w12 ⟨rfl, hb12⟩
                have HB12 := Lib.hid (HB11.out.trans (hb12.mono HB11.out.size))
                have q : ((bs (frameF n r)).toList == (bs text).toList) = true := by rw [bs_beq, ← HTx.out]; simp
                clear hb12
                go_wp2_with fail
                go_ret
                exact ⟨by simp [q], HB12.out⟩
end Go.Proofs.YtoibgenhbpppdaaDoor
