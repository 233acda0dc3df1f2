/- Contracts and plain laws, joined: SyBlanks. -/
import Derived.Test.YtnaejabgkfhlbaaDoorQbc
import Derived.Test.YtnaejabgkfhlbaaDoorQao
import Derived.Test.YtnaejabgkfhlbaaDoorQaq
/- The walk of lingualaw12.SyntaxBlanks. -/
set_option linter.unusedSimpArgs false
set_option linter.unusedVariables false
namespace Go.Proofs.YtnaejabgkfhlbaaDoor
open Go.RowKit

-- blTail : the end of a round of the first loop
def u8E (c : UInt8) : List Value := [.int .u8 c.toNat]
def numE (n : Int) : List Value := [.int .i64 n]
theorem numLay : Lay 1 numE := ⟨fun _ => rfl, fun x u hu => by simp only [numE, List.mem_singleton] at hu; subst hu; rfl⟩
theorem slNum : SlTy Tryd.prog 39 3 1 8 := by
  obtain ⟨i, hi, h0, h1, h2⟩ := info_parts (show (Tryd.prog.info? 3).map (fun i => (i.zero, i.size, i.bytes)) = some (some (.int .i64 0), 1, 8) by kernel_rfl)
  exact ⟨Tryd.underlying39, ⟨i, _, hi, h0, h1, h2, rfl⟩, by decide, by decide⟩
theorem rd_u8 {w : World} {A : Option Addr} {xs : List UInt8} {k : Nat} {x : UInt8} (h : RdL 1 u8E w w.heap.size A xs) (hk : xs[k]? = some x) : ∃ b off, A = some ⟨b, off, none⟩ ∧ b < w.heap.size ∧ w.cell? ⟨b, off + k, none⟩ = some (.int .u8 x.toNat) := by
  obtain ⟨b, off, e, hb, hc⟩ := h k x hk
  exact ⟨b, off, e, hb, by simpa using hc 0 _ rfl⟩
theorem moreB_ext {bl : List UInt8} {k : Nat} {b : UInt8} (h : bl[k]? = some b) : (⟨#[32, 10, 9, 32, 32]⟩ : ByteArray).extract 0 (b.toNat % 5) = bs (moreB bl k) := by
  unfold moreB
  rw [h]
  exact bs_take [32, 10, 9, 32, 32] _
theorem moreB_out {bl : List UInt8} {k : Nat} (h : bl.length ≤ k) : moreB bl k = [] := by
  unfold moreB
  rw [List.getElem?_eq_none h]
set_option maxRecDepth 100000 in
set_option maxHeartbeats 8000000 in
theorem blanks12_any (B : Nat) (l0 bl : List UInt8) (A : Option Addr) (cc : Nat) (w : World) (hV : Vs B w) (hlm : l0.length ≤ 9223372036854775807) (hbm : bl.length ≤ 9223372036854775807) (hrd : RdL 1 u8E w w.heap.size A bl) :
    Calls Tryd.prog 5 #[.string (bs l0), .slice A bl.length cc] w fun e w' => e = .returned (.bool true) ∧ Below w.heap.size w w' := by
  have HV := Lib.hid hV
  have HRd := Lib.hid hrd
  have hsl : (bs l0).size = l0.length := bs_size l0
  have hex := ext_min l0 700 (by decide)
  rw [show (700 : Int).toNat = 700 from rfl] at hex
  have hll : (l0.take 700).length ≤ 700 := by rw [List.length_take]; omega
  generalize l0.take 700 = l at *
  have HEx := Lib.hid hex
  clear hV hex hrd
  go_enter Tryd.func5, Tryd.ntmps5
  go_wp2_with fail
  refine (small12_any B _ HV.out).mono ?_
  rintro e w1 ⟨rfl, hb1⟩
  have HS1 := Lib.hid hb1
  clear hb1
  go_wp2_with fail
  rw [HEx.out]
  refine (lexLex_any l _ (by omega)).mono ?_
  rintro e w2 ⟨hb2, hout⟩
  have HS2 := Lib.hid (HS1.out.trans (hb2.mono HS1.out.size))
  have HE2 : Hid (AllPA [] w2) := Lib.hid AllPA.nil_
  clear hb2 HS1
  have hsz : (bs l).size = l.length := bs_size l
  cases hlx : lexL l with
  | error q =>
    obtain ⟨a, x⟩ := q
    rw [hlx] at hout
    simp only at hout
    subst hout
    have hx0 : (x != 0) = true := by simpa using (lexL_err hlx).1
    clear hlx
    go_wp2_with fail
    go_ret
    exact ⟨rfl, HS2.out⟩
  | ok ts =>
    rw [hlx] at hout
    simp only at hout
    obtain ⟨At, ct, rfl, hown⟩ := hout
    have HLx := Lib.hid hlx
    have hfin := lex_fine (lexL_ok hlx).2
    obtain ⟨g, rfl, hg1, hg2, hct⟩ := own_some hown hfin.1.ne
    have htok : TokAt w2 g 0 ts := fun k t hk j v hv => by
      obtain ⟨b2, off2, e2, _, h2⟩ := hown.rd tokLay k t hk
      injection e2 with e2
      injection e2 with e3 e4
      subst e3 e4
      exact h2 j v hv
    have HTk := Lib.hid htok
    have htl : ts.length ≤ 701 := by have := lex_count (lexL_ok hlx).2; omega
    have HTl := Lib.hid (fun k (hk : k ≤ ts.length) => show (tF ts bl k).length ≤ 494205 by
      have h1 := tF_len bl (lexL_ok HLx.out).2 k
      have h2 : k * (l.length + 5) ≤ 701 * 705 := Nat.mul_le_mul (by omega) (by omega)
      omega)
    have HFt := Lib.hid (fun k => text_fit (lexL_ok HLx.out).2 k)
    clear hown htok hfin hlx
    cases d60 : decide ((60 : Int) < (bl.length : Int)) with
    | true =>
      go_wp2_with fail
      go_ret
      exact ⟨rfl, HS2.out⟩
    | false =>
    have HRd2 := Lib.hid (HRd.out.now HS2.out)
    go_wp2_with fail
    go_loopw [9, 10, 11] (fun v9 v10 v11 wr => ∃ (k : Nat) (A2 : Option Addr) (c2 : Nat), k ≤ ts.length ∧ v9 = .string (bs (tF ts bl k)) ∧ v10 = .slice A2 k c2 ∧ v11 = .int .i64 k ∧ OwnL wr w2.heap.size 3 1 numE A2 c2 (plF ts bl k) ∧ Below w2.heap.size w2 wr) (fun _ _ v _ => ts.length - (intOf v).toNat)
    case atStart => exact ⟨0, none, 0, Nat.zero_le _, rfl, rfl, rfl, OwnL.nil_, Below.refl _ _⟩
    case round =>
      obtain ⟨k, A2, c2, hk, rfl, rfl, rfl, hown, hbr⟩ := hrel
      have HO := Lib.hid hown
      have HBr := Lib.hid hbr
      have HTk2 := Lib.hid (HTk.out.keep (hbr.block g hg2))
      have HRk := Lib.hid (HRd2.out.now hbr)
      have hgr : g < wr.heap.size := Nat.lt_of_lt_of_le hg2 hbr.size
      clear hown
      by_cases hlt : k < ts.length
      · obtain ⟨u, hu⟩ : ∃ u, ts[k]? = some u := ⟨_, List.getElem?_eq_getElem hlt⟩
        have d1 : decide ((k : Int) < (ts.length : Int)) = true := by simp; omega
        have hz1 := HTl.out k hk
        have hz2 := moreB_len bl k
        have HSuc := Lib.hid (tF_succ ts bl k)
        obtain ⟨t, ht⟩ : ∃ t, t = tF ts bl k := ⟨_, rfl⟩
        obtain ⟨mb, hmb⟩ : ∃ m, m = moreB bl k := ⟨_, rfl⟩
        rw [← ht] at hz1 ⊢
        rw [← hmb] at hz2
        have HTt := Lib.hid ht
        have HMb := Lib.hid hmb
        clear ht hmb
        have HSh := Lib.hid (shAt_of hu)
        have hz4 := HFt.out k
        rw [HSh.out] at hz4
        have HLk := Lib.hid (plF_len ts bl k)
        have hsb := hbr.size
        clear hbr
        obtain ⟨t2, ht2⟩ : ∃ x, x = t ++ 32 :: mb := ⟨_, rfl⟩
        have HT2 := Lib.hid ht2
        have hz5 : t2.length ≤ 494210 := by rw [ht2]; simp; omega
        clear ht2
        by_cases hb : k < bl.length
        · obtain ⟨b, hbk⟩ : ∃ b, bl[k]? = some b := ⟨_, List.getElem?_eq_getElem hb⟩
          obtain ⟨g2, o2, rfl, hg3, hc⟩ := rd_u8 HRk.out hbk
          have d2 : decide ((k : Int) < (bl.length : Int)) = true := by simp; omega
          have HMx : Hid ((⟨#[32, 10, 9, 32, 32]⟩ : ByteArray).extract 0 (b.toNat % 5) = bs mb) := Lib.hid (by rw [HMb.out]; exact moreB_ext hbk)
          clear hbk
          go_upto_region 14 with (first
              | ((with_reducible show wpList _ _ _ (Oper.mk _ (Op.binOp .add 9 (Operand.tmp 51) _ _) _ _ _ _ :: _) _ _); rw [HMx.out]; refine wp_cat rfl rfl Tryd.underlying9 rfl rfl (by simp only [List.length_append, List.length_cons, List.length_nil]; omega) ?_)
              | ((with_reducible show wpList _ _ _ (Oper.mk _ (Op.binOp .add 9 _ _ _) _ _ _ _ :: _) _ _); refine wp_cat rfl rfl Tryd.underlying9 rfl rfl (by first | omega | (simp; done) | (simp; omega)) ?_)
              | fail)
          rw [← HT2.out]
          clear hc d2 HMx
          have hzt : (bs t2).size = t2.length := bs_size t2
          go_upto_region 15 with (first
              | (at_builtin; refine wp_append_l rfl (.tmp 59) (.tmp 62) rfl slNum numLay w2.heap.size (xs := plF ts bl k) (ys := [(t2.length : Int)]) (by simp [HLk.out]) rfl (HO.out.alloc _) rfl rfl (RdL.one wr (t2.length : Int) _ _ rfl _ rfl) (by rw [HLk.out]; simp; omega) (by have := HBr.out.size; simp; omega) ?_; intro A7 c7 w7 hown7 hg7 hb7 hat7; have HO7 := Lib.hid hown7; have HB7 := Lib.hid (((HBr.out).alloc HBr.out.size _).trans hb7); clear hown7 hg7 hb7 hat7)
              | fail)
          have cx := (HTk.out.keep (HB7.out.block g hg2)) k u hu 1 (.string (bs u.sh.text)) rfl
          rw [Nat.zero_add] at cx
          have hg7 : g < w7.heap.size := Nat.lt_of_lt_of_le hg2 HB7.out.size
          have hzu : (bs u.sh.text).size = u.sh.text.length := bs_size _
          go_wp2_with (first
              | ((with_reducible show wpList _ _ _ (Oper.mk _ (Op.binOp .add 9 _ _ _) _ _ _ _ :: _) _ _); refine wp_cat rfl rfl Tryd.underlying9 rfl rfl (by first | omega | (simp; done) | (simp; omega)) ?_)
              | fail)
          have HAt : Hid ((t2.length : Int) = (atF ts bl k : Int)) := Lib.hid (by rw [HT2.out, HMb.out, HTt.out]; unfold atF blankF; simp)
          have HNx : Hid (tF ts bl (k + 1) = t2 ++ u.sh.text) := Lib.hid (by rw [HSuc.out, HSh.out, HT2.out, HMb.out, HTt.out]; unfold blankF; simp)
          have HPn : Hid (plF ts bl (k + 1) = plF ts bl k ++ [(t2.length : Int)]) := Lib.hid (by rw [plF_succ, HAt.out])
          go_roundw
          case rel => exact ⟨k + 1, A7, c7, by omega, by rw [HNx.out], by rw [HLk.out], by go_num, by rw [HPn.out]; exact HO7.out, HB7.out⟩
          case measure => simp [intOf]; omega
        · have d2 : decide ((k : Int) < (bl.length : Int)) = false := by simp; omega
          obtain rfl : mb = [] := by rw [HMb.out]; exact moreB_out (by omega)
          have HT3 : Hid (t ++ [32] = t2) := Lib.hid HT2.out.symm
          go_upto_region 14 with (first
              | ((with_reducible show wpList _ _ _ (Oper.mk _ (Op.binOp .add 9 _ _ _) _ _ _ _ :: _) _ _); refine wp_cat rfl rfl Tryd.underlying9 rfl rfl (by first | omega | (simp; done) | (simp; omega)) ?_)
              | fail)
          rw [HT3.out]
          clear d2 HT3
          have hzt : (bs t2).size = t2.length := bs_size t2
          go_upto_region 15 with (first
              | (at_builtin; refine wp_append_l rfl (.tmp 59) (.tmp 62) rfl slNum numLay w2.heap.size (xs := plF ts bl k) (ys := [(t2.length : Int)]) (by simp [HLk.out]) rfl (HO.out.alloc _) rfl rfl (RdL.one wr (t2.length : Int) _ _ rfl _ rfl) (by rw [HLk.out]; simp; omega) (by have := HBr.out.size; simp; omega) ?_; intro A7 c7 w7 hown7 hg7 hb7 hat7; have HO7 := Lib.hid hown7; have HB7 := Lib.hid (((HBr.out).alloc HBr.out.size _).trans hb7); clear hown7 hg7 hb7 hat7)
              | fail)
          have cx := (HTk.out.keep (HB7.out.block g hg2)) k u hu 1 (.string (bs u.sh.text)) rfl
          rw [Nat.zero_add] at cx
          have hg7 : g < w7.heap.size := Nat.lt_of_lt_of_le hg2 HB7.out.size
          have hzu : (bs u.sh.text).size = u.sh.text.length := bs_size _
          go_wp2_with (first
              | ((with_reducible show wpList _ _ _ (Oper.mk _ (Op.binOp .add 9 _ _ _) _ _ _ _ :: _) _ _); refine wp_cat rfl rfl Tryd.underlying9 rfl rfl (by first | omega | (simp; done) | (simp; omega)) ?_)
              | fail)
          have HAt : Hid ((t2.length : Int) = (atF ts bl k : Int)) := Lib.hid (by rw [HT2.out, HMb.out, HTt.out]; unfold atF blankF; simp)
          have HNx : Hid (tF ts bl (k + 1) = t2 ++ u.sh.text) := Lib.hid (by rw [HSuc.out, HSh.out, HT2.out, HMb.out, HTt.out]; unfold blankF; simp)
          have HPn : Hid (plF ts bl (k + 1) = plF ts bl k ++ [(t2.length : Int)]) := Lib.hid (by rw [plF_succ, HAt.out])
          go_roundw
          case rel => exact ⟨k + 1, A7, c7, by omega, by rw [HNx.out], by rw [HLk.out], by go_num, by rw [HPn.out]; exact HO7.out, HB7.out⟩
          case measure => simp [intOf]; omega
      · obtain rfl : k = ts.length := by omega
        have d1 : decide ((ts.length : Int) < (ts.length : Int)) = false := by simp
        have hTl := HTl.out ts.length (Nat.le_refl _)
        have HLaw := Lib.hid (blanks_law (ts := ts) bl HLx.out)
        obtain ⟨T, hT⟩ : ∃ x, x = tF ts bl ts.length := ⟨_, rfl⟩
        rw [← hT] at hTl HLaw ⊢
        have hzT : (bs T).size = T.length := bs_size T
        have HEr : Hid (AllPA [] wr) := Lib.hid AllPA.nil_
        have HR0 := Lib.hid (Below.refl wr.heap.size wr)
        clear hT
        go_wp2_with fail
        refine (parse_any l _ (by omega)).mono ?_
        rintro e w3 ⟨hb3, A3, c3, rfl, hok3, hA3, hcap3⟩
        generalize hq3 : parseL (l) = q at *
        obtain ⟨P3, pos3, er3⟩ := q
        dsimp only at hok3 hcap3 ⊢
        have HQ3 := Lib.hid hq3
        have HOk3 := Lib.hid hok3
        have HB3 := Lib.hid ((HR0.out).trans (hb3.mono (HR0.out).size))
        have HE3 := Lib.hid ((HEr.out).now hb3)
        clear hq3 hok3 hb3 hA3
        have hpl3 : P3.types.length ≤ 20 := by have := parse_len l; rw [HQ3.out] at this; exact this
        have HTh3 := Lib.hid (zero_there w3)
        go_upto_region 17 with (first
            | ((with_reducible show wpList _ _ _ (Oper.mk _ (Op.store 24 (Operand.tmp 12) _) _ _ _ _ :: _) _ _); refine wpList_store_box rfl 24 _ _ rfl w3.heap.size (P3.cs A3 c3) ?x1 ?x2 HTh3.out (by kernel_rfl) (by simp [Value.oneCell']) ?_; (case x1 => rfl); (case x2 => rfl); intro ws3 hr ht hg; (obtain ⟨hpa, hbb⟩ := PA.made2 rfl HOk3.out hcap3 hr hg); have HF3 := Lib.hid (AllPA.cons hpa (HE3.out.now hbb)); have HS3 := Lib.hid (HB3.out.trans (hbb.mono HB3.out.size)); clear hr ht hg hpa hbb)
            | fail)
        clear HTh3 HOk3 HE3 HB3 HR0 HEr
        go_wp2_with fail
        refine (parse_any T _ (by omega)).mono ?_
        rintro e w4 ⟨hb4, A4, c4, rfl, hok4, hA4, hcap4⟩
        generalize hq4 : parseL (T) = q at *
        obtain ⟨P4, pos4, er4⟩ := q
        dsimp only at hok4 hcap4 ⊢
        have HQ4 := Lib.hid hq4
        have HOk4 := Lib.hid hok4
        have HB4 := Lib.hid ((HS3.out).trans (hb4.mono (HS3.out).size))
        have HE4 := Lib.hid ((HF3.out).now hb4)
        clear hq4 hok4 hb4 hA4
        have hpl4 : P4.types.length ≤ 20 := by have := parse_len T; rw [HQ4.out] at this; exact this
        have HTh4 := Lib.hid (zero_there w4)
        go_upto_region 18 with (first
            | ((with_reducible show wpList _ _ _ (Oper.mk _ (Op.store 24 (Operand.tmp 15) _) _ _ _ _ :: _) _ _); refine wpList_store_box rfl 24 _ _ rfl w4.heap.size (P4.cs A4 c4) ?x1 ?x2 HTh4.out (by kernel_rfl) (by simp [Value.oneCell']) ?_; (case x1 => rfl); (case x2 => rfl); intro ws4 hr ht hg; (obtain ⟨hpa, hbb⟩ := PA.made2 rfl HOk4.out hcap4 hr hg); have HF4 := Lib.hid (AllPA.cons hpa (HE4.out.now hbb)); have HS4 := Lib.hid (HB4.out.trans (hbb.mono HB4.out.size)); clear hr ht hg hpa hbb)
            | fail)
        clear HTh4 HOk4 HE4 HB4 HF3 HS3
        have HZ := Lib.hid (HS2.out.trans ((HBr.out.trans (HS4.out.mono HBr.out.size)).mono HS2.out.size))
        cases d2 : decide ((2000 : Int) < (T.length : Int)) with
        | true =>
          go_wp2_with fail
          go_ret
          exact ⟨rfl, HZ.out⟩
        | false =>
        have hT2 : T.length ≤ 2000 := by simp at d2; omega
        have hP : P4 = P3 ∧ er4 = er3 ∧ ((er3 = 0) ∨ (er3 ≠ 0 ∧ ∃ j t, ts[j]? = some t ∧ pos3 = (t.pos : Int) ∧ pos4 = (atF ts bl j : Int))) := by
          rcases HLaw.out hT2 with ⟨P, h1, h2⟩ | ⟨j, t, e, hj, he, h1, h2⟩
          · injection h1 with a b
            injection b with b c
            injection h2 with a2 b2
            injection b2 with b2 c2
            exact ⟨by rw [a, a2], by rw [c, c2], .inl c⟩
          · injection h1 with a b
            injection b with b c
            injection h2 with a2 b2
            injection b2 with b2 c2
            exact ⟨by rw [a, a2], by rw [c, c2], .inr ⟨by rw [c]; exact he, j, t, hj, b, b2⟩⟩
        obtain ⟨hP, rfl, hcase⟩ := hP
        have HP := Lib.hid hP
        have HCs := Lib.hid hcase
        clear hP hcase HLaw HQ3 HQ4 hT2
        go_wp2_with (first
            | ((with_reducible show wpList _ _ _ (Oper.mk _ (Op.load 24 (Operand.tmp 12)) _ _ _ _ :: _) _ _); refine wpList_load_w rfl 24 (.tmp 12) rfl (w3.heap.size) 0 rfl ((P3).cs (A3) (c3)).toList _ ((HF4).out (w3.heap.size, P3, A3, c3) (by simp)).rng Tryd.underlying24 rfl (by kernel_rfl) ?_)
            | ((with_reducible show wpList _ _ _ (Oper.mk _ (Op.load 24 (Operand.tmp 15)) _ _ _ _ :: _) _ _); refine wpList_load_w rfl 24 (.tmp 15) rfl (w4.heap.size) 0 rfl ((P4).cs (A4) (c4)).toList _ ((HF4).out (w4.heap.size, P4, A4, c4) (by simp)).rng Tryd.underlying24 rfl (by kernel_rfl) ?_)
            | fail)
        refine (rSame_any P3 P4 A3 A4 c3 c4 _ (HF4.out (w3.heap.size, P3, A3, c3) (by simp)).ok (HF4.out (w4.heap.size, P4, A4, c4) (by simp)).ok (by omega) (by omega)).mono ?_
        rintro e w5 ⟨rfl, hb5⟩
        rw [(sameP_iff P3 P4).2 HP.out.symm]
        have HS5 := Lib.hid (HS4.out.trans (hb5.mono HS4.out.size))
        have HZ5 := Lib.hid (HZ.out.trans (hb5.mono HZ.out.size))
        clear hb5 HF4 HS4 HZ
        by_cases he : er4 = 0
        · subst he
          go_wp2_with fail
          go_ret
          exact ⟨rfl, HZ5.out⟩
        · have he2 : (er4 == 0) = false := by simpa using he
          obtain ⟨j, t, hj, rfl, rfl⟩ : ∃ j t, ts[j]? = some t ∧ pos3 = (t.pos : Int) ∧ pos4 = (atF ts bl j : Int) := by
            rcases HCs.out with h | ⟨_, h⟩
            · exact absurd h he
            · exact h
          have hjl := (List.getElem?_eq_some_iff.1 hj).1
          have HOne := Lib.hid (fun k u (hk : ts[k]? = some u) (h : u.pos = t.pos) => one_place HLx.out hk hj h)
          have HPl := Lib.hid (HO.out.rd numLay j _ (plF_at ts bl hjl))
          have HJ := Lib.hid hj
          clear he HCs hj
          go_wp2_with fail
          obtain ⟨wo, hwo⟩ : ∃ x, x = wr := ⟨_, rfl⟩
          subst hwo
          go_loopw [18] (fun v wq => ∃ k : Nat, k ≤ j ∧ v = .int .i64 k ∧ Below wo.heap.size wo wq) (fun v _ => ts.length - (intOf v).toNat)
          case atStart => exact ⟨0, Nat.zero_le _, rfl, HS5.out⟩
          case round =>
            obtain ⟨k, hk, rfl, hbq⟩ := hrel
            have HBq := Lib.hid hbq
            have hkl : k < ts.length := by omega
            have d3 : decide ((k : Int) < (ts.length : Int)) = true := by simp; omega
            obtain ⟨u, hu⟩ : ∃ u, ts[k]? = some u := ⟨_, List.getElem?_eq_getElem hkl⟩
            have cp := (HTk2.out.keep (hbq.block g hgr)) k u hu 3 (.int .i64 u.pos) rfl
            rw [Nat.zero_add] at cp
            have HU := Lib.hid hu
            have hgq : g < wr.heap.size := Nat.lt_of_lt_of_le hgr hbq.size
            clear hu
            by_cases hkj : k = j
            · subst hkj
              obtain rfl : u = t := by
                have h1 := HU.out
                rw [HJ.out] at h1
                injection h1 with h1
                exact h1.symm
              obtain ⟨b2, o2, rfl, hb2, hc2⟩ := HPl.out
              have cq := (hbq.cell (p := ⟨b2, o2 + k, none⟩) hb2).trans (by simpa using hc2 0 _ rfl)
              have hbq2 : b2 < wr.heap.size := Nat.lt_of_lt_of_le hb2 hbq.size
              have hee : ((u.pos : Int) == (u.pos : Int)) = true := by simp
              have HZ := Lib.hid (HS2.out.trans ((HBr.out.trans (hbq.mono HBr.out.size)).mono HS2.out.size))
              clear hc2 hbq HOne HPl
              generalize atF ts bl k = aj at *
              go_wp2_with fail
              go_ret
              exact ⟨by simp, HZ.out⟩
            · have hee : ((u.pos : Int) == (t.pos : Int)) = false := by
                rw [beq_eq_false_iff_ne]
                intro h
                exact hkj (HOne.out k u HU.out (by omega))
              clear hbq
              go_wp2_with fail
              go_roundw
              case rel => exact ⟨k + 1, by omega, by go_num, HBq.out⟩
              case measure => simp [intOf]; omega
section
open Go.ChangeShapes Go.WideShapes Go.Deep
variable {H : Type} {enc0 : TypeId × Value → H} {w : World} {base : Nat} {spare : Nat → Bool} {held : Bool}
theorem cellsU8 : Tryd.prog.cellsOf 5 = 1 := by kernel_rfl
theorem elemU8 : ∀ m cs x, DataW.trod enc0 Tryd.prog w base spare held m 5 cs = some x → ∃ y : UInt8, u8E y = cs ∧ True := by
  intro m cs x h
  obtain ⟨n, rfl, _, hw⟩ := DataW.trod_int Tryd.underlying5 h
  simp [Lit.wf, IntKind.min, IntKind.max, IntKind.bits, IntKind.signed] at hw
  refine ⟨UInt8.ofNat n.toNat, ?_, trivial⟩
  simp [u8E]
  omega
theorem open_u8s {A : Option Addr} {n c : Nat} {d : DataW H} {p : List MemPlace} (h : DataW.Trod enc0 Tryd.prog w base spare held 35 (.slice A n c) d p) :
    ∃ xs : List UInt8, n = xs.length ∧ RdL 1 u8E w w.heap.size A xs ∧ xs.length ≤ 9223372036854775807 := by
  obtain ⟨xs, rfl, g1, _, g3⟩ := open_list Tryd.underlying35 cellsU8 (by decide) (fun _ => rfl) elemU8 h
  simp only [maxLen] at g3
  exact ⟨xs, rfl, g1, by omega⟩
end
end Go.Proofs.YtnaejabgkfhlbaaDoor
