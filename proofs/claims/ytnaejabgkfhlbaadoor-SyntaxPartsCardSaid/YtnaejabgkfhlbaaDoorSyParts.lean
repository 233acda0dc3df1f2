/- The walk of lingualaw12.SyntaxParts. -/
import Derived.Test.YtnaejabgkfhlbaaDoorSyTells
import Derived.Test.YtnaejabgkfhlbaaDoorSyPl
set_option linter.unusedSimpArgs false
set_option linter.unusedVariables false
namespace Go.Proofs.YtnaejabgkfhlbaaDoor
open Go.RowKit

theorem setCells_put {b : Nat} {t : TypeId} : ∀ (vs : List Value) (o : Nat) (w : World) (pre suf : List Value), suf.length = vs.length → pre.length = o → w.heap[b]? = some (.cells (pre ++ suf).toArray t (0, 0)) → (w.setCells b o vs).heap[b]? = some (.cells (pre ++ vs).toArray t (0, 0))
  | [], o, w, pre, suf, hs, _, h => by
    obtain rfl : suf = [] := List.eq_nil_of_length_eq_zero hs
    exact h
  | v :: r, o, w, pre, suf, hs, hp, h => by
    cases suf with
    | nil => simp at hs
    | cons s suf =>
      have h1 : (w.setCell ⟨b, o, none⟩ v).heap[b]? = some (.cells ((pre ++ [v]) ++ suf).toArray t (0, 0)) := by
        subst hp
        simp [World.setCell, Array.getElem?_modify, h]
      have := setCells_put r (o + 1) _ (pre ++ [v]) suf (by simpa using hs) (by simp [hp]) h1
      rw [World.setCells]
      rw [this]
      simp
/-- A whole profile is stored into a box just made. -/
theorem wpList_store_p {ops : Array Oper} {rest : List Oper} {op : Oper} {a : Act} {w : World} {Q : Exit → Act → World → Prop} (hgd : op.guard = none) (x y : Operand) (ho : op.op = .store 24 x y)
    (b : Nat) (P : Prof) (A : Option Addr) (c : Nat) (hx : a.eval x = .pointer (some ⟨b, 0, none⟩)) (hy : a.eval y = .agg (P.cs A c)) (hz : PBox b zeroCs w) (hi : (Tryd.prog.info? 24).map (·.size) = some 22)
    (h : ∀ w2, PBox b (P.cs A c) w2 → w.grownBy w2 (some b) → wpList Tryd.prog ops Q rest (a.put op.dst undef) w2) : wpList Tryd.prog ops Q (op :: rest) a w := by
  refine wpList_store_mid hgd 24 x y ho b 0 (P.cs A c) hx hy (PBox.there (cs := zeroCs) hz) hi (by simp [Value.oneCell']) (h _ ?_ (grown_setCells _ _ _ _))
  have := setCells_put (b := b) (t := 24) (P.cs A c).toList 0 w [] zeroCs.toList rfl rfl hz
  exact this
theorem AllPA.made {l : List (Nat × Prof × Option Addr × Nat)} {b : Nat} {P : Prof} {A : Option Addr} {c : Nat} {w w' : World} (h : AllPA l w) (hb : Below w.heap.size w w') (hp : PBox b (P.cs A c) w') (hok : ProfOk w w.heap.size A P) (hc : P.types.length ≤ c) : AllPA ((b, P, A, c) :: l) w' :=
  AllPA.cons ⟨hp.range, hok.now hb, hp.lt, hc⟩ (h.now hb)
theorem zero_box (w : World) : PBox w.heap.size zeroCs (w.alloc (.cells zeroCs 24)) := (MapKept.heap_alloc w _).1
-- cpArm TMP | w0 | h : an arm: P is stored into a box just made behind w0 (hq: the box, hg)
set_option maxRecDepth 100000 in
set_option maxHeartbeats 8000000 in
theorem parts12_any (B : Nat) (P : Prof) (A : Option Addr) (c : Nat) (w : World) (hV : Vs B w) (hp : ProfOk w w.heap.size A P) (hc : P.types.length ≤ c) :
    Calls Tryd.prog 7 #[P.v A c] w fun e w' => e = .returned (.bool true) ∧ Below w.heap.size w w' := by
  have hb0 : Below w.heap.size w (w.alloc (.cells (P.cs A c) 24)) := (Below.refl _ _).alloc (Nat.le_refl _) _
  have HF0 := Lib.hid (one_box hp hc)
  have HS0 := Lib.hid hb0
  have HV0 := Lib.hid (hV.now hb0)
  have HV := Lib.hid hV
  clear hb0 hp hV
  go_enter Tryd.func7, Tryd.ntmps7
  go_wp2_with fail
  refine (small12_any B _ HV0.out).mono ?_
  rintro e w1 ⟨rfl, hb1⟩
  have HF1 := Lib.hid (HF0.out.now hb1)
  have HS1 := Lib.hid (HS0.out.trans (hb1.mono HS0.out.size))
  clear hb1 HF0 HS0
  clear HV0
  go_wp2_with (first
      | ((with_reducible show wpList _ _ _ (Oper.mk _ (Op.load 24 (Operand.tmp 1)) _ _ _ _ :: _) _ _); refine wpList_load_w rfl 24 (.tmp 1) rfl (w.heap.size) 0 rfl ((P).cs (A) (c)).toList _ ((HF1).out (w.heap.size, P, A, c) (by simp)).rng Tryd.underlying24 rfl (by kernel_rfl) ?_)
      | fail)
  refine (few12_any P A c _ (HF1.out (w.heap.size, P, A, c) (by simp)).ok).mono ?_
  rintro e w2 ⟨rfl, hb2⟩
  have HF2 := Lib.hid (HF1.out.now hb2)
  have HS2 := Lib.hid (HS1.out.trans (hb2.mono HS1.out.size))
  clear hb2 HF1 HS1
  cases hfp : few12 P with
  | false =>
    go_wp2_with fail
    go_ret
    exact ⟨rfl, HS2.out⟩
  | true =>
  have HfP := Lib.hid (few12_len hfp)
  clear hfp
  go_wp2_with (first
      | ((with_reducible show wpList _ _ _ (Oper.mk _ (Op.load 24 (Operand.tmp 1)) _ _ _ _ :: _) _ _); refine wpList_load_w rfl 24 (.tmp 1) rfl (w.heap.size) 0 rfl ((P).cs (A) (c)).toList _ ((HF2).out (w.heap.size, P, A, c) (by simp)).rng Tryd.underlying24 rfl (by kernel_rfl) ?_)
      | fail)
  refine (pRight_any P A c _ (HF2.out (w.heap.size, P, A, c) (by simp)).ok).mono ?_
  rintro e w3 ⟨rfl, hb3⟩
  have HF3 := Lib.hid (HF2.out.now hb3)
  have HS3 := Lib.hid (HS2.out.trans (hb3.mono HS2.out.size))
  clear hb3 HF2 HS2
  cases hpr : profRight P with
  | false =>
    go_wp2_with fail
    go_ret
    exact ⟨rfl, HS3.out⟩
  | true =>
  have hR := rt_of hpr
  have HRpP := Lib.hid hpr
  have HR := Lib.hid hR
  clear hpr
  obtain ⟨Pa, hPa⟩ : ∃ x, x = noWithin P := ⟨_, rfl⟩
  obtain ⟨Pb, hPb⟩ : ∃ x, x = noFiles P := ⟨_, rfl⟩
  obtain ⟨Pc, hPc⟩ : ∃ x, x = noKeep P := ⟨_, rfl⟩
  have HRpPa : Hid (profRight Pa = true) := Lib.hid (by rw [hPa]; exact of_rt (rt_noWithin hR))
  have HRpPb : Hid (profRight Pb = true) := Lib.hid (by rw [hPb]; exact of_rt (rt_noFiles hR))
  have HRpPc : Hid (profRight Pc = true) := Lib.hid (by rw [hPc]; exact of_rt (rt_noKeep hR))
  have HPa := Lib.hid hPa
  have HPb := Lib.hid hPb
  have HPc := Lib.hid hPc
  have hca : Pa.types.length ≤ c := by rw [hPa]; exact hc
  have hcb : Pb.types.length ≤ 0 := by rw [hPb]; exact Nat.le_refl _
  have hcc : Pc.types.length ≤ c := by rw [hPc]; exact hc
  have hL : P.types.length ≤ 1000 := by have := HfP.out.1; omega
  have HL : Hid (Pa.types.length ≤ 1000 ∧ Pb.types.length ≤ 1000 ∧ Pc.types.length ≤ 1000) := Lib.hid ⟨by rw [hPa]; exact hL, by rw [hPb]; exact Nat.zero_le _, by rw [hPc]; exact hL⟩
  clear hR hPa hPb hPc hL
  go_upto_region 5 with (first
      | ((with_reducible show wpList _ _ _ (Oper.mk _ (Op.load 24 (Operand.tmp 1)) _ _ _ _ :: _) _ _); refine wpList_load_w rfl 24 (.tmp 1) rfl (w.heap.size) 0 rfl ((P).cs (A) (c)).toList _ ((HF3).out (w.heap.size, P, A, c) (by simp)).rng Tryd.underlying24 rfl (by kernel_rfl) ?_)
      | ((with_reducible show wpList _ _ _ (Oper.mk _ (Op.store 24 (Operand.tmp 4) _) _ _ _ _ :: _) _ _); refine wpList_store_p rfl _ _ rfl w3.heap.size P A c ?x1 ?x2 (zero_box w3) (by kernel_rfl) ?_; (case x1 => rfl); (case x2 => rfl); intro wa hqwa hgwa)
      | fail)
  have ca := hqwa.c 2 _ rfl
  have fa := hqwa.f 2
  have hqa2 : PBox w3.heap.size (Pa.cs A c) (wa.setCell ⟨w3.heap.size, 2, none⟩ (.int .i64 0)) := by rw [HPa.out]; exact hqwa.set 2 (.int .i64 0)
  have hba : Below w3.heap.size w3 (wa.setCell ⟨w3.heap.size, 2, none⟩ (.int .i64 0)) := (((Below.refl _ _).alloc (Nat.le_refl _) _).grown hgwa (by simp) (fun k hk => by injection hk with hk; omega)).setCell (p := ⟨w3.heap.size, 2, none⟩) (Nat.le_refl _) _
  have hokP := (HF3.out (w.heap.size, P, A, c) (by simp)).ok
  have HF4 := Lib.hid (HF3.out.made hba hqa2 (show ProfOk w3 w3.heap.size A Pa by rw [HPa.out]; exact ⟨hokP.rd, hokP.nm, hokP.len, hokP.ts⟩) hca)
  have HS4 := Lib.hid (HS3.out.trans (hba.mono HS3.out.size))
  clear hqwa hgwa hqa2 hba hokP
  go_upto_region 6 with fail
  clear ca fa
  generalize wa.setCell ⟨w3.heap.size, 2, none⟩ (.int .i64 0) = w4 at *
  go_upto_region 7 with (first
      | ((with_reducible show wpList _ _ _ (Oper.mk _ (Op.load 24 (Operand.tmp 1)) _ _ _ _ :: _) _ _); refine wpList_load_w rfl 24 (.tmp 1) rfl (w.heap.size) 0 rfl ((P).cs (A) (c)).toList _ ((HF4).out (w.heap.size, P, A, c) (by simp)).rng Tryd.underlying24 rfl (by kernel_rfl) ?_)
      | ((with_reducible show wpList _ _ _ (Oper.mk _ (Op.store 24 (Operand.tmp 5) _) _ _ _ _ :: _) _ _); refine wpList_store_p rfl _ _ rfl w4.heap.size P A c ?x1 ?x2 (zero_box w4) (by kernel_rfl) ?_; (case x1 => rfl); (case x2 => rfl); intro wb hqwb hgwb)
      | fail)
  have c10 := hqwb.c 10 _ rfl
  have f10 := hqwb.f 10
  have hq1 := hqwb.set 10 (.int .i64 0)
  have c11 := hq1.c 11 (.int .i64 P.bytes) (by simp)
  have f11 := hq1.f 11
  have hq2 := hq1.set 11 (.int .i64 0)
  have c12 := hq2.c 12 (.slice A P.types.length c) (by simp)
  have f12 := hq2.f 12
  have hq3 := hq2.set 12 (.slice none 0 0)
  obtain ⟨wz, hwz⟩ : ∃ x, x = ((wb.setCell ⟨w4.heap.size, 10, none⟩ (.int .i64 0)).setCell ⟨w4.heap.size, 11, none⟩ (.int .i64 0)).setCell ⟨w4.heap.size, 12, none⟩ (.slice none 0 0) := ⟨_, rfl⟩
  have hqb : PBox w4.heap.size (Pb.cs none 0) wz := by rw [HPb.out, hwz]; exact hq3
  have hbb : Below w4.heap.size w4 wz := by
    rw [hwz]
    exact (((((Below.refl _ _).alloc (Nat.le_refl _) _).grown hgwb (by simp) (fun k hk => by injection hk with hk; omega)).setCell (p := ⟨w4.heap.size, 10, none⟩) (Nat.le_refl _) _).setCell (p := ⟨w4.heap.size, 11, none⟩) (Nat.le_refl _) _).setCell (p := ⟨w4.heap.size, 12, none⟩) (Nat.le_refl _) _
  have hokP := (HF4.out (w.heap.size, P, A, c) (by simp)).ok
  have HF5 := Lib.hid (HF4.out.made hbb hqb (show ProfOk w4 w4.heap.size none Pb by rw [HPb.out]; exact ⟨RdL.nil_, hokP.nm, Nat.zero_le _, fun s hs => by cases hs⟩) hcb)
  have HS5 := Lib.hid (HS4.out.trans (hbb.mono HS4.out.size))
  have HWz := Lib.hid hwz
  clear hq1 hq2 hq3 hqwb hgwb hqb hbb hokP hwz
  go_upto_region 10 with fail
  rw [← HWz.out]
  clear c10 c11 c12 f10 f11 f12 HWz HF4 HS4 HF3 HS3
  go_upto_region 11 with (first
      | ((with_reducible show wpList _ _ _ (Oper.mk _ (Op.load 24 (Operand.tmp 1)) _ _ _ _ :: _) _ _); refine wpList_load_w rfl 24 (.tmp 1) rfl (w.heap.size) 0 rfl ((P).cs (A) (c)).toList _ ((HF5).out (w.heap.size, P, A, c) (by simp)).rng Tryd.underlying24 rfl (by kernel_rfl) ?_)
      | ((with_reducible show wpList _ _ _ (Oper.mk _ (Op.store 24 (Operand.tmp 6) _) _ _ _ _ :: _) _ _); refine wpList_store_p rfl _ _ rfl wz.heap.size P A c ?x1 ?x2 (zero_box wz) (by kernel_rfl) ?_; (case x1 => rfl); (case x2 => rfl); intro wd hqwd hgwd)
      | fail)
  have c21 := hqwd.c 21 _ rfl
  have f21 := hqwd.f 21
  have hqd2 : PBox wz.heap.size (Pc.cs A c) (wd.setCell ⟨wz.heap.size, 21, none⟩ (.int .i64 0)) := by rw [HPc.out]; exact hqwd.set 21 (.int .i64 0)
  have hbd : Below wz.heap.size wz (wd.setCell ⟨wz.heap.size, 21, none⟩ (.int .i64 0)) := (((Below.refl _ _).alloc (Nat.le_refl _) _).grown hgwd (by simp) (fun k hk => by injection hk with hk; omega)).setCell (p := ⟨wz.heap.size, 21, none⟩) (Nat.le_refl _) _
  have hokP := (HF5.out (w.heap.size, P, A, c) (by simp)).ok
  have HF6 := Lib.hid (HF5.out.made hbd hqd2 (show ProfOk wz wz.heap.size A Pc by rw [HPc.out]; exact ⟨hokP.rd, hokP.nm, hokP.len, hokP.ts⟩) hcc)
  have HS6 := Lib.hid (HS5.out.trans (hbd.mono HS5.out.size))
  clear hqwd hgwd hqd2 hbd hokP HF5 HS5
  go_upto_region 12 with fail
  clear c21 f21
  generalize wd.setCell ⟨wz.heap.size, 21, none⟩ (.int .i64 0) = w6 at *
  go_wp2_with (first
      | ((with_reducible show wpList _ _ _ (Oper.mk _ (Op.load 24 (Operand.tmp 1)) _ _ _ _ :: _) _ _); refine wpList_load_w rfl 24 (.tmp 1) rfl (w.heap.size) 0 rfl ((P).cs (A) (c)).toList _ ((HF6).out (w.heap.size, P, A, c) (by simp)).rng Tryd.underlying24 rfl (by kernel_rfl) ?_)
      | fail)
  refine (print_any P (A) (c) B _ (HF6.out (w.heap.size, P, A, c) (by simp)).ok hc (HV.out.now HS6.out)).mono ?_
  rintro e w7 ⟨rfl, hb7⟩
  rw [HRpP.out]
  have HF7 := Lib.hid (HF6.out.now hb7)
  have HS7 := Lib.hid (HS6.out.trans (hb7.mono HS6.out.size))
  clear hb7 HF6 HS6
  simp only [if_true]
  obtain ⟨xs, hxs⟩ : ∃ x, x = printF P := ⟨_, rfl⟩
  rw [← hxs]
  have Hxs := Lib.hid hxs
  have hlxs : xs.length ≤ 1617 := by rw [hxs]; exact print_len (rt_of HRpP.out)
  clear hxs
  go_wp2_with (first
      | ((with_reducible show wpList _ _ _ (Oper.mk _ (Op.load 24 (Operand.tmp 4)) _ _ _ _ :: _) _ _); refine wpList_load_w rfl 24 (.tmp 4) rfl (w3.heap.size) 0 rfl ((Pa).cs (A) (c)).toList _ ((HF7).out (w3.heap.size, Pa, A, c) (by simp)).rng Tryd.underlying24 rfl (by kernel_rfl) ?_)
      | fail)
  refine (print_any Pa (A) (c) B _ (HF7.out (w3.heap.size, Pa, A, c) (by simp)).ok hca (HV.out.now HS7.out)).mono ?_
  rintro e w8 ⟨rfl, hb8⟩
  rw [HRpPa.out]
  have HF8 := Lib.hid (HF7.out.now hb8)
  have HS8 := Lib.hid (HS7.out.trans (hb8.mono HS7.out.size))
  clear hb8 HF7 HS7
  simp only [if_true]
  obtain ⟨xa, hxa⟩ : ∃ x, x = printF Pa := ⟨_, rfl⟩
  rw [← hxa]
  have Hxa := Lib.hid hxa
  have hlxa : xa.length ≤ 1617 := by rw [hxa]; exact print_len (rt_of HRpPa.out)
  clear hxa
  go_wp2_with (first
      | ((with_reducible show wpList _ _ _ (Oper.mk _ (Op.load 24 (Operand.tmp 5)) _ _ _ _ :: _) _ _); refine wpList_load_w rfl 24 (.tmp 5) rfl (w4.heap.size) 0 rfl ((Pb).cs (none) (0)).toList _ ((HF8).out (w4.heap.size, Pb, none, 0) (by simp)).rng Tryd.underlying24 rfl (by kernel_rfl) ?_)
      | fail)
  refine (print_any Pb (none) (0) B _ (HF8.out (w4.heap.size, Pb, none, 0) (by simp)).ok hcb (HV.out.now HS8.out)).mono ?_
  rintro e w9 ⟨rfl, hb9⟩
  rw [HRpPb.out]
  have HF9 := Lib.hid (HF8.out.now hb9)
  have HS9 := Lib.hid (HS8.out.trans (hb9.mono HS8.out.size))
  clear hb9 HF8 HS8
  simp only [if_true]
  obtain ⟨xb, hxb⟩ : ∃ x, x = printF Pb := ⟨_, rfl⟩
  rw [← hxb]
  have Hxb := Lib.hid hxb
  have hlxb : xb.length ≤ 1617 := by rw [hxb]; exact print_len (rt_of HRpPb.out)
  clear hxb
  go_wp2_with (first
      | ((with_reducible show wpList _ _ _ (Oper.mk _ (Op.load 24 (Operand.tmp 6)) _ _ _ _ :: _) _ _); refine wpList_load_w rfl 24 (.tmp 6) rfl (wz.heap.size) 0 rfl ((Pc).cs (A) (c)).toList _ ((HF9).out (wz.heap.size, Pc, A, c) (by simp)).rng Tryd.underlying24 rfl (by kernel_rfl) ?_)
      | fail)
  refine (print_any Pc (A) (c) B _ (HF9.out (wz.heap.size, Pc, A, c) (by simp)).ok hcc (HV.out.now HS9.out)).mono ?_
  rintro e w10 ⟨rfl, hb10⟩
  rw [HRpPc.out]
  have HF10 := Lib.hid (HF9.out.now hb10)
  have HS10 := Lib.hid (HS9.out.trans (hb10.mono HS9.out.size))
  clear hb10 HF9 HS9
  simp only [if_true]
  obtain ⟨xc, hxc⟩ : ∃ x, x = printF Pc := ⟨_, rfl⟩
  rw [← hxc]
  have Hxc := Lib.hid hxc
  have hlxc : xc.length ≤ 1617 := by rw [hxc]; exact print_len (rt_of HRpPc.out)
  clear hxc
  have HPP11 : Hid (parseL xa = (Pa, 0, 0)) := Lib.hid (by rw [Hxa.out]; exact parse_print (rt_of HRpPa.out))
  go_wp2_with fail
  refine (parse_any xa _ (by omega)).mono ?_
  rintro e w11 ⟨hb11, A11, c11, rfl, hok11, hA11, hcap11⟩
  generalize hq11 : parseL (xa) = q at *
  obtain ⟨P11, pos11, er11⟩ := q
  dsimp only at hok11 hcap11 ⊢
  have HQ11 := Lib.hid hq11
  have HOk11 := Lib.hid hok11
  have HB11 := Lib.hid ((HS10.out).trans (hb11.mono (HS10.out).size))
  have HE11 := Lib.hid ((HF10.out).now hb11)
  clear hq11 hok11 hb11 hA11
  obtain ⟨hP11, rfl, rfl⟩ : P11 = Pa ∧ pos11 = 0 ∧ er11 = 0 := by
    have hq := HPP11.out
    injection hq with a b
    injection b with b c
    exact ⟨a, b, c⟩
  have HP11 := Lib.hid hP11
  clear hP11 HPP11
  have HTh11 := Lib.hid (zero_there w11)
  go_upto_region 19 with (first
      | ((with_reducible show wpList _ _ _ (Oper.mk _ (Op.store 24 (Operand.tmp 15) _) _ _ _ _ :: _) _ _); refine wpList_store_box rfl 24 _ _ rfl w11.heap.size (P11.cs A11 c11) ?x1 ?x2 HTh11.out (by kernel_rfl) (by simp [Value.oneCell']) ?_; (case x1 => rfl); (case x2 => rfl); intro ws11 hr ht hg; (obtain ⟨hpa, hbb⟩ := PA.made2 rfl HOk11.out hcap11 hr hg); have HF11 := Lib.hid (AllPA.cons hpa (HE11.out.now hbb)); have HS11 := Lib.hid (HB11.out.trans (hbb.mono HB11.out.size)); clear hr ht hg hpa hbb)
      | fail)
  clear HTh11 HOk11 HE11 HB11 HF10 HS10
  have HPP12 : Hid (parseL xb = (Pb, 0, 0)) := Lib.hid (by rw [Hxb.out]; exact parse_print (rt_of HRpPb.out))
  go_wp2_with fail
  refine (parse_any xb _ (by omega)).mono ?_
  rintro e w12 ⟨hb12, A12, c12, rfl, hok12, hA12, hcap12⟩
  generalize hq12 : parseL (xb) = q at *
  obtain ⟨P12, pos12, er12⟩ := q
  dsimp only at hok12 hcap12 ⊢
  have HQ12 := Lib.hid hq12
  have HOk12 := Lib.hid hok12
  have HB12 := Lib.hid ((HS11.out).trans (hb12.mono (HS11.out).size))
  have HE12 := Lib.hid ((HF11.out).now hb12)
  clear hq12 hok12 hb12 hA12
  obtain ⟨hP12, rfl, rfl⟩ : P12 = Pb ∧ pos12 = 0 ∧ er12 = 0 := by
    have hq := HPP12.out
    injection hq with a b
    injection b with b c
    exact ⟨a, b, c⟩
  have HP12 := Lib.hid hP12
  clear hP12 HPP12
  have HTh12 := Lib.hid (zero_there w12)
  go_upto_region 20 with (first
      | ((with_reducible show wpList _ _ _ (Oper.mk _ (Op.store 24 (Operand.tmp 18) _) _ _ _ _ :: _) _ _); refine wpList_store_box rfl 24 _ _ rfl w12.heap.size (P12.cs A12 c12) ?x1 ?x2 HTh12.out (by kernel_rfl) (by simp [Value.oneCell']) ?_; (case x1 => rfl); (case x2 => rfl); intro ws12 hr ht hg; (obtain ⟨hpa, hbb⟩ := PA.made2 rfl HOk12.out hcap12 hr hg); have HF12 := Lib.hid (AllPA.cons hpa (HE12.out.now hbb)); have HS12 := Lib.hid (HB12.out.trans (hbb.mono HB12.out.size)); clear hr ht hg hpa hbb)
      | fail)
  clear HTh12 HOk12 HE12 HB12 HF11 HS11
  have HPP13 : Hid (parseL xc = (Pc, 0, 0)) := Lib.hid (by rw [Hxc.out]; exact parse_print (rt_of HRpPc.out))
  go_wp2_with fail
  refine (parse_any xc _ (by omega)).mono ?_
  rintro e w13 ⟨hb13, A13, c13, rfl, hok13, hA13, hcap13⟩
  generalize hq13 : parseL (xc) = q at *
  obtain ⟨P13, pos13, er13⟩ := q
  dsimp only at hok13 hcap13 ⊢
  have HQ13 := Lib.hid hq13
  have HOk13 := Lib.hid hok13
  have HB13 := Lib.hid ((HS12.out).trans (hb13.mono (HS12.out).size))
  have HE13 := Lib.hid ((HF12.out).now hb13)
  clear hq13 hok13 hb13 hA13
  obtain ⟨hP13, rfl, rfl⟩ : P13 = Pc ∧ pos13 = 0 ∧ er13 = 0 := by
    have hq := HPP13.out
    injection hq with a b
    injection b with b c
    exact ⟨a, b, c⟩
  have HP13 := Lib.hid hP13
  clear hP13 HPP13
  have HTh13 := Lib.hid (zero_there w13)
  go_upto_region 21 with (first
      | ((with_reducible show wpList _ _ _ (Oper.mk _ (Op.store 24 (Operand.tmp 21) _) _ _ _ _ :: _) _ _); refine wpList_store_box rfl 24 _ _ rfl w13.heap.size (P13.cs A13 c13) ?x1 ?x2 HTh13.out (by kernel_rfl) (by simp [Value.oneCell']) ?_; (case x1 => rfl); (case x2 => rfl); intro ws13 hr ht hg; (obtain ⟨hpa, hbb⟩ := PA.made2 rfl HOk13.out hcap13 hr hg); have HF13 := Lib.hid (AllPA.cons hpa (HE13.out.now hbb)); have HS13 := Lib.hid (HB13.out.trans (hbb.mono HB13.out.size)); clear hr ht hg hpa hbb)
      | fail)
  clear HTh13 HOk13 HE13 HB13 HF12 HS12
  go_wp2_with (first
      | ((with_reducible show wpList _ _ _ (Oper.mk _ (Op.load 24 (Operand.tmp 15)) _ _ _ _ :: _) _ _); refine wpList_load_w rfl 24 (.tmp 15) rfl (w11.heap.size) 0 rfl ((P11).cs (A11) (c11)).toList _ ((HF13).out (w11.heap.size, P11, A11, c11) (by simp)).rng Tryd.underlying24 rfl (by kernel_rfl) ?_)
      | ((with_reducible show wpList _ _ _ (Oper.mk _ (Op.load 24 (Operand.tmp 4)) _ _ _ _ :: _) _ _); refine wpList_load_w rfl 24 (.tmp 4) rfl (w3.heap.size) 0 rfl ((Pa).cs (A) (c)).toList _ ((HF13).out (w3.heap.size, Pa, A, c) (by simp)).rng Tryd.underlying24 rfl (by kernel_rfl) ?_)
      | ((with_reducible show wpList _ _ _ (Oper.mk _ (Op.load 24 (Operand.tmp 18)) _ _ _ _ :: _) _ _); refine wpList_load_w rfl 24 (.tmp 18) rfl (w12.heap.size) 0 rfl ((P12).cs (A12) (c12)).toList _ ((HF13).out (w12.heap.size, P12, A12, c12) (by simp)).rng Tryd.underlying24 rfl (by kernel_rfl) ?_)
      | ((with_reducible show wpList _ _ _ (Oper.mk _ (Op.load 24 (Operand.tmp 5)) _ _ _ _ :: _) _ _); refine wpList_load_w rfl 24 (.tmp 5) rfl (w4.heap.size) 0 rfl ((Pb).cs (none) (0)).toList _ ((HF13).out (w4.heap.size, Pb, none, 0) (by simp)).rng Tryd.underlying24 rfl (by kernel_rfl) ?_)
      | ((with_reducible show wpList _ _ _ (Oper.mk _ (Op.load 24 (Operand.tmp 21)) _ _ _ _ :: _) _ _); refine wpList_load_w rfl 24 (.tmp 21) rfl (w13.heap.size) 0 rfl ((P13).cs (A13) (c13)).toList _ ((HF13).out (w13.heap.size, P13, A13, c13) (by simp)).rng Tryd.underlying24 rfl (by kernel_rfl) ?_)
      | ((with_reducible show wpList _ _ _ (Oper.mk _ (Op.load 24 (Operand.tmp 6)) _ _ _ _ :: _) _ _); refine wpList_load_w rfl 24 (.tmp 6) rfl (wz.heap.size) 0 rfl ((Pc).cs (A) (c)).toList _ ((HF13).out (wz.heap.size, Pc, A, c) (by simp)).rng Tryd.underlying24 rfl (by kernel_rfl) ?_)
      | fail)
  refine (rSame_any P11 Pa A11 A c11 c _ (HF13.out (w11.heap.size, P11, A11, c11) (by simp)).ok (HF13.out (w3.heap.size, Pa, A, c) (by simp)).ok (by rw [HP11.out]; exact HL.out.1) (HL.out.1)).mono ?_
  rintro e w14 ⟨rfl, hb14⟩
  rw [(sameP_iff P11 Pa).2 HP11.out]
  have HF14 := Lib.hid (HF13.out.now hb14)
  have HS14 := Lib.hid (HS13.out.trans (hb14.mono HS13.out.size))
  clear hb14 HF13 HS13
  go_wp2_with (first
      | ((with_reducible show wpList _ _ _ (Oper.mk _ (Op.load 24 (Operand.tmp 15)) _ _ _ _ :: _) _ _); refine wpList_load_w rfl 24 (.tmp 15) rfl (w11.heap.size) 0 rfl ((P11).cs (A11) (c11)).toList _ ((HF14).out (w11.heap.size, P11, A11, c11) (by simp)).rng Tryd.underlying24 rfl (by kernel_rfl) ?_)
      | ((with_reducible show wpList _ _ _ (Oper.mk _ (Op.load 24 (Operand.tmp 4)) _ _ _ _ :: _) _ _); refine wpList_load_w rfl 24 (.tmp 4) rfl (w3.heap.size) 0 rfl ((Pa).cs (A) (c)).toList _ ((HF14).out (w3.heap.size, Pa, A, c) (by simp)).rng Tryd.underlying24 rfl (by kernel_rfl) ?_)
      | ((with_reducible show wpList _ _ _ (Oper.mk _ (Op.load 24 (Operand.tmp 18)) _ _ _ _ :: _) _ _); refine wpList_load_w rfl 24 (.tmp 18) rfl (w12.heap.size) 0 rfl ((P12).cs (A12) (c12)).toList _ ((HF14).out (w12.heap.size, P12, A12, c12) (by simp)).rng Tryd.underlying24 rfl (by kernel_rfl) ?_)
      | ((with_reducible show wpList _ _ _ (Oper.mk _ (Op.load 24 (Operand.tmp 5)) _ _ _ _ :: _) _ _); refine wpList_load_w rfl 24 (.tmp 5) rfl (w4.heap.size) 0 rfl ((Pb).cs (none) (0)).toList _ ((HF14).out (w4.heap.size, Pb, none, 0) (by simp)).rng Tryd.underlying24 rfl (by kernel_rfl) ?_)
      | ((with_reducible show wpList _ _ _ (Oper.mk _ (Op.load 24 (Operand.tmp 21)) _ _ _ _ :: _) _ _); refine wpList_load_w rfl 24 (.tmp 21) rfl (w13.heap.size) 0 rfl ((P13).cs (A13) (c13)).toList _ ((HF14).out (w13.heap.size, P13, A13, c13) (by simp)).rng Tryd.underlying24 rfl (by kernel_rfl) ?_)
      | ((with_reducible show wpList _ _ _ (Oper.mk _ (Op.load 24 (Operand.tmp 6)) _ _ _ _ :: _) _ _); refine wpList_load_w rfl 24 (.tmp 6) rfl (wz.heap.size) 0 rfl ((Pc).cs (A) (c)).toList _ ((HF14).out (wz.heap.size, Pc, A, c) (by simp)).rng Tryd.underlying24 rfl (by kernel_rfl) ?_)
      | fail)
  refine (rSame_any P12 Pb A12 none c12 0 _ (HF14.out (w12.heap.size, P12, A12, c12) (by simp)).ok (HF14.out (w4.heap.size, Pb, none, 0) (by simp)).ok (by rw [HP12.out]; exact HL.out.2.1) (HL.out.2.1)).mono ?_
  rintro e w15 ⟨rfl, hb15⟩
  rw [(sameP_iff P12 Pb).2 HP12.out]
  have HF15 := Lib.hid (HF14.out.now hb15)
  have HS15 := Lib.hid (HS14.out.trans (hb15.mono HS14.out.size))
  clear hb15 HF14 HS14
  go_wp2_with (first
      | ((with_reducible show wpList _ _ _ (Oper.mk _ (Op.load 24 (Operand.tmp 15)) _ _ _ _ :: _) _ _); refine wpList_load_w rfl 24 (.tmp 15) rfl (w11.heap.size) 0 rfl ((P11).cs (A11) (c11)).toList _ ((HF15).out (w11.heap.size, P11, A11, c11) (by simp)).rng Tryd.underlying24 rfl (by kernel_rfl) ?_)
      | ((with_reducible show wpList _ _ _ (Oper.mk _ (Op.load 24 (Operand.tmp 4)) _ _ _ _ :: _) _ _); refine wpList_load_w rfl 24 (.tmp 4) rfl (w3.heap.size) 0 rfl ((Pa).cs (A) (c)).toList _ ((HF15).out (w3.heap.size, Pa, A, c) (by simp)).rng Tryd.underlying24 rfl (by kernel_rfl) ?_)
      | ((with_reducible show wpList _ _ _ (Oper.mk _ (Op.load 24 (Operand.tmp 18)) _ _ _ _ :: _) _ _); refine wpList_load_w rfl 24 (.tmp 18) rfl (w12.heap.size) 0 rfl ((P12).cs (A12) (c12)).toList _ ((HF15).out (w12.heap.size, P12, A12, c12) (by simp)).rng Tryd.underlying24 rfl (by kernel_rfl) ?_)
      | ((with_reducible show wpList _ _ _ (Oper.mk _ (Op.load 24 (Operand.tmp 5)) _ _ _ _ :: _) _ _); refine wpList_load_w rfl 24 (.tmp 5) rfl (w4.heap.size) 0 rfl ((Pb).cs (none) (0)).toList _ ((HF15).out (w4.heap.size, Pb, none, 0) (by simp)).rng Tryd.underlying24 rfl (by kernel_rfl) ?_)
      | ((with_reducible show wpList _ _ _ (Oper.mk _ (Op.load 24 (Operand.tmp 21)) _ _ _ _ :: _) _ _); refine wpList_load_w rfl 24 (.tmp 21) rfl (w13.heap.size) 0 rfl ((P13).cs (A13) (c13)).toList _ ((HF15).out (w13.heap.size, P13, A13, c13) (by simp)).rng Tryd.underlying24 rfl (by kernel_rfl) ?_)
      | ((with_reducible show wpList _ _ _ (Oper.mk _ (Op.load 24 (Operand.tmp 6)) _ _ _ _ :: _) _ _); refine wpList_load_w rfl 24 (.tmp 6) rfl (wz.heap.size) 0 rfl ((Pc).cs (A) (c)).toList _ ((HF15).out (wz.heap.size, Pc, A, c) (by simp)).rng Tryd.underlying24 rfl (by kernel_rfl) ?_)
      | fail)
  refine (rSame_any P13 Pc A13 A c13 c _ (HF15.out (w13.heap.size, P13, A13, c13) (by simp)).ok (HF15.out (wz.heap.size, Pc, A, c) (by simp)).ok (by rw [HP13.out]; exact HL.out.2.2) (HL.out.2.2)).mono ?_
  rintro e w16 ⟨rfl, hb16⟩
  rw [(sameP_iff P13 Pc).2 HP13.out]
  have HF16 := Lib.hid (HF15.out.now hb16)
  have HS16 := Lib.hid (HS15.out.trans (hb16.mono HS15.out.size))
  clear hb16 HF15 HS15
  have hw1 := within_lt HR.out
  have hw2 := files_lt HR.out
  have hw3 := keep_lt HR.out
  rw [← HPa.out, ← Hxa.out, ← Hxs.out] at hw1
  rw [← HPb.out, ← Hxb.out, ← Hxs.out] at hw2
  rw [← HPc.out, ← Hxc.out, ← Hxs.out] at hw3
  have z1 : (bs xs).size = xs.length := bs_size _
  have z2 : (bs xa).size = xa.length := bs_size _
  have z3 : (bs xb).size = xb.length := bs_size _
  have z4 : (bs xc).size = xc.length := bs_size _
  have e1 : decide ((xa.length : Int) < (xs.length : Int)) = decide ((0 : Int) < P.within_) := by rw [Bool.eq_iff_iff]; simp only [decide_eq_true_eq]; rw [← hw1.1]; omega
  have e2 : decide ((xb.length : Int) < (xs.length : Int)) = decide ((0 : Int) < P.files) := by rw [Bool.eq_iff_iff]; simp only [decide_eq_true_eq]; rw [← hw2]; omega
  have e3 : decide ((xc.length : Int) < (xs.length : Int)) = decide ((0 : Int) < P.keep) := by rw [Bool.eq_iff_iff]; simp only [decide_eq_true_eq]; rw [← hw3]; omega
  have e4 : ((bs xa).toList == (bs xs).toList) = (P.within_ == 0) := by rw [bs_beq, Bool.eq_iff_iff]; simp only [beq_iff_eq]; exact hw1.2
  have rng := (HF16.out (w.heap.size, P, A, c) (by simp)).rng
  have k2 := rng 2 (.int .i64 P.within_) rfl
  have k10 := rng 10 (.int .i64 P.files) rfl
  have k21 := rng 21 (.int .i64 P.keep) rfl
  rw [Nat.zero_add] at k2 k10 k21
  have HW1 := Lib.hid hw1
  have HW2 := Lib.hid hw2
  have HW3 := Lib.hid hw3
  clear rng hw1 hw2 hw3
  go_wp2_with fail
  all_goals first | (go_ret; exact ⟨rfl, HS16.out⟩) | (exact absurd HW1.out.1 (by assumption)) | (exact absurd HW2.out (by assumption)) | (exact absurd HW3.out (by assumption))
end Go.Proofs.YtnaejabgkfhlbaaDoor
