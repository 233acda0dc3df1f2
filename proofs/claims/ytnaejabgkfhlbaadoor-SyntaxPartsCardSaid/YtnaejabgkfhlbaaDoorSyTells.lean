/- The walk of lingualaw12.SyntaxTells. -/
import Derived.Test.YtnaejabgkfhlbaaDoorSySm
set_option linter.unusedSimpArgs false
set_option linter.unusedVariables false
namespace Go.Proofs.YtnaejabgkfhlbaaDoor
open Go.RowKit

/-- The boxes of two arguments. -/
theorem two_boxes {P Q : Prof} {A A2 : Option Addr} {c d : Nat} {w : World} (hp : ProfOk w w.heap.size A P) (hq : ProfOk w w.heap.size A2 Q) (hc : P.types.length ≤ c) (hd : Q.types.length ≤ d) :
    AllPA [(w.heap.size, P, A, c), (w.heap.size + 1, Q, A2, d)] ((w.alloc (.cells (P.cs A c) 24)).alloc (.cells (Q.cs A2 d) 24)) := by
  have hb : Below w.heap.size w ((w.alloc (.cells (P.cs A c) 24)).alloc (.cells (Q.cs A2 d) 24)) := by repeat (first | with_reducible exact Below.refl _ _ | with_reducible assumption | with_reducible refine Below.drew ?_ | with_reducible refine Below.alloc ?_ (by first | omega | (simp; done) | (simp; omega)) _)
  have h2 := boxAll2 w (P.cs A c) (Q.cs A2 d) 24
  intro x hx
  rcases List.mem_cons.1 hx with hx | hx
  · subst hx
    exact ⟨fun j v hj => by rw [Nat.zero_add]; exact h2.1 j v (by simpa using hj), hp.now hb, by simp; omega, hc⟩
  · obtain rfl := List.mem_singleton.1 hx
    exact ⟨fun j v hj => by rw [Nat.zero_add]; exact h2.2 j v (by simpa using hj), hq.now hb, by simp, hd⟩
theorem one_box {P : Prof} {A : Option Addr} {c : Nat} {w : World} (hp : ProfOk w w.heap.size A P) (hc : P.types.length ≤ c) : AllPA [(w.heap.size, P, A, c)] (w.alloc (.cells (P.cs A c) 24)) := by
  have hb : Below w.heap.size w (w.alloc (.cells (P.cs A c) 24)) := (Below.refl _ _).alloc (Nat.le_refl _) _
  intro x hx
  obtain rfl := List.mem_singleton.1 hx
  exact ⟨boxRange w (P.cs A c) 24 (Below.refl _ _), hp.now hb, by simp, hc⟩
theorem ext_min (l : List UInt8) (k : Int) (hk : 0 ≤ k) : (bs l).extract 0 (min ((l.length : Nat) : Int) k).toNat = bs (l.take k.toNat) := by
  rw [bs_take]
  congr 1
  rcases Nat.lt_or_ge l.length k.toNat with h | h
  · rw [List.take_of_length_le (l := l) (by omega), List.take_of_length_le (by omega)]
  · rw [show (min ((l.length : Nat) : Int) k).toNat = k.toNat by omega]
section
variable {P : Program} {ops : Array Oper} {S : World → Prop}
/-- A whole struct is read in a region whose every operation comes to one value. -/
theorem Det.load {Z : Act → World → Prop} {o : Oper} {r : List Oper} {a : Act} (hw : Region.wanted o (yielded ops a.tmps) = true) (ty : TypeId) (x : Operand) (ho : o.op = .load ty x)
    (b : Nat) (hx : a.eval x = .pointer (some ⟨b, 0, none⟩)) (cs : List Value) (d : TypeDesc) (hS : ∀ w, S w → w.rangeAt b 0 cs)
    (hu : P.underlying ty = some d) (hd : d.isRow = true) (hi : (P.info? ty).map (·.size) = some cs.length) (h : Det P ops S Z r (a.put o.dst (.agg cs.toArray))) : Det P ops S Z (o :: r) a :=
  Det.read hw (fun w hw' => by
    unfold execOp
    simp only [ho, hx, Instr.loadAt, Instr.sureAddr, Sem.run_bind, Sem.run_pure, Result.andThen_ok, run_loadVar_mid w b 0 ty cs d (hS w hw') hu hd hi]) h
end
-- dLoad TMP | b | P | A | c | HE : an arm: a whole profile is read (HE : the boxes at the region's world wz; hSq : Below ..)
-- detCallA N | TMP | V | CONTRACT | LAW : like detCall, where the first argument lies in slot TMP
-- fwCall k | k0 : behind a call that leaves what is there (hb k)
theorem parse_len (l : List UInt8) : (parseL l).1.types.length ≤ 20 := by
  cases hx : lexL l with
  | error q =>
    obtain ⟨a, x⟩ := q
    rw [parse_err hx]
    exact Nat.zero_le _
  | ok ts =>
    have h1 := parse_ok hx
    have h2 := parseJ_right (lex_fine (lexL_ok hx).2).1 (lex_fine (lexL_ok hx).2).2.1
    rw [h1]
    split
    · rename_i h
      exact (right_sizes (h2 h)).2.1
    · exact Nat.zero_le _
set_option maxRecDepth 100000 in
set_option maxHeartbeats 8000000 in
theorem tells12_any (B : Nat) (l : List UInt8) (P Q : Prof) (A A2 : Option Addr) (c d : Nat) (w : World) (hV : Vs B w) (hlm : l.length ≤ 9223372036854775807) (hp : ProfOk w w.heap.size A P) (hc : P.types.length ≤ c) (hq : ProfOk w w.heap.size A2 Q) (hd : Q.types.length ≤ d) :
    Calls Tryd.prog 3 #[.string (bs l), P.v A c, Q.v A2 d] w fun e w' => e = .returned (.bool true) ∧ Below w.heap.size w w' := by
  have hb0 : Below w.heap.size w ((w.alloc (.cells (P.cs A c) 24)).alloc (.cells (Q.cs A2 d) 24)) := by repeat (first | with_reducible exact Below.refl _ _ | with_reducible assumption | with_reducible refine Below.drew ?_ | with_reducible refine Below.alloc ?_ (by first | omega | (simp; done) | (simp; omega)) _)
  have HF0 := Lib.hid (two_boxes hp hq hc hd)
  have HS0 := Lib.hid hb0
  have HV0 := Lib.hid (hV.now hb0)
  have HV := Lib.hid hV
  clear hb0 hp hq hV
  go_enter Tryd.func3, Tryd.ntmps3
  go_wp2_with fail
  refine (small12_any B _ HV0.out).mono ?_
  rintro e w1 ⟨rfl, hb1⟩
  have HF1 := Lib.hid (HF0.out.now hb1)
  have HS1 := Lib.hid (HS0.out.trans (hb1.mono HS0.out.size))
  clear hb1 HF0 HS0
  clear HV0
  go_wp2_with (first
      | ((with_reducible show wpList _ _ _ (Oper.mk _ (Op.load 24 (Operand.tmp 4)) _ _ _ _ :: _) _ _); refine wpList_load_w rfl 24 (.tmp 4) rfl (w.heap.size) 0 rfl ((P).cs (A) (c)).toList _ ((HF1).out (w.heap.size, P, A, c) (by simp)).rng Tryd.underlying24 rfl (by kernel_rfl) ?_)
      | fail)
  refine (few12_any P A c _ (HF1.out (w.heap.size, P, A, c) (by simp)).ok).mono ?_
  rintro e w2 ⟨rfl, hb2⟩
  have HF2 := Lib.hid (HF1.out.now hb2)
  have HS2 := Lib.hid (HS1.out.trans (hb2.mono HS1.out.size))
  clear hb2 HF1 HS1
  cases hfp : few12 P with
  | false =>
    go_wp2_with fail
    go_ret
    exact ⟨rfl, HS2.out⟩
  | true =>
    have HfP := Lib.hid (few12_len hfp)
    clear hfp
    go_wp2_with (first
        | ((with_reducible show wpList _ _ _ (Oper.mk _ (Op.load 24 (Operand.tmp 5)) _ _ _ _ :: _) _ _); refine wpList_load_w rfl 24 (.tmp 5) rfl (w.heap.size + 1) 0 rfl ((Q).cs (A2) (d)).toList _ ((HF2).out (w.heap.size + 1, Q, A2, d) (by simp)).rng Tryd.underlying24 rfl (by kernel_rfl) ?_)
        | fail)
    refine (few12_any Q A2 d _ (HF2.out (w.heap.size + 1, Q, A2, d) (by simp)).ok).mono ?_
    rintro e w3 ⟨rfl, hb3⟩
    have HF3 := Lib.hid (HF2.out.now hb3)
    have HS3 := Lib.hid (HS2.out.trans (hb3.mono HS2.out.size))
    clear hb3 HF2 HS2
    cases hfq : few12 Q with
    | false =>
      go_wp2_with fail
      go_ret
      exact ⟨rfl, HS3.out⟩
    | true =>
      have HfQ := Lib.hid (few12_len hfq)
      clear hfq
      have hsl : (bs l).size = l.length := bs_size l
      have hex := ext_min l 900 (by decide)
      rw [show (900 : Int).toNat = 900 from rfl] at hex
      have htl : (l.take 900).length ≤ 1000000 := by rw [List.length_take]; omega
      generalize l.take 900 = tl at *
      have HEx := Lib.hid hex
      clear hex
      go_wp2_with fail
      rw [HEx.out]
      have hpl := parse_len tl
      refine (parse_any tl _ htl).mono ?_
      rintro e w4 ⟨hb4, A4, c4, rfl, hok4, hA4, hcap4⟩
      generalize hq4 : parseL (tl) = q at *
      obtain ⟨P4, pos4, er4⟩ := q
      dsimp only at hok4 hcap4 ⊢
      have HQ4 := Lib.hid hq4
      have HOk4 := Lib.hid hok4
      have HB4 := Lib.hid ((HS3.out).trans (hb4.mono (HS3.out).size))
      have HE4 := Lib.hid ((HF3.out).now hb4)
      clear hq4 hok4 hb4 hA4
      have hpl4 : P4.types.length ≤ 20 := hpl
      clear hpl
      have HTh4 := Lib.hid (zero_there w4)
      go_upto_region 6 with (first
          | ((with_reducible show wpList _ _ _ (Oper.mk _ (Op.store 24 (Operand.tmp 9) _) _ _ _ _ :: _) _ _); refine wpList_store_box rfl 24 _ _ rfl w4.heap.size (P4.cs A4 c4) ?x1 ?x2 HTh4.out (by kernel_rfl) (by simp [Value.oneCell']) ?_; (case x1 => rfl); (case x2 => rfl); intro ws4 hr ht hg; (obtain ⟨hpa, hbb⟩ := PA.made2 rfl HOk4.out hcap4 hr hg); have HF4 := Lib.hid (AllPA.cons hpa (HE4.out.now hbb)); have HS4 := Lib.hid (HB4.out.trans (hbb.mono HB4.out.size)); clear hr ht hg hpa hbb)
          | fail)
      clear HTh4 HOk4 HE4 HB4 HF3 HS3
      go_wp2_with fail
      refine (gParse_any tl _ htl).mono ?_
      rintro e w5 ⟨hb5, A5, c5, rfl, hok5, hA5, hcap5⟩
      generalize hq5 : parseL (tl) = q at *
      obtain ⟨P5, pos5, er5⟩ := q
      dsimp only at hok5 hcap5 ⊢
      have HQ5 := Lib.hid hq5
      have HOk5 := Lib.hid hok5
      have HB5 := Lib.hid ((HS4.out).trans (hb5.mono (HS4.out).size))
      have HE5 := Lib.hid ((HF4.out).now hb5)
      clear hq5 hok5 hb5 hA5
      obtain ⟨hP5, rfl, rfl⟩ : P5 = P4 ∧ pos5 = pos4 ∧ er5 = er4 := by
        have hq := HQ4.out
        injection hq with a b
        injection b with b c
        exact ⟨a, b, c⟩
      have HP5 := Lib.hid hP5
      clear hP5
      have HTh5 := Lib.hid (zero_there w5)
      go_upto_region 7 with (first
          | ((with_reducible show wpList _ _ _ (Oper.mk _ (Op.store 24 (Operand.tmp 12) _) _ _ _ _ :: _) _ _); refine wpList_store_box rfl 24 _ _ rfl w5.heap.size (P5.cs A5 c5) ?x1 ?x2 HTh5.out (by kernel_rfl) (by simp [Value.oneCell']) ?_; (case x1 => rfl); (case x2 => rfl); intro ws5 hr ht hg; (obtain ⟨hpa, hbb⟩ := PA.made2 rfl HOk5.out hcap5 hr hg); have HF5 := Lib.hid (AllPA.cons hpa (HE5.out.now hbb)); have HS5 := Lib.hid (HB5.out.trans (hbb.mono HB5.out.size)); clear hr ht hg hpa hbb)
          | fail)
      clear HTh5 HOk5 HE5 HB5 HF4 HS4
      go_wp2_with (first
          | ((with_reducible show wpList _ _ _ (Oper.mk _ (Op.load 24 (Operand.tmp 4)) _ _ _ _ :: _) _ _); refine wpList_load_w rfl 24 (.tmp 4) rfl (w.heap.size) 0 rfl ((P).cs (A) (c)).toList _ ((HF5).out (w.heap.size, P, A, c) (by simp)).rng Tryd.underlying24 rfl (by kernel_rfl) ?_)
          | fail)
      refine (print_any P A c B _ (HF5.out (w.heap.size, P, A, c) (by simp)).ok hc (HV.out.now HS5.out)).mono ?_
      rintro e w6 ⟨rfl, hb6⟩
      have HF6 := Lib.hid (HF5.out.now hb6)
      have HS6 := Lib.hid (HS5.out.trans (hb6.mono HS5.out.size))
      clear hb6 HF5 HS5
      obtain ⟨xs, hxs⟩ : ∃ x, x = (if profRight P = true then printF P else []) := ⟨_, rfl⟩
      obtain ⟨xe, hxe⟩ : ∃ x : Int, x = (if profRight P = true then 0 else 1) := ⟨_, rfl⟩
      rw [← hxs, ← hxe]
      have HXs := Lib.hid hxs
      have HXe := Lib.hid hxe
      clear hxs hxe
      go_wp2_with (first
          | ((with_reducible show wpList _ _ _ (Oper.mk _ (Op.load 24 (Operand.tmp 4)) _ _ _ _ :: _) _ _); refine wpList_load_w rfl 24 (.tmp 4) rfl (w.heap.size) 0 rfl ((P).cs (A) (c)).toList _ ((HF6).out (w.heap.size, P, A, c) (by simp)).rng Tryd.underlying24 rfl (by kernel_rfl) ?_)
          | fail)
      refine (gPrint_any P A c _ (HF6.out (w.heap.size, P, A, c) (by simp)).ok).mono ?_
      rintro e w7 ⟨rfl, hb7⟩
      rw [← HXs.out, ← HXe.out]
      have HF7 := Lib.hid (HF6.out.now hb7)
      have HS7 := Lib.hid (HS6.out.trans (hb7.mono HS6.out.size))
      clear hb7 HF6 HS6
      have HLs : Hid (P4.types.length ≤ 1000 ∧ P5.types.length ≤ 1000 ∧ P.types.length ≤ 1000 ∧ Q.types.length ≤ 1000) := Lib.hid (by
        have h1 := HfP.out.1
        have h2 := HfQ.out.1
        have h3 := HP5.out
        rw [h3]
        omega)
      have HC1 : Hid (∀ wq, Below w7.heap.size w7 wq → Calls Tryd.prog 15 #[P4.v A4 c4, P5.v A5 c5] wq fun e w' => e = .returned (.bool true) ∧ Below wq.heap.size wq w') := Lib.hid (fun wq h =>
        (rSame_any P4 P5 A4 A5 c4 c5 wq ((HF7.out.now h) (w4.heap.size, P4, A4, c4) (by simp)).ok ((HF7.out.now h) (w5.heap.size, P5, A5, c5) (by simp)).ok HLs.out.1 HLs.out.2.1).mono fun e w' ⟨h1, h2⟩ => ⟨by rw [h1, (sameP_iff _ _).2 HP5.out.symm], h2⟩)
      have HC2 : Hid (∀ wq, Below w7.heap.size w7 wq → Calls Tryd.prog 16 #[P.v A c] wq fun e w' => e = .returned (.bool (profRight P)) ∧ Below wq.heap.size wq w') := Lib.hid (fun wq h => pRight_any P A c wq ((HF7.out.now h) (w.heap.size, P, A, c) (by simp)).ok)
      have HC3 : Hid (∀ wq, Below w7.heap.size w7 wq → Calls Tryd.prog 17 #[P.v A c] wq fun e w' => e = .returned (.bool (profRight P)) ∧ Below wq.heap.size wq w') := Lib.hid (fun wq h => rRight_any P A c wq ((HF7.out.now h) (w.heap.size, P, A, c) (by simp)).ok)
      have HC4 : Hid (∀ wq, Below w7.heap.size w7 wq → Calls Tryd.prog 18 #[P.v A c, Q.v A2 d] wq fun e w' => e = .returned (.bool (sameP P Q)) ∧ Below wq.heap.size wq w') := Lib.hid (fun wq h =>
        fSame_any P Q A A2 c d wq ((HF7.out.now h) (w.heap.size, P, A, c) (by simp)).ok ((HF7.out.now h) (w.heap.size + 1, Q, A2, d) (by simp)).ok HLs.out.2.2.1 HLs.out.2.2.2)
      have HC5 : Hid (∀ wq, Below w7.heap.size w7 wq → Calls Tryd.prog 15 #[P.v A c, Q.v A2 d] wq fun e w' => e = .returned (.bool (sameP P Q)) ∧ Below wq.heap.size wq w') := Lib.hid (fun wq h =>
        rSame_any P Q A A2 c d wq ((HF7.out.now h) (w.heap.size, P, A, c) (by simp)).ok ((HF7.out.now h) (w.heap.size + 1, Q, A2, d) (by simp)).ok HLs.out.2.2.1 HLs.out.2.2.2)
      have HC6 : Hid (∀ wq, Below w7.heap.size w7 wq → Calls Tryd.prog 18 #[P.v A c, P.v A c] wq fun e w' => e = .returned (.bool true) ∧ Below wq.heap.size wq w') := Lib.hid (fun wq h =>
        (fSame_any P P A A c c wq ((HF7.out.now h) (w.heap.size, P, A, c) (by simp)).ok ((HF7.out.now h) (w.heap.size, P, A, c) (by simp)).ok HLs.out.2.2.1 HLs.out.2.2.1).mono fun e w' ⟨h1, h2⟩ => ⟨by rw [h1, (sameP_iff _ _).2 rfl], h2⟩)
      generalize profRight P = pr at *
      generalize sameP P Q = sp at *
      go_wp2_with fail
      refine wp_region_det (S := fun w' => Below w7.heap.size w7 w') (by kernel_rfl) (by kernel_rfl) ((Below.refl _ _).drew) ?_
      rw [List.toList_toArray]
      repeat (first
        | ((with_reducible show Det _ _ _ _ (Oper.mk _ (Op.load 24 (Operand.tmp 9)) _ _ _ _ :: _) _); refine Det.load (by rfl) 24 (.tmp 9) rfl (w4.heap.size) rfl ((P4).cs (A4) (c4)).toList _ (fun wq hSq => (((HF7).out.now hSq) (w4.heap.size, P4, A4, c4) (by simp)).rng) Tryd.underlying24 rfl (by kernel_rfl) ?_; simp only [Act.put, List.setIfInBounds_toArray, List.set_cons_zero, List.set_cons_succ, List.getElem_toArray, List.getElem_cons_zero, List.getElem_cons_succ])
        | ((with_reducible show Det _ _ _ _ (Oper.mk _ (Op.load 24 (Operand.tmp 12)) _ _ _ _ :: _) _); refine Det.load (by rfl) 24 (.tmp 12) rfl (w5.heap.size) rfl ((P5).cs (A5) (c5)).toList _ (fun wq hSq => (((HF7).out.now hSq) (w5.heap.size, P5, A5, c5) (by simp)).rng) Tryd.underlying24 rfl (by kernel_rfl) ?_; simp only [Act.put, List.setIfInBounds_toArray, List.set_cons_zero, List.set_cons_succ, List.getElem_toArray, List.getElem_cons_zero, List.getElem_cons_succ])
        | ((with_reducible show Det _ _ _ _ (Oper.mk _ (Op.load 24 (Operand.tmp 4)) _ _ _ _ :: _) _); refine Det.load (by rfl) 24 (.tmp 4) rfl (w.heap.size) rfl ((P).cs (A) (c)).toList _ (fun wq hSq => (((HF7).out.now hSq) (w.heap.size, P, A, c) (by simp)).rng) Tryd.underlying24 rfl (by kernel_rfl) ?_; simp only [Act.put, List.setIfInBounds_toArray, List.set_cons_zero, List.set_cons_succ, List.getElem_toArray, List.getElem_cons_zero, List.getElem_cons_succ])
        | ((with_reducible show Det _ _ _ _ (Oper.mk _ (Op.load 24 (Operand.tmp 5)) _ _ _ _ :: _) _); refine Det.load (by rfl) 24 (.tmp 5) rfl (w.heap.size + 1) rfl ((Q).cs (A2) (d)).toList _ (fun wq hSq => (((HF7).out.now hSq) (w.heap.size + 1, Q, A2, d) (by simp)).rng) Tryd.underlying24 rfl (by kernel_rfl) ?_; simp only [Act.put, List.setIfInBounds_toArray, List.set_cons_zero, List.set_cons_succ, List.getElem_toArray, List.getElem_cons_zero, List.getElem_cons_succ])
        | ((with_reducible show Det _ _ _ _ (Oper.mk _ (Op.call (Call.mk (Callee.value (Operand.func 15)) #[Operand.tmp 58, _] _)) _ _ _ _ :: _) _); refine Det.step (.bool true) (by rfl) (fun wq hSq K hK => ?_) ?_; (· (go_simp; refine (HC1.out wq hSq).mono ?_; rintro e4 w4 ⟨rfl, hb4⟩; go_wp2_with fail; refine hK.out _ _ (hSq.trans (hb4.mono hSq.size)) ?_; first | rfl | (simp [Act.put]; done))); simp only [Act.put, List.setIfInBounds_toArray, List.set_cons_zero, List.set_cons_succ, List.getElem_toArray, List.getElem_cons_zero, List.getElem_cons_succ])
        | ((with_reducible show Det _ _ _ _ (Oper.mk _ (Op.call (Call.mk (Callee.value (Operand.func 15)) #[Operand.tmp 93, _] _)) _ _ _ _ :: _) _); refine Det.step (.bool sp) (by rfl) (fun wq hSq K hK => ?_) ?_; (· (go_simp; refine (HC5.out wq hSq).mono ?_; rintro e4 w4 ⟨rfl, hb4⟩; go_wp2_with fail; refine hK.out _ _ (hSq.trans (hb4.mono hSq.size)) ?_; first | rfl | (simp [Act.put]; done))); simp only [Act.put, List.setIfInBounds_toArray, List.set_cons_zero, List.set_cons_succ, List.getElem_toArray, List.getElem_cons_zero, List.getElem_cons_succ])
        | ((with_reducible show Det _ _ _ _ (Oper.mk _ (Op.call (Call.mk (Callee.value (Operand.func 18)) #[Operand.tmp 90, _] _)) _ _ _ _ :: _) _); refine Det.step (.bool sp) (by rfl) (fun wq hSq K hK => ?_) ?_; (· (go_simp; refine (HC4.out wq hSq).mono ?_; rintro e4 w4 ⟨rfl, hb4⟩; go_wp2_with fail; refine hK.out _ _ (hSq.trans (hb4.mono hSq.size)) ?_; first | rfl | (simp [Act.put]; done))); simp only [Act.put, List.setIfInBounds_toArray, List.set_cons_zero, List.set_cons_succ, List.getElem_toArray, List.getElem_cons_zero, List.getElem_cons_succ])
        | ((with_reducible show Det _ _ _ _ (Oper.mk _ (Op.call (Call.mk (Callee.value (Operand.func 18)) #[Operand.tmp 99, _] _)) _ _ _ _ :: _) _); refine Det.step (.bool true) (by rfl) (fun wq hSq K hK => ?_) ?_; (· (go_simp; refine (HC6.out wq hSq).mono ?_; rintro e4 w4 ⟨rfl, hb4⟩; go_wp2_with fail; refine hK.out _ _ (hSq.trans (hb4.mono hSq.size)) ?_; first | rfl | (simp [Act.put]; done))); simp only [Act.put, List.setIfInBounds_toArray, List.set_cons_zero, List.set_cons_succ, List.getElem_toArray, List.getElem_cons_zero, List.getElem_cons_succ])
        | ((with_reducible show Det _ _ _ _ (Oper.mk _ (Op.call (Call.mk (Callee.value (Operand.func 16)) _ _)) _ _ _ _ :: _) _); refine Det.step (.bool pr) (by rfl) (fun wq hSq K hK => ?_) ?_; (· (go_simp; refine (HC2.out wq hSq).mono ?_; rintro e4 w4 ⟨rfl, hb4⟩; go_wp2_with fail; refine hK.out _ _ (hSq.trans (hb4.mono hSq.size)) ?_; first | rfl | (simp [Act.put]; done))); simp only [Act.put, List.setIfInBounds_toArray, List.set_cons_zero, List.set_cons_succ, List.getElem_toArray, List.getElem_cons_zero, List.getElem_cons_succ])
        | ((with_reducible show Det _ _ _ _ (Oper.mk _ (Op.call (Call.mk (Callee.value (Operand.func 17)) _ _)) _ _ _ _ :: _) _); refine Det.step (.bool pr) (by rfl) (fun wq hSq K hK => ?_) ?_; (· (go_simp; refine (HC3.out wq hSq).mono ?_; rintro e4 w4 ⟨rfl, hb4⟩; go_wp2_with fail; refine hK.out _ _ (hSq.trans (hb4.mono hSq.size)) ?_; first | rfl | (simp [Act.put]; done))); simp only [Act.put, List.setIfInBounds_toArray, List.set_cons_zero, List.set_cons_succ, List.getElem_toArray, List.getElem_cons_zero, List.getElem_cons_succ])
        | (refine Det.skip (by rfl) ?_; simp only [Act.put, List.setIfInBounds_toArray, List.set_cons_zero, List.set_cons_succ, List.getElem_toArray, List.getElem_cons_zero, List.getElem_cons_succ])
        | (refine Det.read (v := ?_) (by rfl) ?_ ?_; rotate_left; (· (intro wq hSq; skip; go_simp; try with_reducible rfl)); simp only [Act.put, List.setIfInBounds_toArray, List.set_cons_zero, List.set_cons_succ, List.getElem_toArray, List.getElem_cons_zero, List.getElem_cons_succ])
        | fail)
      refine Det.done fun wz hz => ?_
      have HZ := Lib.hid (HS7.out.trans (hz.mono HS7.out.size))
      clear hz
      go_wp2_with fail
      go_ret
      exact ⟨rfl, HZ.out⟩
end Go.Proofs.YtnaejabgkfhlbaaDoor
