/- Contracts of lease.Frame and lease.open, and of their reference. -/
import Derived.Test.YtoibgenhbpppdaaDoorWrT
import Derived.Test.YtoibgenhbpppdaaDoorWrP
import Derived.Test.YtoibgenhbpppdaaDoorWrF
import Derived.Test.YtoibgenhbpppdaaDoorWrU
namespace Go.Proofs.YtoibgenhbpppdaaDoor
open Go.RowKit

/-- What may be framed. -/
def Framed (n : Int) (l : List UInt8) : Prop := 1 ≤ n ∧ n ≤ 1073741824 ∧ l.length ≤ 20000
def framedB (n : Int) (l : List UInt8) : Bool := decide (1 ≤ n) && (decide (n ≤ 1073741824) && decide (l.length ≤ 20000))
theorem framedB_iff (n : Int) (l : List UInt8) : framedB n l = true ↔ Framed n l := by simp [framedB, Framed]
def frameF (n : Int) (l : List UInt8) : List UInt8 := if framedB n l then encI n ++ encT l else []
theorem frame_yes {n : Int} {l : List UInt8} (h : framedB n l = true) : frameF n l = encI n ++ encT l := by rw [frameF, if_pos h]
theorem frame_no {n : Int} {l : List UInt8} (h : framedB n l = false) : frameF n l = [] := by rw [frameF, if_neg (by simp [h])]

theorem frame_any {B : Nat} (n : Int) (l : List UInt8) (w : World) (hV : Vs B w) (hn : InInt n) (hl : l.length ≤ 1000000000000) :
    Calls Tryd.prog 13 #[.int .i64 n, .string (bs l)] w fun e w' => e = .returned (.string (bs (frameF n l))) ∧ Below w.heap.size w w' := by
  have hsz : (bs l).size = l.length := bs_size l
  have HV := Lib.hid hV
  have HN := Lib.hid hn
  have HC := Lib.hid (show framedB n l = (decide (1 ≤ n) && (decide (n ≤ 1073741824) && decide (l.length ≤ 20000))) from rfl)
  clear hV hn
  go_enter Tryd.func13, Tryd.ntmps13
  by_cases g1 : n < 1
  · have HD : Hid (frameF n l = []) := Lib.hid (frame_no (by rw [HC.out]; simp; omega))
    go_wp2_with fail
    go_ret
    exact ⟨by rw [HD.out]; rfl, Below.refl _ _⟩
  by_cases g2 : 1073741824 < n
  · have HD : Hid (frameF n l = []) := Lib.hid (frame_no (by rw [HC.out]; simp; omega))
    go_wp2_with fail
    go_ret
    exact ⟨by rw [HD.out]; rfl, Below.refl _ _⟩
  by_cases g3 : (20000 : Int) < l.length
  · have HD : Hid (frameF n l = []) := Lib.hid (frame_no (by rw [HC.out]; simp; omega))
    go_wp2_with fail
    go_ret
    exact ⟨by rw [HD.out]; rfl, Below.refl _ _⟩
  have HD : Hid (frameF n l = encI n ++ encT l) := Lib.hid (frame_yes (by rw [HC.out]; simp; omega))
  have HEn : Hid (encN n = encI n) := Lib.hid (by rw [encN, if_neg (by omega)])
  have hl1 := encI_len n HN.out
  have hl2 := encT_len l ⟨by omega, by omega⟩
  have d3 : decide (20000 < l.length) = false := by simp; omega
  clear HC
  go_wp2_with fail
  refine (wNum_any n _ HV.out HN.out).mono ?_
  rintro e w1 ⟨rfl, hb1⟩
  have HB1 := Lib.hid hb1
  clear hb1
  rw [HEn.out]
  go_wp2_with fail
  refine (wText_any l _ (HV.out.now HB1.out) hl).mono ?_
  rintro e w2 ⟨rfl, hb2⟩
  have HB2 := Lib.hid (HB1.out.trans (hb2.mono HB1.out.size))
  clear hb2
  go_wp2_with (first
      | ((with_reducible show wpList _ _ _ (Oper.mk _ (Op.binOp .add 9 _ _ _) _ _ _ _ :: _) _ _); refine wp_cat rfl rfl Tryd.underlying9 rfl rfl (by first | omega | (simp; done) | (simp; omega)) ?_)
      | fail)
  go_ret
  exact ⟨ret_str HD.out.symm, HB2.out⟩
theorem frameR_any {B : Nat} (n : Int) (l : List UInt8) (w : World) (hV : Vs B w) (hn : InInt n) (hl : l.length ≤ 1000000000000) :
    Calls Tryd.prog 14 #[.int .i64 n, .string (bs l)] w fun e w' => e = .returned (.string (bs (frameF n l))) ∧ Below w.heap.size w w' := by
  have hsz : (bs l).size = l.length := bs_size l
  have HV := Lib.hid hV
  have HN := Lib.hid hn
  have HC := Lib.hid (show framedB n l = (decide (1 ≤ n) && (decide (n ≤ 1073741824) && decide (l.length ≤ 20000))) from rfl)
  clear hV hn
  go_enter Tryd.func14, Tryd.ntmps14
  by_cases g1 : n < 1
  · have HD : Hid (frameF n l = []) := Lib.hid (frame_no (by rw [HC.out]; simp; omega))
    go_wp2_with fail
    go_ret
    exact ⟨by rw [HD.out]; rfl, Below.refl _ _⟩
  by_cases g2 : 1073741824 < n
  · have HD : Hid (frameF n l = []) := Lib.hid (frame_no (by rw [HC.out]; simp; omega))
    go_wp2_with fail
    go_ret
    exact ⟨by rw [HD.out]; rfl, Below.refl _ _⟩
  by_cases g3 : (20000 : Int) < l.length
  · have HD : Hid (frameF n l = []) := Lib.hid (frame_no (by rw [HC.out]; simp; omega))
    go_wp2_with fail
    go_ret
    exact ⟨by rw [HD.out]; rfl, Below.refl _ _⟩
  have HD : Hid (frameF n l = encI n ++ encT l) := Lib.hid (frame_yes (by rw [HC.out]; simp; omega))
  have HEn : Hid (encN n = encI n) := Lib.hid (by rw [encN, if_neg (by omega)])
  have hl1 := encI_len n HN.out
  have hl2 := encT_len l ⟨by omega, by omega⟩
  have d3 : decide (20000 < l.length) = false := by simp; omega
  clear HC
  go_wp2_with fail
  refine (rNum_any n _ HN.out).mono ?_
  rintro e w1 ⟨rfl, hb1⟩
  have HB1 := Lib.hid hb1
  clear hb1
  rw [HEn.out]
  go_wp2_with fail
  refine (rText_any l _ hl).mono ?_
  rintro e w2 ⟨rfl, hb2⟩
  have HB2 := Lib.hid (HB1.out.trans (hb2.mono HB1.out.size))
  clear hb2
  go_wp2_with (first
      | ((with_reducible show wpList _ _ _ (Oper.mk _ (Op.binOp .add 9 _ _ _) _ _ _ _ :: _) _ _); refine wp_cat rfl rfl Tryd.underlying9 rfl rfl (by first | omega | (simp; done) | (simp; omega)) ?_)
      | fail)
  go_ret
  exact ⟨ret_str HD.out.symm, HB2.out⟩

def openF (s : List UInt8) : Int × List UInt8 × Bool :=
  let r := rNum 59 0 ⟨s, false⟩
  let t := rText r.2
  (r.1, t.1, rDone t.2 && framedB r.1 t.1)
theorem good_false (s : List UInt8) : Good ⟨s, false⟩ := fun h => by simp at h
theorem good_done {s : RS} (h : rDone s = true) : s.bad = false ∧ s.rest = [] := by
  unfold rDone at h
  cases hb : s.bad <;> simp [hb] at h
  exact ⟨rfl, h⟩
theorem openF_inv {s : List UInt8} (h : (openF s).2.2 = true) : Framed (openF s).1 (openF s).2.1 ∧ s = frameF (openF s).1 (openF s).2.1 := by
  unfold openF at h ⊢
  simp only [Bool.and_eq_true] at h ⊢
  obtain ⟨hd, hf⟩ := h
  refine ⟨(framedB_iff _ _).1 hf, ?_⟩
  rw [frame_yes hf]
  obtain ⟨hb, hr⟩ := good_done hd
  have h1 := rText_inv hb
  have h2 := rInt_inv rfl h1.1
  have e2 := h1.2
  rw [hr, List.append_nil] at e2
  have e3 := h2.2
  rw [e2] at e3
  exact e3
theorem openF_back {n : Int} {l : List UInt8} (h : framedB n l = true) : openF (frameF n l) = (n, l, true) := by
  have hf := (framedB_iff n l).1 h
  unfold Framed at hf
  rw [frame_yes h]
  unfold openF
  rw [rInt_back ⟨by omega, by omega⟩ (by omega)]
  simp only
  have := rText_back l [] ⟨by omega, by omega⟩
  rw [List.append_nil] at this
  rw [this]
  simp [rDone, h]
theorem openF_in (s : List UInt8) : InInt (openF s).1 := rNum_in 59 0 _
theorem openF_small (s : List UInt8) : (openF s).2.1.length ≤ s.length :=
  Nat.le_trans (text_small _) (rNum_rest 59 0 ⟨s, false⟩)
theorem openF_num (s : List UInt8) : (openF s).1 = (rNum 59 0 ⟨s, false⟩).1 := rfl
theorem openF_text (s : List UInt8) : (openF s).2.1 = (rText (rNum 59 0 ⟨s, false⟩).2).1 := rfl
theorem openF_flag (s : List UInt8) : (openF s).2.2 = (rDone (rText (rNum 59 0 ⟨s, false⟩).2).2 && framedB (openF s).1 (openF s).2.1) := rfl
/-- What the reference's Open returns. -/
def openR (s : List UInt8) : Int × List UInt8 × Bool := if (openF s).2.2 then openF s else (0, [], false)
theorem openR_of (s : List UInt8) : openR s = if (rDone (rText (rNum 59 0 ⟨s, false⟩).2).2 = true ∧ s ≠ [] ∧ frameF (openF s).1 (openF s).2.1 = s) then ((openF s).1, (openF s).2.1, true) else (0, [], false) := by
  unfold openR
  by_cases h : (openF s).2.2 = true
  · have h1 := openF_inv h
    have h2 := h
    rw [openF_flag, Bool.and_eq_true] at h2
    have h5 : s ≠ [] := by
      intro e
      have h3 := h1.2
      rw [frame_yes h2.2, e] at h3
      have h4 := congrArg List.length h3
      simp [encI] at h4
    rw [if_pos h, if_pos ⟨h2.1, h5, h1.2.symm⟩]
    exact Prod.ext rfl (Prod.ext rfl h)
  · rw [if_neg h, if_neg]
    rintro ⟨h1, h2, h3⟩
    apply h
    rw [openF_flag, h1]
    cases hf : framedB (openF s).1 (openF s).2.1 with
    | true => rfl
    | false =>
      rw [frame_no hf] at h3
      exact absurd h3.symm h2

def opV (x : Int × List UInt8 × Bool) : Ending := .returned (.tuple #[.int .i64 x.1, .string (bs x.2.1), .bool x.2.2])
theorem opV_mk {x : Int × List UInt8 × Bool} {n : Int} {t : List UInt8} {b : Bool} (h1 : x.1 = n) (h2 : x.2.1 = t) (h3 : x.2.2 = b) : Ending.returned (.tuple #[.int .i64 n, .string (bs t), .bool b]) = opV x := by
  subst h1; subst h2; subst h3; rfl

set_option maxHeartbeats 1000000 in
theorem openL_any {B : Nat} (s : List UInt8) (w : World) (hV : Vs B w) (hl : s.length ≤ 1000000000000) :
    Calls Tryd.prog 25 #[.string (bs s)] w fun e w' => e = opV (openF s) ∧ Below w.heap.size w w' := by
  have HV := Lib.hid hV
  have H1 := Lib.hid (openF_num s)
  have H2 := Lib.hid (openF_text s)
  have H3 := Lib.hid (openF_flag s)
  have H4 := Lib.hid (rNum_rest 59 0 ⟨s, false⟩)
  clear hV
  go_enter Tryd.func25, Tryd.ntmps25
  go_wp2_with fail
  refine (open_any s _).mono ?_
  rintro e w1 ⟨rfl, hr1, hb1⟩
  have HR1 := Lib.hid hr1
  have HB1 := Lib.hid hb1
  obtain ⟨b, hbe⟩ : ∃ b, b = w.heap.size := ⟨_, rfl⟩
  rw [← hbe] at HR1 ⊢
  have HE := Lib.hid hbe
  clear hr1 hb1 hbe
  go_wp2_with fail
  refine (rdNum_any (B := w.heap.size) b _ _ ⟨HB1.out.size, fun w' hb => HV.out.2 w' ((HB1.out.mono HV.out.le).trans (hb.mono HV.out.le))⟩ (by rw [HE.out]; exact Nat.le_refl _) HR1.out hl).mono ?_
  rintro e w2 ⟨rfl, hr2, ht2⟩
  have HR2 := Lib.hid hr2
  have HB2 := Lib.hid (HB1.out.trans (ht2.to_below HB1.out.size (fun i hi => by cases hi; rw [HE.out]; exact Nat.le_refl _)))
  clear hr2 ht2
  rw [← H1.out]
  generalize (rNum 59 0 ⟨s, false⟩).2 = s2 at *
  go_wp2_with fail
  refine (rdText_any (B := w.heap.size) b _ _ ⟨HB2.out.size, fun w' hb => HV.out.2 w' ((HB2.out.mono HV.out.le).trans (hb.mono HV.out.le))⟩ (by rw [HE.out]; exact Nat.le_refl _) HR2.out (Nat.le_trans H4.out hl)).mono ?_
  rintro e w3 ⟨rfl, hr3, ht3⟩
  have HR3 := Lib.hid hr3
  have HB3 := Lib.hid (HB2.out.trans (ht3.to_below HB2.out.size (fun i hi => by cases hi; rw [HE.out]; exact Nat.le_refl _)))
  clear hr3 ht3
  rw [← H2.out]
  generalize (rText s2).2 = s3 at *
  go_wp2_with fail
  refine (done_any b s3 _ HR3.out).mono ?_
  rintro e w4 ⟨rfl, rfl⟩
  have HF : Hid (framedB (openF s).1 (openF s).2.1 = (decide (1 ≤ (openF s).1) && (decide ((openF s).1 ≤ 1073741824) && decide ((openF s).2.1.length ≤ 20000)))) := Lib.hid rfl
  have HI := openF_in s
  have HS := Nat.le_trans (openF_small s) hl
  obtain ⟨v, hv⟩ : ∃ v, v = openF s := ⟨_, rfl⟩
  rw [← hv] at H1 H2 H3 HF HI HS ⊢
  have HQ := Lib.hid hv.symm
  clear hv
  obtain ⟨n, t, f⟩ := v
  simp only at H1 H2 H3 HF HI HS ⊢
  have hsz : (bs t).size = t.length := bs_size t
  cases hd : rDone s3
  · have HX : Hid (f = false) := Lib.hid (by rw [H3.out, hd]; rfl)
    go_wp2_with fail
    refine bodyPost_ret (v := .tuple #[.int .i64 n, .string (bs t), .bool false]) (by simp [results, Tryd.results25, go_sem, bs]) rfl ?_
    exact ⟨by rw [HQ.out, HX.out]; rfl, HB3.out⟩
  by_cases g1 : 0 < n
  · by_cases g2 : n ≤ 1073741824
    · by_cases g3 : (t.length : Int) ≤ 20000
      · have HX : Hid (f = true) := Lib.hid (by rw [H3.out, hd, HF.out]; simp; omega)
        have d3 : decide (t.length ≤ 20000) = true := by simp; omega
        go_wp2_with fail
        refine bodyPost_ret (v := .tuple #[.int .i64 n, .string (bs t), .bool true]) (by simp [results, Tryd.results25, go_sem, bs]) rfl ?_
        exact ⟨by rw [HQ.out, HX.out]; rfl, HB3.out⟩
      · have HX : Hid (f = false) := Lib.hid (by rw [H3.out, hd, HF.out]; simp; omega)
        have d3 : decide (t.length ≤ 20000) = false := by simp; omega
        go_wp2_with fail
        refine bodyPost_ret (v := .tuple #[.int .i64 n, .string (bs t), .bool false]) (by simp [results, Tryd.results25, go_sem, bs]) rfl ?_
        exact ⟨by rw [HQ.out, HX.out]; rfl, HB3.out⟩
    · have HX : Hid (f = false) := Lib.hid (by rw [H3.out, hd, HF.out]; simp; omega)
      go_wp2_with fail
      refine bodyPost_ret (v := .tuple #[.int .i64 n, .string (bs t), .bool false]) (by simp [results, Tryd.results25, go_sem, bs]) rfl ?_
      exact ⟨by rw [HQ.out, HX.out]; rfl, HB3.out⟩
  · have HX : Hid (f = false) := Lib.hid (by rw [H3.out, hd, HF.out]; simp; omega)
    go_wp2_with fail
    refine bodyPost_ret (v := .tuple #[.int .i64 n, .string (bs t), .bool false]) (by simp [results, Tryd.results25, go_sem, bs]) rfl ?_
    exact ⟨by rw [HQ.out, HX.out]; rfl, HB3.out⟩

set_option maxHeartbeats 1000000 in
theorem openR_any {B : Nat} (s : List UInt8) (w : World) (hV : Vs B w) (hl : s.length ≤ 1000000000000) :
    Calls Tryd.prog 26 #[.string (bs s)] w fun e w' => e = opV (openR s) ∧ Below w.heap.size w w' := by
  have HV := Lib.hid hV
  have HRO := Lib.hid (openR_of s)
  have H1 := Lib.hid (openF_num s)
  have H2 := Lib.hid (openF_text s)
  have H4 := Lib.hid (rNum_rest 59 0 ⟨s, false⟩)
  have HG1 := Lib.hid (good_num (e := 59) (m := 0) (good_false s))
  have HL := Lib.hid hl
  clear hV
  go_enter Tryd.func26, Tryd.ntmps26
  go_wp2_with fail
  refine (qOpen_any s _).mono ?_
  rintro e w1 ⟨rfl, hr1, hb1⟩
  have HR1 := Lib.hid hr1
  have HB1 := Lib.hid hb1
  obtain ⟨b, hbe⟩ : ∃ b, b = w.heap.size := ⟨_, rfl⟩
  rw [← hbe] at HR1 ⊢
  have HE := Lib.hid hbe
  clear hr1 hb1 hbe
  go_wp2_with fail
  refine (qNum_any b _ _ HR1.out hl).mono ?_
  rintro e w2 ⟨rfl, hr2, ht2⟩
  have HR2 := Lib.hid hr2
  have HB2 := Lib.hid (HB1.out.trans (ht2.to_below HB1.out.size (fun i hi => by cases hi; rw [HE.out]; exact Nat.le_refl _)))
  clear hr2 ht2
  rw [← H1.out]
  generalize (rNum 59 0 ⟨s, false⟩).2 = s2 at *
  go_wp2_with fail
  refine (qText_any b _ _ HG1.out HR2.out (Nat.le_trans H4.out hl)).mono ?_
  rintro e w3 ⟨rfl, hr3, ht3⟩
  have HR3 := Lib.hid hr3
  have HB3 := Lib.hid (HB2.out.trans (ht3.to_below HB2.out.size (fun i hi => by cases hi; rw [HE.out]; exact Nat.le_refl _)))
  clear hr3 ht3
  rw [← H2.out]
  generalize (rText s2).2 = s3 at *
  go_wp2_with fail
  refine (qDone_any b s3 _ HR3.out).mono ?_
  rintro e w4 ⟨rfl, rfl⟩
  have HI := Lib.hid (openF_in s)
  have HS := Lib.hid (Nat.le_trans (openF_small s) hl)
  obtain ⟨v, hv⟩ : ∃ v, v = openF s := ⟨_, rfl⟩
  rw [← hv] at HRO H1 H2 HI HS ⊢
  clear hv
  obtain ⟨n, t, f⟩ := v
  simp only at HRO H1 H2 HI HS ⊢
  cases hd : rDone s3
  · have HX : Hid (openR s = (0, [], false)) := Lib.hid (by rw [HRO.out, if_neg]; simp [hd])
    clear hl
    go_wp2_with fail
    refine bodyPost_ret (v := .tuple #[.int .i64 0, .string (bs []), .bool false]) (by simp [results, Tryd.results26, go_sem, bs]) rfl ?_
    exact ⟨by rw [HX.out]; rfl, HB3.out⟩
  have HDn := Lib.hid hd
  by_cases he : s = []
  · have HX : Hid (openR s = (0, [], false)) := Lib.hid (by rw [HRO.out, if_neg]; rintro ⟨_, h, _⟩; exact h he)
    have he2 : (bs s).toList = [] := by rw [bs_toList, he]
    have he3 : (bs s).toList.isEmpty = true := by rw [he2]; rfl
    clear hl he
    go_wp2_with fail
    refine bodyPost_ret (v := .tuple #[.int .i64 0, .string (bs []), .bool false]) (by simp [results, Tryd.results26, go_sem, bs]) rfl ?_
    exact ⟨by rw [HX.out]; rfl, HB3.out⟩
  have he2 : (bs s).toList.isEmpty = false := by rw [bs_toList]; simpa using he
  have he3 : ¬ (bs s).toList = [] := by rw [bs_toList]; exact he
  have HNe := Lib.hid he
  clear hl he
  go_wp2_with fail
  refine (frameR_any n t _ (⟨HB3.out.size, fun w' hb => HV.out.2 w' ((HB3.out.mono HV.out.le).trans (hb.mono HV.out.le))⟩ : Vs w.heap.size w3) HI.out HS.out).mono ?_
  rintro e w4 ⟨rfl, hb4⟩
  have HB4 := Lib.hid (HB3.out.trans (hb4.mono HB3.out.size))
  clear hb4
  by_cases hq : frameF n t = s
  · have HX : Hid (openR s = (n, t, true)) := Lib.hid (by rw [HRO.out, if_pos ⟨HDn.out, HNe.out, hq⟩])
    have hq2 : ((bs (frameF n t)).toList == (bs s).toList) = true := by rw [bs_beq, hq]; simp
    clear hq
    go_wp2_with fail
    refine bodyPost_ret (v := .tuple #[.int .i64 n, .string (bs t), .bool true]) (by simp [results, Tryd.results26, go_sem, bs]) rfl ?_
    exact ⟨by rw [HX.out]; rfl, HB4.out⟩
  · have HX : Hid (openR s = (0, [], false)) := Lib.hid (by rw [HRO.out, if_neg]; rintro ⟨_, _, h⟩; exact hq h)
    have hq2 : ((bs (frameF n t)).toList == (bs s).toList) = false := by rw [bs_beq]; simpa using hq
    clear hq
    go_wp2_with fail
    refine bodyPost_ret (v := .tuple #[.int .i64 0, .string (bs []), .bool false]) (by simp [results, Tryd.results26, go_sem, bs]) rfl ?_
    exact ⟨by rw [HX.out]; rfl, HB4.out⟩
end Go.Proofs.YtoibgenhbpppdaaDoor
