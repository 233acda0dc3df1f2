/- Contracts and plain laws, joined: ErRf. -/
import Derived.Test.YtlgnggogiopjaaaGreatDoorQbg
import Derived.Test.YtlgnggogiopjaaaGreatDoorQaq
/- The walk of EraseRefuses. -/
set_option linter.unusedSimpArgs false
set_option linter.unusedVariables false
namespace Go.Proofs.YtlgnggogiopjaaaGreatDoor
open Go.RowKit
set_option maxRecDepth 100000

theorem open_code {S : DS} {f : Int} (hf : f < 0 ∨ 13 < f) : openE S f = 1 := by unfold openE; rw [if_pos hf]
theorem rew_far {S : DS} {f : Int} {l : List (List UInt8)} (hf : f < 0 ∨ 13 < f) : rewE S f l = (1, S) := by unfold rewE; rw [if_pos hf]
theorem rec_far {S : DS} {f : Int} (hf : f < 0 ∨ 13 < f) : recC S f = 1 ∧ recS S f = S ∧ recL S f = [] := by
  have h := open_code (S := S) hf
  have h1 : recC S f = 1 := by unfold recC; rw [h, if_pos (by decide)]
  exact ⟨h1, by unfold recS; rw [h, if_pos (by decide)], by unfold recL; rw [if_neg (by rw [h1]; decide)]⟩
theorem rec_open {S : DS} {f : Int} {e : Int} (h : openE S f = e) (he : e ≠ 0) : recC S f = e ∧ recS S f = S ∧ recL S f = [] := by
  have h1 : recC S f = e := by unfold recC; rw [h, if_pos he]
  exact ⟨h1, by unfold recS; rw [h, if_pos he], by unfold recL; rw [if_neg (by rw [h1]; exact he)]⟩
theorem rew_open {S : DS} {f : Int} {l : List (List UInt8)} {e : Int} (hf : 0 ≤ f ∧ f ≤ 13) (hfit : fitsE l = true) (h : openE S f = e) (he : e ≠ 0) : rewE S f l = (e, S) := by
  unfold rewE
  rw [if_neg (by omega), hfit, if_neg (by decide), h, if_pos he]
theorem open_down {S : DS} {f : Int} (hf : 0 ≤ f ∧ f ≤ 13) (hd : S.down = true) : openE S f = 8 := by
  unfold openE
  rw [if_neg (by omega)]
  have : S.readC f 0 1 = 8 := by
    unfold DS.readC DS.may
    rw [if_pos hd]
    rfl
  rw [this]
  rfl
/-- A disk that is up, with a list in a file, and records that do not fit. -/
theorem rew_unfit {S : DS} {f : Int} {l : List (List UInt8)} (hf : 0 ≤ f ∧ f ≤ 13) (h : fitsE l = false) : rewE S f l = (6, S) := by
  unfold rewE
  rw [if_neg (by omega), if_pos h]
theorem fits_one (n : Nat) (hn : n ≤ 20002) : fitsE [List.replicate n 0] = decide (n ≤ 20000) := by
  have h1 : (textsL [List.replicate n 0]).length ≤ 1048576 := by
    have h3 := encT_len (List.replicate n (0 : UInt8)) ⟨by rw [List.length_replicate]; omega, by rw [List.length_replicate]; omega⟩
    have h4 := Lib.itoa_length_le (([List.replicate n (0 : UInt8)].length : Nat) : Int) (by simp) (by simp)
    simp only [List.length_replicate] at h3
    simp only [textsL, encL, List.length_append, List.length_cons, List.length_nil, List.flatMap_cons, List.flatMap_nil] at h4 ⊢
    omega
  unfold fitsE
  rw [decide_eq_true h1]
  simp
theorem fits_many (n : Nat) (hn : n ≤ 1002) : fitsE (List.replicate n []) = decide (n ≤ 1000) := by
  have h1 : (textsL (List.replicate n [])).length ≤ 1048576 := by
    have h2 := flat_bound encT 23 (List.replicate n ([] : List UInt8)) (fun x hx => by
      have h3 := encT_len ([] : List UInt8) ⟨by decide, by decide⟩
      rw [(List.mem_replicate.1 hx).2]
      simpa using h3)
    have h4 := Lib.itoa_length_le (((List.replicate n ([] : List UInt8)).length : Nat) : Int) (by omega) (by simp; omega)
    simp only [List.length_replicate] at h2 h4
    simp only [textsL, encL, List.length_append, List.length_cons, List.length_nil, List.length_replicate]
    omega
  unfold fitsE
  rw [decide_eq_true h1]
  simp
theorem put_x (t : List UInt8) (ht : t ≠ []) : (putB (bs t) 0 (bs [120])).data.toList = 120 :: t.tail := by
  have h0 : ¬ (bs ([120] : List UInt8)).size = 0 := by decide
  rw [putB, if_neg h0]
  show putL t 0 [120] = _
  cases t with
  | nil => exact absurd rfl ht
  | cons c r =>
    unfold putL padL
    simp
theorem parse_x (t : List UInt8) : rDone (parseE (120 :: t)).2 = false := by
  cases hb : (parseE (120 :: t)).2.bad with
  | true => unfold rDone; rw [hb]; rfl
  | false =>
    exfalso
    have h1 := (rItems_inv encT (fun s h => rText_inv h) (s := ⟨120 :: t, false⟩) hb).2
    simp only [encL, List.append_assoc] at h1
    cases hI : Lib.itoa ((((rItems rText ⟨120 :: t, false⟩).1).length : Nat) : Int) with
    | nil =>
      rw [hI] at h1
      simp at h1
    | cons c r =>
      rw [hI, List.cons_append] at h1
      injection h1 with h2 _
      exact not_mem_itoa (e := 120) (by decide) ((((rItems rText ⟨120 :: t, false⟩).1).length : Nat) : Int) (by rw [hI, h2]; simp)
/-- A side that is no list, and then a pointer that names none. -/
theorem refuse_x {S : DS} {l : List (List UInt8)} (h : Up S) (hh : Has S 2 [48] l) :
    (recC (S.write 3 0 (bs [120])) 2 = 22 ∧ recL (S.write 3 0 (bs [120])) 2 = []) ∧ Up (recS (S.write 3 0 (bs [120])) 2) ∧ openE ((recS (S.write 3 0 (bs [120])) 2).write 2 0 (bs [120])) 2 = 22 := by
  obtain ⟨a1, u1, e1⟩ := up_write h (f := 3) ⟨by decide, by decide⟩ [120] (by decide)
  have h0 : ¬ (bs ([120] : List UInt8)).size = 0 := by decide
  have p1 : Firm 2 (bs [48]) (S.write 3 0 (bs [120])) := by rw [e1]; exact hh.ptr.wadd (by decide)
  have f1 : ((S.write 3 0 (bs [120])).files 3).1.data.toList = 120 :: (textsL l).tail := by
    have hs := (hh.side (by decide)).1
    have hs3 : S.files 3 = (bs (textsL l), bs (textsL l)) := hs
    rw [e1, wadd_files _ _ _ _ h0, hs3]
    exact put_x _ (texts_pos l)
  generalize S.write 3 0 (bs [120]) = S5 at *
  obtain ⟨o1, o2⟩ := open_up2 u1.up (f := 2) ⟨by decide, by decide⟩ p1 (.inr (.inl rfl))
  obtain ⟨b1, u2, e2⟩ := up_sync u1 (f := 2) ⟨by decide, by decide⟩
  have f2 : ((S5.sync 2).files 3).1.data.toList = 120 :: (textsL l).tail := by
    rw [e2]
    show (updF _ _ _ 3).1.data.toList = _
    rw [updF_other _ _ _ (by decide)]
    exact f1
  have p2 : Firm 2 (bs [48]) (S5.sync 2) := by rw [e2, p1.1]; exact Firm.self _ _ _
  have hset : setR 2 [48] S5 = (0, S5.sync 2) := by unfold setR syR; rw [if_neg (by decide), b1]
  have hrd : readE (S5.sync 2) 2 [48] = 22 := by
    obtain ⟨c1, c2⟩ := file_up u2.up (f := 3) ⟨by decide, by decide⟩
    unfold readE
    rw [if_neg (by decide)]
    have hn : nowF 2 [48] = 3 := rfl
    rw [hn, c1, c2, f2, if_pos ⟨rfl, parse_x _⟩]
  have hc : recC S5 2 = 22 := by
    unfold recC
    rw [o2, o1, if_neg (by decide), hset]
    simp only
    rw [if_neg (by decide), hrd, if_pos (by decide)]
  have hS : recS S5 2 = S5.sync 2 := by
    unfold recS
    rw [o2, o1, if_neg (by decide), hset]
    simp only
    rw [if_neg (by decide), hrd, if_pos (by decide)]
  refine ⟨⟨hc, by unfold recL; rw [if_neg (by rw [hc]; decide)]⟩, by rw [hS]; exact u2, ?_⟩
  rw [hS]
  obtain ⟨a3, u3, e3⟩ := up_write u2 (f := 2) ⟨by decide, by decide⟩ [120] (by decide)
  have f3 : (((S5.sync 2).write 2 0 (bs [120])).files 2).1 = bs [120] := by
    rw [e3, wadd_files _ _ _ _ h0, p2.1]
    exact put_short [48] [120] (by decide) (by decide)
  have h1 := read_code (n := 1) u3.up (f := 2) ⟨by decide, by decide⟩ (by decide)
  have hsd : sideE ((S5.sync 2).write 2 0 (bs [120])) 2 = [120] := by
    unfold sideE
    rw [readS_eq h1, f3, readX_all _ _ (by decide)]
    rfl
  unfold openE
  rw [if_neg (by decide), h1, if_neg (by decide), hsd, if_neg (by decide)]
/-- A list that is only read, as an object. -/
def rdOb (A : Option Addr) (xs : List (List UInt8)) : Ob where
  own _ := False
  see i := xs ≠ [] ∧ slBlk A = some i
  ok w := RdL 1 strE w w.heap.size A xs
  lt w h i hi := hi.elim (fun h => h.elim) (fun hi => rd_blk h hi.1 hi.2)
  frame w w' h hb hs := by
    by_cases hne : xs = []
    · subst hne
      exact fun k x hx => by simp at hx
    · exact h.turn (fun i hi _ => hb i (.inr ⟨hne, hi⟩)) hs
theorem rd_empties (w : World) (n : Nat) (b : Nat) (hb : b = w.heap.size) : RdL 1 strE (w.alloc (.cells (Array.replicate n (.string ByteArray.empty)) 9)) (w.alloc (.cells (Array.replicate n (.string ByteArray.empty)) 9)).heap.size (some ⟨b, 0, none⟩) (List.replicate n []) :=
  rdBlockE strLayJ w _ _ _ (by
    rw [Array.toList_replicate]
    induction n with
    | zero => rfl
    | succ n ih => rw [List.replicate_succ, List.replicate_succ, List.flatMap_cons, ← ih]; rfl) _ hb
-- rfMake N | M : the two lists of regions 10, 11
-- rfFar : the file is none: Recover and Rewrite refuse
-- rfFits | rfNot : the copy's two Rewrites
-- rfRest WHICH : from region 19 on
set_option maxHeartbeats 16000000 in
theorem refuses_any (l : List (List UInt8)) (A0 : Option Addr) (c0 : Nat) (f x : Int) (w : World) (hV : Vs w.heap.size w) (hr0 : RdL 1 strE w w.heap.size A0 l) (h0 : l.length ≤ 9223372036854775807) (hf : inI64 f) (hx : 0 ≤ x ∧ x ≤ 255) :
    Calls Tryz.prog 7 #[.slice A0 l.length c0, .int .i64 f, .int .u8 x] w fun e w' => e = .returned (.bool true) ∧ Below w.heap.size w w' := by
  have HV := Lib.hid hV
  have R0 := Lib.hid hr0
  have HF := Lib.hid hf
  clear hV hr0 hf
  go_enter Tryz.func7, Tryz.ntmps7
  go_wp2_with fail
  refine (small43_any w HV.out).mono ?_
  rintro e w1 ⟨rfl, hb1⟩
  have HB1 := Lib.hid hb1
  go_wp2_with fail
  refine (rFewR_any l A0 c0 w1 (R0.out.now hb1) h0).mono ?_
  rintro e wz ⟨b0, rfl, hf0, hw⟩
  obtain rfl := hw
  cases b0 with
  | false =>
    go_wp2_with fail
    go_ret
    exact ⟨rfl, HB1.out⟩
  | true =>
  have F0 := Lib.hid (hf0 rfl)
  clear hf0
  go_wp2_with fail
  refine (dNew_any w1).mono ?_
  rintro e w2 ⟨rfl, hb2, D0, hd0, ho0, -⟩
  have hz1 := HB1.out.size
  have H0 : Hid (St w ((dOb (w1.heap.size + 2) DS.new D0).sep Ob.nil) w2) := Lib.hid (St.nil ⟨hd0, HB1.out.trans (hb2.mono hz1), fun i hi => Nat.le_trans hz1 (ho0 i hi)⟩)
  generalize w1.heap.size + 2 = p at *
  clear hb2 hd0 ho0 HB1 hz1 hb1
  go_wp2_with fail
  refine (rw_good HV.out H0.out (Gd.new 2) (by decide) (few_fits F0.out) (R0.out.now H0.out.bl)).mono ?_
  rintro e w4 ⟨S1, D1, rfl, hst, hg1, -, -⟩
  have H2 := Lib.hid hst
  have G1 : Hid (Gd S1 2 [48] l) := Lib.hid hg1
  clear hst hg1 H0
  obtain ⟨iu, hi, hz0, hz1, hz2⟩ := info_parts (show (Tryz.prog.info? 5).map (fun i => (i.zero, i.size, i.bytes)) = some (some (.int .u8 0), 1, 1) by kernel_rfl)
  obtain ⟨is, hi2, hy0, hy1, hy2⟩ := info_parts (show (Tryz.prog.info? 9).map (fun i => (i.zero, i.size, i.bytes)) = some (some (.string ByteArray.empty), 1, 16) by kernel_rfl)
  have HI := Lib.hid hi
  have HIs := Lib.hid hi2
  clear hi hi2
  go_upto_region 10 with fail
  have hov : x % 3 = 0 ∨ x % 3 = 1 ∨ x % 3 = 2 := by omega
  rcases hov with hov | hov | hov
  · rw [hov]
    obtain ⟨zs, hzs⟩ : ∃ zs, zs = List.replicate 20000 (0 : UInt8) := ⟨_, rfl⟩
    have HZs := Lib.hid hzs
    have HZl : Hid (20000 = zs.length) := Lib.hid (by rw [hzs, List.length_replicate])
    clear hzs hov
    go_upto_region 12 with (first
        | ((with_reducible show wpList _ _ _ (Oper.mk _ (Op.makeSlice 63 _ _) _ _ _ _ :: _) _ _); refine wp_make_b rfl _ _ rfl Tryz.underlying63 HI.out hz0 hz1 hz2 (n := 20000) rfl rfl (by decide) (by decide) ?_; intro wM hoM hbM; have HOM := Lib.hid (show OwnB wM w4.heap.size 5 w4.heap.size 20000 zs by rw [HZs.out]; exact hoM); have H3 := Lib.hid (H2.out.on hbM); clear hoM hbM)
        | ((with_reducible show wpList _ _ _ (Oper.mk _ (Op.convert 63 9 _) _ _ _ _ :: _) _ _); refine wp_string_bs rfl _ _ _ rfl Tryz.underlying63 Tryz.underlying5 Tryz.underlying9 rfl HZl.out HOM.out ?_)
        | ((with_reducible show wpList _ _ _ (Oper.mk _ (Op.makeSlice 37 _ _) _ _ _ _ :: _) _ _); refine wp_make_1 rfl _ _ rfl Tryz.underlying37 HIs.out hy0 hy1 (by rw [hy2]; decide) rfl (n := 1000) rfl rfl (by decide) ?_)
        | fail)
    have hRL : RdL 1 strE (wM.alloc (.cells #[.string (bs zs)] 9)) (wM.alloc (.cells #[.string (bs zs)] 9)).heap.size (some ⟨wM.heap.size, 0, none⟩) [zs] := rdBlockE strLayJ wM [zs] _ _ rfl _ rfl
    have hba : ∀ o1 o2 : Obj, Below wM.heap.size wM ((wM.alloc o1).alloc o2) := fun o1 o2 => ((Below.refl _ _).alloc (Nat.le_refl _) _).alloc (by simp) _
    have hRM := rd_empties (wM.alloc (.cells #[.string (bs zs)] 9)) 1000 (wM.heap.size + 1) (by simp)
    have hm1 := H3.out.more (hba (.cells #[.string (bs zs)] 9) (.cells (Array.replicate 1000 (.string ByteArray.empty)) 9)) (c := (rdOb (some ⟨wM.heap.size, 0, none⟩) [zs]).sep (rdOb (some ⟨wM.heap.size + 1, 0, none⟩) (List.replicate 1000 []))) ⟨⟨hRL.now ((Below.refl _ _).alloc (Nat.le_refl _) _), hRM⟩, fun _ h => h.elim, fun _ _ h => h.elim, fun _ _ h => h.elim⟩ (fun _ h => h.elim (fun h => h.elim) (fun h => h.elim)) (fun i hi => by
      rcases hi with hi | hi <;> (have h := Option.some.inj hi.2; simp only at h; omega))
    obtain ⟨ms, hms⟩ : ∃ ms, ms = List.replicate 1000 ([] : List UInt8) := ⟨_, rfl⟩
    rw [← hms] at hm1
    have HMl : Hid (ms.length = 1000) := Lib.hid (by rw [hms, List.length_replicate])
    have HFz := Lib.hid (fits_one 20000 (by decide))
    have HFm := Lib.hid (fits_many 1000 (by decide))
    rw [← HZs.out] at HFz
    rw [← hms] at HFm
    have H4 := Lib.hid hm1.assoc
    clear hRL hRM hba H3 HOM hms hm1 HZs HZl
    generalize (wM.alloc (.cells #[.string (bs zs)] 9)).alloc (.cells (Array.replicate 1000 (.string ByteArray.empty)) 9) = w5 at *
    obtain ⟨R, hR⟩ : ∃ x, x = Ob.nil.sep ((rdOb (some ⟨wM.heap.size, 0, none⟩) [zs]).sep (rdOb (some ⟨wM.heap.size + 1, 0, none⟩) ms)) := ⟨_, rfl⟩
    have HRz : Hid (∀ wy, R.ok wy → RdL 1 strE wy wy.heap.size (some ⟨wM.heap.size, 0, none⟩) [zs] ∧ RdL 1 strE wy wy.heap.size (some ⟨wM.heap.size + 1, 0, none⟩) ms) := Lib.hid (by rw [hR]; exact fun wy h => ⟨h.1.2.1.1, h.1.2.1.2⟩)
    rw [← hR] at H4
    clear hR
    go_upto_region 15 with fail
    have hkp : S1.keep.length ≤ 20 := G1.out.kp
    by_cases g1 : f < 0 ∨ 13 < f
    · by_cases g2 : f < 0
      · have d1 : decide (f < 0) = true := by simpa using g2
        go_wp2_with fail
        refine (recover_any2 HV.out H4.out (f := f) HF.out (by omega)).mono ?_
        rintro e w6 ⟨D2, A6, c6, rfl, hst⟩
        rw [(rec_far g1).2.1, (rec_far g1).2.2] at hst
        rw [(rec_far (S := S1) g1).1, (rec_far (S := S1) g1).2.2]
        have H5 := Lib.hid hst
        clear hst H4
        go_wp2_with fail
        refine (rewrite_any2 HV.out H5.out (R0.out.now H5.out.bl) h0 HF.out (by omega)).mono ?_
        rintro e w7 ⟨D3, rfl, hst⟩
        rw [rew_far g1] at hst
        rw [rew_far (S := S1) (l := l) g1]
        have H6b := Lib.hid hst
        clear hst H5
        obtain ⟨R2, hR2⟩ : ∃ x, x = (slOb A6 c6 []).sep R := ⟨_, rfl⟩
        have HRy : Hid (∀ wy, R2.ok wy → RdL 1 strE wy wy.heap.size (some ⟨wM.heap.size, 0, none⟩) [zs] ∧ RdL 1 strE wy wy.heap.size (some ⟨wM.heap.size + 1, 0, none⟩) ms) := Lib.hid (by rw [hR2]; exact fun wy h => HRz.out wy h.1.2)
        have H6 : Hid (St w ((dOb p S1 D3).sep R2) w7) := Lib.hid (by rw [hR2]; exact H6b.out)
        clear hR2 H6b HRz
        clear g1 g2 d1
        go_wp2_with fail
        refine (copy_any2 H6.out).mono ?_
        rintro e w8 ⟨p2, D4, rfl, hst⟩
        have H7 := Lib.hid hst.rot
        clear hst H6
        go_wp2_with fail
        refine (rw_good (l2 := [zs]) HV.out H7.out G1.out (by decide) (by rw [HFz.out]; decide) (HRy.out _ H7.out.ok.1.2.1.1).1).mono ?_
        rintro e w9 ⟨S2, D5, rfl, hst, hg2, -, -⟩
        have H8 := Lib.hid hst
        have G2 := Lib.hid hg2
        clear hst hg2 H7
        have C9 := Lib.hid (rw_good (l2 := ms) (c := ms.length) HV.out H8.out G2.out (by decide) (by rw [HFm.out]; decide) (HRy.out _ H8.out.ok.1.2.1.1).2)
        rw [HMl.out] at C9
        go_wp2_with fail
        refine C9.out.mono ?_
        rintro e w10 ⟨S3, D6, rfl, hst, -, -, -⟩
        have H9 := Lib.hid hst.rot.rot
        clear hst H8 G2 C9
        go_wp2_with fail
        refine (eRecover_nil 2 w10).mono ?_
        rintro e w11 ⟨rfl, hb11⟩
        have H10 := Lib.hid (H9.out.on hb11)
        clear hb11 H9
        go_wp2_with fail
        refine (eRewrite_nil 2 l A0 c0 w11).mono ?_
        rintro e w12 ⟨rfl, hb12⟩
        have H11 := Lib.hid (H10.out.on hb12)
        clear hb12 H10
        go_wp2_with fail
        refine (kp_good HV.out H11.out G1.out (by decide) (R0.out.now H11.out.bl)).mono ?_
        rintro e w13 ⟨rfl, hb13⟩
        have H12 := Lib.hid (H11.out.on hb13)
        clear hb13 H11
        go_wp2_with fail
        refine (dCrash_any p S1 D3 w13 [] none 0 RdL.nil_ (by decide) (fun h => absurd rfl h) H12.out.disk).mono ?_
        rintro e w14 ⟨rfl, hu⟩
        obtain ⟨D7, hst⟩ := H12.out.dupd hu
        have H13 := Lib.hid hst
        have hO8 := open_down (S := S1.crash []) (f := 2) (by decide) (crash_down S1 [])
        have hk8 : (S1.crash []).keep.length ≤ 4194320 := by rw [crash_keep]; omega
        clear hu hst H12
        go_wp2_with fail
        refine (recover_any2 HV.out H13.out (f := 2) (by unfold inI64; omega) hk8).mono ?_
        rintro e w15 ⟨D8, A15, c15, rfl, hst⟩
        obtain ⟨r1, r2, r3⟩ := rec_open hO8 (by decide)
        rw [r2, r3] at hst
        rw [r1, r3]
        have H14 := Lib.hid hst
        have HR8 := Lib.hid (rew_open (f := 2) (l := l) (by decide) (few_fits F0.out) hO8 (by decide))
        clear hst H13 r1 r2 r3 hO8
        go_wp2_with fail
        refine (rewrite_any2 HV.out H14.out (R0.out.now H14.out.bl) h0 (f := 2) (by unfold inI64; omega) hk8).mono ?_
        rintro e w16 ⟨D9, rfl, hst⟩
        rw [HR8.out] at hst
        rw [HR8.out]
        have H15 := Lib.hid hst
        clear hst H14 HR8 hk8
        go_wp2_with fail
        refine (dStart_any p _ D9 w16 H15.out.disk).mono ?_
        rintro e w17 ⟨rfl, hu⟩
        obtain ⟨D10, hst⟩ := H15.out.dupd hu
        have H16 := Lib.hid hst
        have hg4 : Up ((S1.crash []).start) ∧ Has ((S1.crash []).start) 2 [48] l := ⟨up_crash G1.out.up [], (G1.out.nt.crash []).has⟩
        have hk4 : ((S1.crash []).start).keep.length ≤ 4194320 := by show (DS.crash S1 []).keep.length ≤ _; rw [crash_keep]; omega
        clear hu hst H15
        generalize (S1.crash []).start = S4 at *
        obtain ⟨⟨x1, x2⟩, x3, x4⟩ := refuse_x hg4.1 hg4.2
        have X1 := Lib.hid x1
        have X2 := Lib.hid x2
        have X4 := Lib.hid x4
        have hk5 : (S4.write 3 0 (bs [120])).keep.length ≤ 4194320 := by rw [write_keep]; exact hk4
        have hk6 : (recS (S4.write 3 0 (bs [120])) 2).keep.length ≤ 4194320 := by rw [recS_keep]; exact hk5
        have hk7 : ((recS (S4.write 3 0 (bs [120])) 2).write 2 0 (bs [120])).keep.length ≤ 4194320 := by rw [write_keep]; exact hk6
        clear x1 x2 x3 x4 hg4
        go_wp2_with fail
        refine (dWrite_any p S4 D10 w17 3 0 (bs [120]) (by unfold inI64; omega) (by unfold inI64; omega) (by decide) hk4 H16.out.disk).mono ?_
        rintro e w18 ⟨rfl, hu⟩
        obtain ⟨D11, hst⟩ := H16.out.dupd hu
        have H17 := Lib.hid hst
        clear hu hst H16
        generalize S4.writeC 3 0 (bs [120]) = wc1 at *
        go_wp2_with fail
        refine (recover_any2 HV.out H17.out (f := 2) (by unfold inI64; omega) hk5).mono ?_
        rintro e w19 ⟨D12, A19, c19, rfl, hst⟩
        rw [X2.out] at hst
        rw [X1.out, X2.out]
        have H18 := Lib.hid hst
        clear hst H17 X1 X2
        generalize recS (S4.write 3 0 (bs [120])) 2 = S6 at *
        go_wp2_with fail
        refine (dWrite_any p S6 D12 w19 2 0 (bs [120]) (by unfold inI64; omega) (by unfold inI64; omega) (by decide) hk6 H18.out.disk).mono ?_
        rintro e w20 ⟨rfl, hu⟩
        obtain ⟨D13, hst⟩ := H18.out.dupd hu
        have H19 := Lib.hid hst
        clear hu hst H18
        generalize S6.writeC 2 0 (bs [120]) = wc2 at *
        generalize S6.write 2 0 (bs [120]) = S7 at *
        obtain ⟨r1, r2, r3⟩ := rec_open X4.out (by decide)
        have HR9 := Lib.hid (rew_open (f := 2) (l := l) (by decide) (few_fits F0.out) X4.out (by decide))
        go_wp2_with fail
        refine (recover_any2 HV.out H19.out (f := 2) (by unfold inI64; omega) hk7).mono ?_
        rintro e w21 ⟨D14, A21, c21, rfl, hst⟩
        rw [r2, r3] at hst
        rw [r1, r3]
        have H20 := Lib.hid hst
        clear hst H19 r1 r2 r3 X4
        go_wp2_with fail
        refine (rewrite_any2 HV.out H20.out (R0.out.now H20.out.bl) h0 (f := 2) (by unfold inI64; omega) hk7).mono ?_
        rintro e w22 ⟨D15, rfl, hst⟩
        rw [HR9.out] at hst
        rw [HR9.out]
        have H21 := Lib.hid hst
        clear hst H20 HR9
        go_wp2_with fail
        go_ret
        exact ⟨rfl, H21.out.bl⟩
      · have d1 : decide (f < 0) = false := by simpa using g2
        have d2 : decide (13 < f) = true := by simp; omega
        go_wp2_with fail
        refine (recover_any2 HV.out H4.out (f := f) HF.out (by omega)).mono ?_
        rintro e w6 ⟨D2, A6, c6, rfl, hst⟩
        rw [(rec_far g1).2.1, (rec_far g1).2.2] at hst
        rw [(rec_far (S := S1) g1).1, (rec_far (S := S1) g1).2.2]
        have H5 := Lib.hid hst
        clear hst H4
        go_wp2_with fail
        refine (rewrite_any2 HV.out H5.out (R0.out.now H5.out.bl) h0 HF.out (by omega)).mono ?_
        rintro e w7 ⟨D3, rfl, hst⟩
        rw [rew_far g1] at hst
        rw [rew_far (S := S1) (l := l) g1]
        have H6b := Lib.hid hst
        clear hst H5
        obtain ⟨R2, hR2⟩ : ∃ x, x = (slOb A6 c6 []).sep R := ⟨_, rfl⟩
        have HRy : Hid (∀ wy, R2.ok wy → RdL 1 strE wy wy.heap.size (some ⟨wM.heap.size, 0, none⟩) [zs] ∧ RdL 1 strE wy wy.heap.size (some ⟨wM.heap.size + 1, 0, none⟩) ms) := Lib.hid (by rw [hR2]; exact fun wy h => HRz.out wy h.1.2)
        have H6 : Hid (St w ((dOb p S1 D3).sep R2) w7) := Lib.hid (by rw [hR2]; exact H6b.out)
        clear hR2 H6b HRz
        clear g1 g2 d1 d2
        go_wp2_with fail
        refine (copy_any2 H6.out).mono ?_
        rintro e w8 ⟨p2, D4, rfl, hst⟩
        have H7 := Lib.hid hst.rot
        clear hst H6
        go_wp2_with fail
        refine (rw_good (l2 := [zs]) HV.out H7.out G1.out (by decide) (by rw [HFz.out]; decide) (HRy.out _ H7.out.ok.1.2.1.1).1).mono ?_
        rintro e w9 ⟨S2, D5, rfl, hst, hg2, -, -⟩
        have H8 := Lib.hid hst
        have G2 := Lib.hid hg2
        clear hst hg2 H7
        have C9 := Lib.hid (rw_good (l2 := ms) (c := ms.length) HV.out H8.out G2.out (by decide) (by rw [HFm.out]; decide) (HRy.out _ H8.out.ok.1.2.1.1).2)
        rw [HMl.out] at C9
        go_wp2_with fail
        refine C9.out.mono ?_
        rintro e w10 ⟨S3, D6, rfl, hst, -, -, -⟩
        have H9 := Lib.hid hst.rot.rot
        clear hst H8 G2 C9
        go_wp2_with fail
        refine (eRecover_nil 2 w10).mono ?_
        rintro e w11 ⟨rfl, hb11⟩
        have H10 := Lib.hid (H9.out.on hb11)
        clear hb11 H9
        go_wp2_with fail
        refine (eRewrite_nil 2 l A0 c0 w11).mono ?_
        rintro e w12 ⟨rfl, hb12⟩
        have H11 := Lib.hid (H10.out.on hb12)
        clear hb12 H10
        go_wp2_with fail
        refine (kp_good HV.out H11.out G1.out (by decide) (R0.out.now H11.out.bl)).mono ?_
        rintro e w13 ⟨rfl, hb13⟩
        have H12 := Lib.hid (H11.out.on hb13)
        clear hb13 H11
        go_wp2_with fail
        refine (dCrash_any p S1 D3 w13 [] none 0 RdL.nil_ (by decide) (fun h => absurd rfl h) H12.out.disk).mono ?_
        rintro e w14 ⟨rfl, hu⟩
        obtain ⟨D7, hst⟩ := H12.out.dupd hu
        have H13 := Lib.hid hst
        have hO8 := open_down (S := S1.crash []) (f := 2) (by decide) (crash_down S1 [])
        have hk8 : (S1.crash []).keep.length ≤ 4194320 := by rw [crash_keep]; omega
        clear hu hst H12
        go_wp2_with fail
        refine (recover_any2 HV.out H13.out (f := 2) (by unfold inI64; omega) hk8).mono ?_
        rintro e w15 ⟨D8, A15, c15, rfl, hst⟩
        obtain ⟨r1, r2, r3⟩ := rec_open hO8 (by decide)
        rw [r2, r3] at hst
        rw [r1, r3]
        have H14 := Lib.hid hst
        have HR8 := Lib.hid (rew_open (f := 2) (l := l) (by decide) (few_fits F0.out) hO8 (by decide))
        clear hst H13 r1 r2 r3 hO8
        go_wp2_with fail
        refine (rewrite_any2 HV.out H14.out (R0.out.now H14.out.bl) h0 (f := 2) (by unfold inI64; omega) hk8).mono ?_
        rintro e w16 ⟨D9, rfl, hst⟩
        rw [HR8.out] at hst
        rw [HR8.out]
        have H15 := Lib.hid hst
        clear hst H14 HR8 hk8
        go_wp2_with fail
        refine (dStart_any p _ D9 w16 H15.out.disk).mono ?_
        rintro e w17 ⟨rfl, hu⟩
        obtain ⟨D10, hst⟩ := H15.out.dupd hu
        have H16 := Lib.hid hst
        have hg4 : Up ((S1.crash []).start) ∧ Has ((S1.crash []).start) 2 [48] l := ⟨up_crash G1.out.up [], (G1.out.nt.crash []).has⟩
        have hk4 : ((S1.crash []).start).keep.length ≤ 4194320 := by show (DS.crash S1 []).keep.length ≤ _; rw [crash_keep]; omega
        clear hu hst H15
        generalize (S1.crash []).start = S4 at *
        obtain ⟨⟨x1, x2⟩, x3, x4⟩ := refuse_x hg4.1 hg4.2
        have X1 := Lib.hid x1
        have X2 := Lib.hid x2
        have X4 := Lib.hid x4
        have hk5 : (S4.write 3 0 (bs [120])).keep.length ≤ 4194320 := by rw [write_keep]; exact hk4
        have hk6 : (recS (S4.write 3 0 (bs [120])) 2).keep.length ≤ 4194320 := by rw [recS_keep]; exact hk5
        have hk7 : ((recS (S4.write 3 0 (bs [120])) 2).write 2 0 (bs [120])).keep.length ≤ 4194320 := by rw [write_keep]; exact hk6
        clear x1 x2 x3 x4 hg4
        go_wp2_with fail
        refine (dWrite_any p S4 D10 w17 3 0 (bs [120]) (by unfold inI64; omega) (by unfold inI64; omega) (by decide) hk4 H16.out.disk).mono ?_
        rintro e w18 ⟨rfl, hu⟩
        obtain ⟨D11, hst⟩ := H16.out.dupd hu
        have H17 := Lib.hid hst
        clear hu hst H16
        generalize S4.writeC 3 0 (bs [120]) = wc1 at *
        go_wp2_with fail
        refine (recover_any2 HV.out H17.out (f := 2) (by unfold inI64; omega) hk5).mono ?_
        rintro e w19 ⟨D12, A19, c19, rfl, hst⟩
        rw [X2.out] at hst
        rw [X1.out, X2.out]
        have H18 := Lib.hid hst
        clear hst H17 X1 X2
        generalize recS (S4.write 3 0 (bs [120])) 2 = S6 at *
        go_wp2_with fail
        refine (dWrite_any p S6 D12 w19 2 0 (bs [120]) (by unfold inI64; omega) (by unfold inI64; omega) (by decide) hk6 H18.out.disk).mono ?_
        rintro e w20 ⟨rfl, hu⟩
        obtain ⟨D13, hst⟩ := H18.out.dupd hu
        have H19 := Lib.hid hst
        clear hu hst H18
        generalize S6.writeC 2 0 (bs [120]) = wc2 at *
        generalize S6.write 2 0 (bs [120]) = S7 at *
        obtain ⟨r1, r2, r3⟩ := rec_open X4.out (by decide)
        have HR9 := Lib.hid (rew_open (f := 2) (l := l) (by decide) (few_fits F0.out) X4.out (by decide))
        go_wp2_with fail
        refine (recover_any2 HV.out H19.out (f := 2) (by unfold inI64; omega) hk7).mono ?_
        rintro e w21 ⟨D14, A21, c21, rfl, hst⟩
        rw [r2, r3] at hst
        rw [r1, r3]
        have H20 := Lib.hid hst
        clear hst H19 r1 r2 r3 X4
        go_wp2_with fail
        refine (rewrite_any2 HV.out H20.out (R0.out.now H20.out.bl) h0 (f := 2) (by unfold inI64; omega) hk7).mono ?_
        rintro e w22 ⟨D15, rfl, hst⟩
        rw [HR9.out] at hst
        rw [HR9.out]
        have H21 := Lib.hid hst
        clear hst H20 HR9
        go_wp2_with fail
        go_ret
        exact ⟨rfl, H21.out.bl⟩
    · have d1 : decide (f < 0) = false := by simp; omega
      have d2 : decide (13 < f) = false := by simp; omega
      go_upto_region 19 with fail
      obtain ⟨R2, hR2⟩ : ∃ x, x = R := ⟨_, rfl⟩
      have HRy : Hid (∀ wy, R2.ok wy → RdL 1 strE wy wy.heap.size (some ⟨wM.heap.size, 0, none⟩) [zs] ∧ RdL 1 strE wy wy.heap.size (some ⟨wM.heap.size + 1, 0, none⟩) ms) := Lib.hid (by rw [hR2]; exact HRz.out)
      have H6 : Hid (St w ((dOb p S1 D1).sep R2) w5) := Lib.hid (by rw [hR2]; exact H4.out)
      obtain ⟨D3, hD3⟩ : ∃ x, x = D1 := ⟨_, rfl⟩
      rw [← hD3] at H6
      clear hR2 HRz H4 g1 d1 d2 hD3
      go_wp2_with fail
      refine (copy_any2 H6.out).mono ?_
      rintro e w8 ⟨p2, D4, rfl, hst⟩
      have H7 := Lib.hid hst.rot
      clear hst H6
      go_wp2_with fail
      refine (rw_good (l2 := [zs]) HV.out H7.out G1.out (by decide) (by rw [HFz.out]; decide) (HRy.out _ H7.out.ok.1.2.1.1).1).mono ?_
      rintro e w9 ⟨S2, D5, rfl, hst, hg2, -, -⟩
      have H8 := Lib.hid hst
      have G2 := Lib.hid hg2
      clear hst hg2 H7
      have C9 := Lib.hid (rw_good (l2 := ms) (c := ms.length) HV.out H8.out G2.out (by decide) (by rw [HFm.out]; decide) (HRy.out _ H8.out.ok.1.2.1.1).2)
      rw [HMl.out] at C9
      go_wp2_with fail
      refine C9.out.mono ?_
      rintro e w10 ⟨S3, D6, rfl, hst, -, -, -⟩
      have H9 := Lib.hid hst.rot.rot
      clear hst H8 G2 C9
      go_wp2_with fail
      refine (eRecover_nil 2 w10).mono ?_
      rintro e w11 ⟨rfl, hb11⟩
      have H10 := Lib.hid (H9.out.on hb11)
      clear hb11 H9
      go_wp2_with fail
      refine (eRewrite_nil 2 l A0 c0 w11).mono ?_
      rintro e w12 ⟨rfl, hb12⟩
      have H11 := Lib.hid (H10.out.on hb12)
      clear hb12 H10
      go_wp2_with fail
      refine (kp_good HV.out H11.out G1.out (by decide) (R0.out.now H11.out.bl)).mono ?_
      rintro e w13 ⟨rfl, hb13⟩
      have H12 := Lib.hid (H11.out.on hb13)
      clear hb13 H11
      go_wp2_with fail
      refine (dCrash_any p S1 D3 w13 [] none 0 RdL.nil_ (by decide) (fun h => absurd rfl h) H12.out.disk).mono ?_
      rintro e w14 ⟨rfl, hu⟩
      obtain ⟨D7, hst⟩ := H12.out.dupd hu
      have H13 := Lib.hid hst
      have hO8 := open_down (S := S1.crash []) (f := 2) (by decide) (crash_down S1 [])
      have hk8 : (S1.crash []).keep.length ≤ 4194320 := by rw [crash_keep]; omega
      clear hu hst H12
      go_wp2_with fail
      refine (recover_any2 HV.out H13.out (f := 2) (by unfold inI64; omega) hk8).mono ?_
      rintro e w15 ⟨D8, A15, c15, rfl, hst⟩
      obtain ⟨r1, r2, r3⟩ := rec_open hO8 (by decide)
      rw [r2, r3] at hst
      rw [r1, r3]
      have H14 := Lib.hid hst
      have HR8 := Lib.hid (rew_open (f := 2) (l := l) (by decide) (few_fits F0.out) hO8 (by decide))
      clear hst H13 r1 r2 r3 hO8
      go_wp2_with fail
      refine (rewrite_any2 HV.out H14.out (R0.out.now H14.out.bl) h0 (f := 2) (by unfold inI64; omega) hk8).mono ?_
      rintro e w16 ⟨D9, rfl, hst⟩
      rw [HR8.out] at hst
      rw [HR8.out]
      have H15 := Lib.hid hst
      clear hst H14 HR8 hk8
      go_wp2_with fail
      refine (dStart_any p _ D9 w16 H15.out.disk).mono ?_
      rintro e w17 ⟨rfl, hu⟩
      obtain ⟨D10, hst⟩ := H15.out.dupd hu
      have H16 := Lib.hid hst
      have hg4 : Up ((S1.crash []).start) ∧ Has ((S1.crash []).start) 2 [48] l := ⟨up_crash G1.out.up [], (G1.out.nt.crash []).has⟩
      have hk4 : ((S1.crash []).start).keep.length ≤ 4194320 := by show (DS.crash S1 []).keep.length ≤ _; rw [crash_keep]; omega
      clear hu hst H15
      generalize (S1.crash []).start = S4 at *
      obtain ⟨⟨x1, x2⟩, x3, x4⟩ := refuse_x hg4.1 hg4.2
      have X1 := Lib.hid x1
      have X2 := Lib.hid x2
      have X4 := Lib.hid x4
      have hk5 : (S4.write 3 0 (bs [120])).keep.length ≤ 4194320 := by rw [write_keep]; exact hk4
      have hk6 : (recS (S4.write 3 0 (bs [120])) 2).keep.length ≤ 4194320 := by rw [recS_keep]; exact hk5
      have hk7 : ((recS (S4.write 3 0 (bs [120])) 2).write 2 0 (bs [120])).keep.length ≤ 4194320 := by rw [write_keep]; exact hk6
      clear x1 x2 x3 x4 hg4
      go_wp2_with fail
      refine (dWrite_any p S4 D10 w17 3 0 (bs [120]) (by unfold inI64; omega) (by unfold inI64; omega) (by decide) hk4 H16.out.disk).mono ?_
      rintro e w18 ⟨rfl, hu⟩
      obtain ⟨D11, hst⟩ := H16.out.dupd hu
      have H17 := Lib.hid hst
      clear hu hst H16
      generalize S4.writeC 3 0 (bs [120]) = wc1 at *
      go_wp2_with fail
      refine (recover_any2 HV.out H17.out (f := 2) (by unfold inI64; omega) hk5).mono ?_
      rintro e w19 ⟨D12, A19, c19, rfl, hst⟩
      rw [X2.out] at hst
      rw [X1.out, X2.out]
      have H18 := Lib.hid hst
      clear hst H17 X1 X2
      generalize recS (S4.write 3 0 (bs [120])) 2 = S6 at *
      go_wp2_with fail
      refine (dWrite_any p S6 D12 w19 2 0 (bs [120]) (by unfold inI64; omega) (by unfold inI64; omega) (by decide) hk6 H18.out.disk).mono ?_
      rintro e w20 ⟨rfl, hu⟩
      obtain ⟨D13, hst⟩ := H18.out.dupd hu
      have H19 := Lib.hid hst
      clear hu hst H18
      generalize S6.writeC 2 0 (bs [120]) = wc2 at *
      generalize S6.write 2 0 (bs [120]) = S7 at *
      obtain ⟨r1, r2, r3⟩ := rec_open X4.out (by decide)
      have HR9 := Lib.hid (rew_open (f := 2) (l := l) (by decide) (few_fits F0.out) X4.out (by decide))
      go_wp2_with fail
      refine (recover_any2 HV.out H19.out (f := 2) (by unfold inI64; omega) hk7).mono ?_
      rintro e w21 ⟨D14, A21, c21, rfl, hst⟩
      rw [r2, r3] at hst
      rw [r1, r3]
      have H20 := Lib.hid hst
      clear hst H19 r1 r2 r3 X4
      go_wp2_with fail
      refine (rewrite_any2 HV.out H20.out (R0.out.now H20.out.bl) h0 (f := 2) (by unfold inI64; omega) hk7).mono ?_
      rintro e w22 ⟨D15, rfl, hst⟩
      rw [HR9.out] at hst
      rw [HR9.out]
      have H21 := Lib.hid hst
      clear hst H20 HR9
      go_wp2_with fail
      go_ret
      exact ⟨rfl, H21.out.bl⟩
  · rw [hov]
    obtain ⟨zs, hzs⟩ : ∃ zs, zs = List.replicate 20001 (0 : UInt8) := ⟨_, rfl⟩
    have HZs := Lib.hid hzs
    have HZl : Hid (20001 = zs.length) := Lib.hid (by rw [hzs, List.length_replicate])
    clear hzs hov
    go_upto_region 12 with (first
        | ((with_reducible show wpList _ _ _ (Oper.mk _ (Op.makeSlice 63 _ _) _ _ _ _ :: _) _ _); refine wp_make_b rfl _ _ rfl Tryz.underlying63 HI.out hz0 hz1 hz2 (n := 20001) rfl rfl (by decide) (by decide) ?_; intro wM hoM hbM; have HOM := Lib.hid (show OwnB wM w4.heap.size 5 w4.heap.size 20001 zs by rw [HZs.out]; exact hoM); have H3 := Lib.hid (H2.out.on hbM); clear hoM hbM)
        | ((with_reducible show wpList _ _ _ (Oper.mk _ (Op.convert 63 9 _) _ _ _ _ :: _) _ _); refine wp_string_bs rfl _ _ _ rfl Tryz.underlying63 Tryz.underlying5 Tryz.underlying9 rfl HZl.out HOM.out ?_)
        | ((with_reducible show wpList _ _ _ (Oper.mk _ (Op.makeSlice 37 _ _) _ _ _ _ :: _) _ _); refine wp_make_1 rfl _ _ rfl Tryz.underlying37 HIs.out hy0 hy1 (by rw [hy2]; decide) rfl (n := 1001) rfl rfl (by decide) ?_)
        | fail)
    have hRL : RdL 1 strE (wM.alloc (.cells #[.string (bs zs)] 9)) (wM.alloc (.cells #[.string (bs zs)] 9)).heap.size (some ⟨wM.heap.size, 0, none⟩) [zs] := rdBlockE strLayJ wM [zs] _ _ rfl _ rfl
    have hba : ∀ o1 o2 : Obj, Below wM.heap.size wM ((wM.alloc o1).alloc o2) := fun o1 o2 => ((Below.refl _ _).alloc (Nat.le_refl _) _).alloc (by simp) _
    have hRM := rd_empties (wM.alloc (.cells #[.string (bs zs)] 9)) 1001 (wM.heap.size + 1) (by simp)
    have hm1 := H3.out.more (hba (.cells #[.string (bs zs)] 9) (.cells (Array.replicate 1001 (.string ByteArray.empty)) 9)) (c := (rdOb (some ⟨wM.heap.size, 0, none⟩) [zs]).sep (rdOb (some ⟨wM.heap.size + 1, 0, none⟩) (List.replicate 1001 []))) ⟨⟨hRL.now ((Below.refl _ _).alloc (Nat.le_refl _) _), hRM⟩, fun _ h => h.elim, fun _ _ h => h.elim, fun _ _ h => h.elim⟩ (fun _ h => h.elim (fun h => h.elim) (fun h => h.elim)) (fun i hi => by
      rcases hi with hi | hi <;> (have h := Option.some.inj hi.2; simp only at h; omega))
    obtain ⟨ms, hms⟩ : ∃ ms, ms = List.replicate 1001 ([] : List UInt8) := ⟨_, rfl⟩
    rw [← hms] at hm1
    have HMl : Hid (ms.length = 1001) := Lib.hid (by rw [hms, List.length_replicate])
    have HFz := Lib.hid (fits_one 20001 (by decide))
    have HFm := Lib.hid (fits_many 1001 (by decide))
    rw [← HZs.out] at HFz
    rw [← hms] at HFm
    have H4 := Lib.hid hm1.assoc
    clear hRL hRM hba H3 HOM hms hm1 HZs HZl
    generalize (wM.alloc (.cells #[.string (bs zs)] 9)).alloc (.cells (Array.replicate 1001 (.string ByteArray.empty)) 9) = w5 at *
    obtain ⟨R, hR⟩ : ∃ x, x = Ob.nil.sep ((rdOb (some ⟨wM.heap.size, 0, none⟩) [zs]).sep (rdOb (some ⟨wM.heap.size + 1, 0, none⟩) ms)) := ⟨_, rfl⟩
    have HRz : Hid (∀ wy, R.ok wy → RdL 1 strE wy wy.heap.size (some ⟨wM.heap.size, 0, none⟩) [zs] ∧ RdL 1 strE wy wy.heap.size (some ⟨wM.heap.size + 1, 0, none⟩) ms) := Lib.hid (by rw [hR]; exact fun wy h => ⟨h.1.2.1.1, h.1.2.1.2⟩)
    rw [← hR] at H4
    clear hR
    go_upto_region 15 with fail
    have hkp : S1.keep.length ≤ 20 := G1.out.kp
    by_cases g1 : f < 0 ∨ 13 < f
    · by_cases g2 : f < 0
      · have d1 : decide (f < 0) = true := by simpa using g2
        go_wp2_with fail
        refine (recover_any2 HV.out H4.out (f := f) HF.out (by omega)).mono ?_
        rintro e w6 ⟨D2, A6, c6, rfl, hst⟩
        rw [(rec_far g1).2.1, (rec_far g1).2.2] at hst
        rw [(rec_far (S := S1) g1).1, (rec_far (S := S1) g1).2.2]
        have H5 := Lib.hid hst
        clear hst H4
        go_wp2_with fail
        refine (rewrite_any2 HV.out H5.out (R0.out.now H5.out.bl) h0 HF.out (by omega)).mono ?_
        rintro e w7 ⟨D3, rfl, hst⟩
        rw [rew_far g1] at hst
        rw [rew_far (S := S1) (l := l) g1]
        have H6b := Lib.hid hst
        clear hst H5
        obtain ⟨R2, hR2⟩ : ∃ x, x = (slOb A6 c6 []).sep R := ⟨_, rfl⟩
        have HRy : Hid (∀ wy, R2.ok wy → RdL 1 strE wy wy.heap.size (some ⟨wM.heap.size, 0, none⟩) [zs] ∧ RdL 1 strE wy wy.heap.size (some ⟨wM.heap.size + 1, 0, none⟩) ms) := Lib.hid (by rw [hR2]; exact fun wy h => HRz.out wy h.1.2)
        have H6 : Hid (St w ((dOb p S1 D3).sep R2) w7) := Lib.hid (by rw [hR2]; exact H6b.out)
        clear hR2 H6b HRz
        clear g1 g2 d1
        go_wp2_with fail
        refine (copy_any2 H6.out).mono ?_
        rintro e w8 ⟨p2, D4, rfl, hst⟩
        have H7 := Lib.hid hst.rot
        clear hst H6
        go_wp2_with fail
        refine (rewrite_any2 HV.out H7.out (HRy.out _ H7.out.ok.1.2.1.1).1 (by simp) (f := 2) (by unfold inI64; omega) (by omega)).mono ?_
        rintro e w9 ⟨D5, rfl, hst⟩
        rw [rew_unfit (by decide) (by rw [HFz.out]; decide)] at hst
        rw [rew_unfit (S := S1) (l := [zs]) (f := 2) (by decide) (by rw [HFz.out]; decide)]
        have H8 := Lib.hid hst
        clear hst H7
        have C9 := Lib.hid (rewrite_any2 (l := ms) (c := ms.length) HV.out H8.out (HRy.out _ H8.out.ok.1.2.1.1).2 (by rw [HMl.out]; decide) (f := 2) (by unfold inI64; omega) (by show S1.keep.length ≤ _; omega))
        rw [HMl.out, rew_unfit (S := S1) (l := ms) (f := 2) (by decide) (by rw [HFm.out]; decide)] at C9
        go_wp2_with fail
        refine C9.out.mono ?_
        rintro e w10 ⟨D6, rfl, hst⟩
        have H9 := Lib.hid hst.rot.rot
        clear hst H8 C9
        go_wp2_with fail
        refine (eRecover_nil 2 w10).mono ?_
        rintro e w11 ⟨rfl, hb11⟩
        have H10 := Lib.hid (H9.out.on hb11)
        clear hb11 H9
        go_wp2_with fail
        refine (eRewrite_nil 2 l A0 c0 w11).mono ?_
        rintro e w12 ⟨rfl, hb12⟩
        have H11 := Lib.hid (H10.out.on hb12)
        clear hb12 H10
        go_wp2_with fail
        refine (kp_good HV.out H11.out G1.out (by decide) (R0.out.now H11.out.bl)).mono ?_
        rintro e w13 ⟨rfl, hb13⟩
        have H12 := Lib.hid (H11.out.on hb13)
        clear hb13 H11
        go_wp2_with fail
        refine (dCrash_any p S1 D3 w13 [] none 0 RdL.nil_ (by decide) (fun h => absurd rfl h) H12.out.disk).mono ?_
        rintro e w14 ⟨rfl, hu⟩
        obtain ⟨D7, hst⟩ := H12.out.dupd hu
        have H13 := Lib.hid hst
        have hO8 := open_down (S := S1.crash []) (f := 2) (by decide) (crash_down S1 [])
        have hk8 : (S1.crash []).keep.length ≤ 4194320 := by rw [crash_keep]; omega
        clear hu hst H12
        go_wp2_with fail
        refine (recover_any2 HV.out H13.out (f := 2) (by unfold inI64; omega) hk8).mono ?_
        rintro e w15 ⟨D8, A15, c15, rfl, hst⟩
        obtain ⟨r1, r2, r3⟩ := rec_open hO8 (by decide)
        rw [r2, r3] at hst
        rw [r1, r3]
        have H14 := Lib.hid hst
        have HR8 := Lib.hid (rew_open (f := 2) (l := l) (by decide) (few_fits F0.out) hO8 (by decide))
        clear hst H13 r1 r2 r3 hO8
        go_wp2_with fail
        refine (rewrite_any2 HV.out H14.out (R0.out.now H14.out.bl) h0 (f := 2) (by unfold inI64; omega) hk8).mono ?_
        rintro e w16 ⟨D9, rfl, hst⟩
        rw [HR8.out] at hst
        rw [HR8.out]
        have H15 := Lib.hid hst
        clear hst H14 HR8 hk8
        go_wp2_with fail
        refine (dStart_any p _ D9 w16 H15.out.disk).mono ?_
        rintro e w17 ⟨rfl, hu⟩
        obtain ⟨D10, hst⟩ := H15.out.dupd hu
        have H16 := Lib.hid hst
        have hg4 : Up ((S1.crash []).start) ∧ Has ((S1.crash []).start) 2 [48] l := ⟨up_crash G1.out.up [], (G1.out.nt.crash []).has⟩
        have hk4 : ((S1.crash []).start).keep.length ≤ 4194320 := by show (DS.crash S1 []).keep.length ≤ _; rw [crash_keep]; omega
        clear hu hst H15
        generalize (S1.crash []).start = S4 at *
        obtain ⟨⟨x1, x2⟩, x3, x4⟩ := refuse_x hg4.1 hg4.2
        have X1 := Lib.hid x1
        have X2 := Lib.hid x2
        have X4 := Lib.hid x4
        have hk5 : (S4.write 3 0 (bs [120])).keep.length ≤ 4194320 := by rw [write_keep]; exact hk4
        have hk6 : (recS (S4.write 3 0 (bs [120])) 2).keep.length ≤ 4194320 := by rw [recS_keep]; exact hk5
        have hk7 : ((recS (S4.write 3 0 (bs [120])) 2).write 2 0 (bs [120])).keep.length ≤ 4194320 := by rw [write_keep]; exact hk6
        clear x1 x2 x3 x4 hg4
        go_wp2_with fail
        refine (dWrite_any p S4 D10 w17 3 0 (bs [120]) (by unfold inI64; omega) (by unfold inI64; omega) (by decide) hk4 H16.out.disk).mono ?_
        rintro e w18 ⟨rfl, hu⟩
        obtain ⟨D11, hst⟩ := H16.out.dupd hu
        have H17 := Lib.hid hst
        clear hu hst H16
        generalize S4.writeC 3 0 (bs [120]) = wc1 at *
        go_wp2_with fail
        refine (recover_any2 HV.out H17.out (f := 2) (by unfold inI64; omega) hk5).mono ?_
        rintro e w19 ⟨D12, A19, c19, rfl, hst⟩
        rw [X2.out] at hst
        rw [X1.out, X2.out]
        have H18 := Lib.hid hst
        clear hst H17 X1 X2
        generalize recS (S4.write 3 0 (bs [120])) 2 = S6 at *
        go_wp2_with fail
        refine (dWrite_any p S6 D12 w19 2 0 (bs [120]) (by unfold inI64; omega) (by unfold inI64; omega) (by decide) hk6 H18.out.disk).mono ?_
        rintro e w20 ⟨rfl, hu⟩
        obtain ⟨D13, hst⟩ := H18.out.dupd hu
        have H19 := Lib.hid hst
        clear hu hst H18
        generalize S6.writeC 2 0 (bs [120]) = wc2 at *
        generalize S6.write 2 0 (bs [120]) = S7 at *
        obtain ⟨r1, r2, r3⟩ := rec_open X4.out (by decide)
        have HR9 := Lib.hid (rew_open (f := 2) (l := l) (by decide) (few_fits F0.out) X4.out (by decide))
        go_wp2_with fail
        refine (recover_any2 HV.out H19.out (f := 2) (by unfold inI64; omega) hk7).mono ?_
        rintro e w21 ⟨D14, A21, c21, rfl, hst⟩
        rw [r2, r3] at hst
        rw [r1, r3]
        have H20 := Lib.hid hst
        clear hst H19 r1 r2 r3 X4
        go_wp2_with fail
        refine (rewrite_any2 HV.out H20.out (R0.out.now H20.out.bl) h0 (f := 2) (by unfold inI64; omega) hk7).mono ?_
        rintro e w22 ⟨D15, rfl, hst⟩
        rw [HR9.out] at hst
        rw [HR9.out]
        have H21 := Lib.hid hst
        clear hst H20 HR9
        go_wp2_with fail
        go_ret
        exact ⟨rfl, H21.out.bl⟩
      · have d1 : decide (f < 0) = false := by simpa using g2
        have d2 : decide (13 < f) = true := by simp; omega
        go_wp2_with fail
        refine (recover_any2 HV.out H4.out (f := f) HF.out (by omega)).mono ?_
        rintro e w6 ⟨D2, A6, c6, rfl, hst⟩
        rw [(rec_far g1).2.1, (rec_far g1).2.2] at hst
        rw [(rec_far (S := S1) g1).1, (rec_far (S := S1) g1).2.2]
        have H5 := Lib.hid hst
        clear hst H4
        go_wp2_with fail
        refine (rewrite_any2 HV.out H5.out (R0.out.now H5.out.bl) h0 HF.out (by omega)).mono ?_
        rintro e w7 ⟨D3, rfl, hst⟩
        rw [rew_far g1] at hst
        rw [rew_far (S := S1) (l := l) g1]
        have H6b := Lib.hid hst
        clear hst H5
        obtain ⟨R2, hR2⟩ : ∃ x, x = (slOb A6 c6 []).sep R := ⟨_, rfl⟩
        have HRy : Hid (∀ wy, R2.ok wy → RdL 1 strE wy wy.heap.size (some ⟨wM.heap.size, 0, none⟩) [zs] ∧ RdL 1 strE wy wy.heap.size (some ⟨wM.heap.size + 1, 0, none⟩) ms) := Lib.hid (by rw [hR2]; exact fun wy h => HRz.out wy h.1.2)
        have H6 : Hid (St w ((dOb p S1 D3).sep R2) w7) := Lib.hid (by rw [hR2]; exact H6b.out)
        clear hR2 H6b HRz
        clear g1 g2 d1 d2
        go_wp2_with fail
        refine (copy_any2 H6.out).mono ?_
        rintro e w8 ⟨p2, D4, rfl, hst⟩
        have H7 := Lib.hid hst.rot
        clear hst H6
        go_wp2_with fail
        refine (rewrite_any2 HV.out H7.out (HRy.out _ H7.out.ok.1.2.1.1).1 (by simp) (f := 2) (by unfold inI64; omega) (by omega)).mono ?_
        rintro e w9 ⟨D5, rfl, hst⟩
        rw [rew_unfit (by decide) (by rw [HFz.out]; decide)] at hst
        rw [rew_unfit (S := S1) (l := [zs]) (f := 2) (by decide) (by rw [HFz.out]; decide)]
        have H8 := Lib.hid hst
        clear hst H7
        have C9 := Lib.hid (rewrite_any2 (l := ms) (c := ms.length) HV.out H8.out (HRy.out _ H8.out.ok.1.2.1.1).2 (by rw [HMl.out]; decide) (f := 2) (by unfold inI64; omega) (by show S1.keep.length ≤ _; omega))
        rw [HMl.out, rew_unfit (S := S1) (l := ms) (f := 2) (by decide) (by rw [HFm.out]; decide)] at C9
        go_wp2_with fail
        refine C9.out.mono ?_
        rintro e w10 ⟨D6, rfl, hst⟩
        have H9 := Lib.hid hst.rot.rot
        clear hst H8 C9
        go_wp2_with fail
        refine (eRecover_nil 2 w10).mono ?_
        rintro e w11 ⟨rfl, hb11⟩
        have H10 := Lib.hid (H9.out.on hb11)
        clear hb11 H9
        go_wp2_with fail
        refine (eRewrite_nil 2 l A0 c0 w11).mono ?_
        rintro e w12 ⟨rfl, hb12⟩
        have H11 := Lib.hid (H10.out.on hb12)
        clear hb12 H10
        go_wp2_with fail
        refine (kp_good HV.out H11.out G1.out (by decide) (R0.out.now H11.out.bl)).mono ?_
        rintro e w13 ⟨rfl, hb13⟩
        have H12 := Lib.hid (H11.out.on hb13)
        clear hb13 H11
        go_wp2_with fail
        refine (dCrash_any p S1 D3 w13 [] none 0 RdL.nil_ (by decide) (fun h => absurd rfl h) H12.out.disk).mono ?_
        rintro e w14 ⟨rfl, hu⟩
        obtain ⟨D7, hst⟩ := H12.out.dupd hu
        have H13 := Lib.hid hst
        have hO8 := open_down (S := S1.crash []) (f := 2) (by decide) (crash_down S1 [])
        have hk8 : (S1.crash []).keep.length ≤ 4194320 := by rw [crash_keep]; omega
        clear hu hst H12
        go_wp2_with fail
        refine (recover_any2 HV.out H13.out (f := 2) (by unfold inI64; omega) hk8).mono ?_
        rintro e w15 ⟨D8, A15, c15, rfl, hst⟩
        obtain ⟨r1, r2, r3⟩ := rec_open hO8 (by decide)
        rw [r2, r3] at hst
        rw [r1, r3]
        have H14 := Lib.hid hst
        have HR8 := Lib.hid (rew_open (f := 2) (l := l) (by decide) (few_fits F0.out) hO8 (by decide))
        clear hst H13 r1 r2 r3 hO8
        go_wp2_with fail
        refine (rewrite_any2 HV.out H14.out (R0.out.now H14.out.bl) h0 (f := 2) (by unfold inI64; omega) hk8).mono ?_
        rintro e w16 ⟨D9, rfl, hst⟩
        rw [HR8.out] at hst
        rw [HR8.out]
        have H15 := Lib.hid hst
        clear hst H14 HR8 hk8
        go_wp2_with fail
        refine (dStart_any p _ D9 w16 H15.out.disk).mono ?_
        rintro e w17 ⟨rfl, hu⟩
        obtain ⟨D10, hst⟩ := H15.out.dupd hu
        have H16 := Lib.hid hst
        have hg4 : Up ((S1.crash []).start) ∧ Has ((S1.crash []).start) 2 [48] l := ⟨up_crash G1.out.up [], (G1.out.nt.crash []).has⟩
        have hk4 : ((S1.crash []).start).keep.length ≤ 4194320 := by show (DS.crash S1 []).keep.length ≤ _; rw [crash_keep]; omega
        clear hu hst H15
        generalize (S1.crash []).start = S4 at *
        obtain ⟨⟨x1, x2⟩, x3, x4⟩ := refuse_x hg4.1 hg4.2
        have X1 := Lib.hid x1
        have X2 := Lib.hid x2
        have X4 := Lib.hid x4
        have hk5 : (S4.write 3 0 (bs [120])).keep.length ≤ 4194320 := by rw [write_keep]; exact hk4
        have hk6 : (recS (S4.write 3 0 (bs [120])) 2).keep.length ≤ 4194320 := by rw [recS_keep]; exact hk5
        have hk7 : ((recS (S4.write 3 0 (bs [120])) 2).write 2 0 (bs [120])).keep.length ≤ 4194320 := by rw [write_keep]; exact hk6
        clear x1 x2 x3 x4 hg4
        go_wp2_with fail
        refine (dWrite_any p S4 D10 w17 3 0 (bs [120]) (by unfold inI64; omega) (by unfold inI64; omega) (by decide) hk4 H16.out.disk).mono ?_
        rintro e w18 ⟨rfl, hu⟩
        obtain ⟨D11, hst⟩ := H16.out.dupd hu
        have H17 := Lib.hid hst
        clear hu hst H16
        generalize S4.writeC 3 0 (bs [120]) = wc1 at *
        go_wp2_with fail
        refine (recover_any2 HV.out H17.out (f := 2) (by unfold inI64; omega) hk5).mono ?_
        rintro e w19 ⟨D12, A19, c19, rfl, hst⟩
        rw [X2.out] at hst
        rw [X1.out, X2.out]
        have H18 := Lib.hid hst
        clear hst H17 X1 X2
        generalize recS (S4.write 3 0 (bs [120])) 2 = S6 at *
        go_wp2_with fail
        refine (dWrite_any p S6 D12 w19 2 0 (bs [120]) (by unfold inI64; omega) (by unfold inI64; omega) (by decide) hk6 H18.out.disk).mono ?_
        rintro e w20 ⟨rfl, hu⟩
        obtain ⟨D13, hst⟩ := H18.out.dupd hu
        have H19 := Lib.hid hst
        clear hu hst H18
        generalize S6.writeC 2 0 (bs [120]) = wc2 at *
        generalize S6.write 2 0 (bs [120]) = S7 at *
        obtain ⟨r1, r2, r3⟩ := rec_open X4.out (by decide)
        have HR9 := Lib.hid (rew_open (f := 2) (l := l) (by decide) (few_fits F0.out) X4.out (by decide))
        go_wp2_with fail
        refine (recover_any2 HV.out H19.out (f := 2) (by unfold inI64; omega) hk7).mono ?_
        rintro e w21 ⟨D14, A21, c21, rfl, hst⟩
        rw [r2, r3] at hst
        rw [r1, r3]
        have H20 := Lib.hid hst
        clear hst H19 r1 r2 r3 X4
        go_wp2_with fail
        refine (rewrite_any2 HV.out H20.out (R0.out.now H20.out.bl) h0 (f := 2) (by unfold inI64; omega) hk7).mono ?_
        rintro e w22 ⟨D15, rfl, hst⟩
        rw [HR9.out] at hst
        rw [HR9.out]
        have H21 := Lib.hid hst
        clear hst H20 HR9
        go_wp2_with fail
        go_ret
        exact ⟨rfl, H21.out.bl⟩
    · have d1 : decide (f < 0) = false := by simp; omega
      have d2 : decide (13 < f) = false := by simp; omega
      go_upto_region 19 with fail
      obtain ⟨R2, hR2⟩ : ∃ x, x = R := ⟨_, rfl⟩
      have HRy : Hid (∀ wy, R2.ok wy → RdL 1 strE wy wy.heap.size (some ⟨wM.heap.size, 0, none⟩) [zs] ∧ RdL 1 strE wy wy.heap.size (some ⟨wM.heap.size + 1, 0, none⟩) ms) := Lib.hid (by rw [hR2]; exact HRz.out)
      have H6 : Hid (St w ((dOb p S1 D1).sep R2) w5) := Lib.hid (by rw [hR2]; exact H4.out)
      obtain ⟨D3, hD3⟩ : ∃ x, x = D1 := ⟨_, rfl⟩
      rw [← hD3] at H6
      clear hR2 HRz H4 g1 d1 d2 hD3
      go_wp2_with fail
      refine (copy_any2 H6.out).mono ?_
      rintro e w8 ⟨p2, D4, rfl, hst⟩
      have H7 := Lib.hid hst.rot
      clear hst H6
      go_wp2_with fail
      refine (rewrite_any2 HV.out H7.out (HRy.out _ H7.out.ok.1.2.1.1).1 (by simp) (f := 2) (by unfold inI64; omega) (by omega)).mono ?_
      rintro e w9 ⟨D5, rfl, hst⟩
      rw [rew_unfit (by decide) (by rw [HFz.out]; decide)] at hst
      rw [rew_unfit (S := S1) (l := [zs]) (f := 2) (by decide) (by rw [HFz.out]; decide)]
      have H8 := Lib.hid hst
      clear hst H7
      have C9 := Lib.hid (rewrite_any2 (l := ms) (c := ms.length) HV.out H8.out (HRy.out _ H8.out.ok.1.2.1.1).2 (by rw [HMl.out]; decide) (f := 2) (by unfold inI64; omega) (by show S1.keep.length ≤ _; omega))
      rw [HMl.out, rew_unfit (S := S1) (l := ms) (f := 2) (by decide) (by rw [HFm.out]; decide)] at C9
      go_wp2_with fail
      refine C9.out.mono ?_
      rintro e w10 ⟨D6, rfl, hst⟩
      have H9 := Lib.hid hst.rot.rot
      clear hst H8 C9
      go_wp2_with fail
      refine (eRecover_nil 2 w10).mono ?_
      rintro e w11 ⟨rfl, hb11⟩
      have H10 := Lib.hid (H9.out.on hb11)
      clear hb11 H9
      go_wp2_with fail
      refine (eRewrite_nil 2 l A0 c0 w11).mono ?_
      rintro e w12 ⟨rfl, hb12⟩
      have H11 := Lib.hid (H10.out.on hb12)
      clear hb12 H10
      go_wp2_with fail
      refine (kp_good HV.out H11.out G1.out (by decide) (R0.out.now H11.out.bl)).mono ?_
      rintro e w13 ⟨rfl, hb13⟩
      have H12 := Lib.hid (H11.out.on hb13)
      clear hb13 H11
      go_wp2_with fail
      refine (dCrash_any p S1 D3 w13 [] none 0 RdL.nil_ (by decide) (fun h => absurd rfl h) H12.out.disk).mono ?_
      rintro e w14 ⟨rfl, hu⟩
      obtain ⟨D7, hst⟩ := H12.out.dupd hu
      have H13 := Lib.hid hst
      have hO8 := open_down (S := S1.crash []) (f := 2) (by decide) (crash_down S1 [])
      have hk8 : (S1.crash []).keep.length ≤ 4194320 := by rw [crash_keep]; omega
      clear hu hst H12
      go_wp2_with fail
      refine (recover_any2 HV.out H13.out (f := 2) (by unfold inI64; omega) hk8).mono ?_
      rintro e w15 ⟨D8, A15, c15, rfl, hst⟩
      obtain ⟨r1, r2, r3⟩ := rec_open hO8 (by decide)
      rw [r2, r3] at hst
      rw [r1, r3]
      have H14 := Lib.hid hst
      have HR8 := Lib.hid (rew_open (f := 2) (l := l) (by decide) (few_fits F0.out) hO8 (by decide))
      clear hst H13 r1 r2 r3 hO8
      go_wp2_with fail
      refine (rewrite_any2 HV.out H14.out (R0.out.now H14.out.bl) h0 (f := 2) (by unfold inI64; omega) hk8).mono ?_
      rintro e w16 ⟨D9, rfl, hst⟩
      rw [HR8.out] at hst
      rw [HR8.out]
      have H15 := Lib.hid hst
      clear hst H14 HR8 hk8
      go_wp2_with fail
      refine (dStart_any p _ D9 w16 H15.out.disk).mono ?_
      rintro e w17 ⟨rfl, hu⟩
      obtain ⟨D10, hst⟩ := H15.out.dupd hu
      have H16 := Lib.hid hst
      have hg4 : Up ((S1.crash []).start) ∧ Has ((S1.crash []).start) 2 [48] l := ⟨up_crash G1.out.up [], (G1.out.nt.crash []).has⟩
      have hk4 : ((S1.crash []).start).keep.length ≤ 4194320 := by show (DS.crash S1 []).keep.length ≤ _; rw [crash_keep]; omega
      clear hu hst H15
      generalize (S1.crash []).start = S4 at *
      obtain ⟨⟨x1, x2⟩, x3, x4⟩ := refuse_x hg4.1 hg4.2
      have X1 := Lib.hid x1
      have X2 := Lib.hid x2
      have X4 := Lib.hid x4
      have hk5 : (S4.write 3 0 (bs [120])).keep.length ≤ 4194320 := by rw [write_keep]; exact hk4
      have hk6 : (recS (S4.write 3 0 (bs [120])) 2).keep.length ≤ 4194320 := by rw [recS_keep]; exact hk5
      have hk7 : ((recS (S4.write 3 0 (bs [120])) 2).write 2 0 (bs [120])).keep.length ≤ 4194320 := by rw [write_keep]; exact hk6
      clear x1 x2 x3 x4 hg4
      go_wp2_with fail
      refine (dWrite_any p S4 D10 w17 3 0 (bs [120]) (by unfold inI64; omega) (by unfold inI64; omega) (by decide) hk4 H16.out.disk).mono ?_
      rintro e w18 ⟨rfl, hu⟩
      obtain ⟨D11, hst⟩ := H16.out.dupd hu
      have H17 := Lib.hid hst
      clear hu hst H16
      generalize S4.writeC 3 0 (bs [120]) = wc1 at *
      go_wp2_with fail
      refine (recover_any2 HV.out H17.out (f := 2) (by unfold inI64; omega) hk5).mono ?_
      rintro e w19 ⟨D12, A19, c19, rfl, hst⟩
      rw [X2.out] at hst
      rw [X1.out, X2.out]
      have H18 := Lib.hid hst
      clear hst H17 X1 X2
      generalize recS (S4.write 3 0 (bs [120])) 2 = S6 at *
      go_wp2_with fail
      refine (dWrite_any p S6 D12 w19 2 0 (bs [120]) (by unfold inI64; omega) (by unfold inI64; omega) (by decide) hk6 H18.out.disk).mono ?_
      rintro e w20 ⟨rfl, hu⟩
      obtain ⟨D13, hst⟩ := H18.out.dupd hu
      have H19 := Lib.hid hst
      clear hu hst H18
      generalize S6.writeC 2 0 (bs [120]) = wc2 at *
      generalize S6.write 2 0 (bs [120]) = S7 at *
      obtain ⟨r1, r2, r3⟩ := rec_open X4.out (by decide)
      have HR9 := Lib.hid (rew_open (f := 2) (l := l) (by decide) (few_fits F0.out) X4.out (by decide))
      go_wp2_with fail
      refine (recover_any2 HV.out H19.out (f := 2) (by unfold inI64; omega) hk7).mono ?_
      rintro e w21 ⟨D14, A21, c21, rfl, hst⟩
      rw [r2, r3] at hst
      rw [r1, r3]
      have H20 := Lib.hid hst
      clear hst H19 r1 r2 r3 X4
      go_wp2_with fail
      refine (rewrite_any2 HV.out H20.out (R0.out.now H20.out.bl) h0 (f := 2) (by unfold inI64; omega) hk7).mono ?_
      rintro e w22 ⟨D15, rfl, hst⟩
      rw [HR9.out] at hst
      rw [HR9.out]
      have H21 := Lib.hid hst
      clear hst H20 HR9
      go_wp2_with fail
      go_ret
      exact ⟨rfl, H21.out.bl⟩
  · rw [hov]
    obtain ⟨zs, hzs⟩ : ∃ zs, zs = List.replicate 20002 (0 : UInt8) := ⟨_, rfl⟩
    have HZs := Lib.hid hzs
    have HZl : Hid (20002 = zs.length) := Lib.hid (by rw [hzs, List.length_replicate])
    clear hzs hov
    go_upto_region 12 with (first
        | ((with_reducible show wpList _ _ _ (Oper.mk _ (Op.makeSlice 63 _ _) _ _ _ _ :: _) _ _); refine wp_make_b rfl _ _ rfl Tryz.underlying63 HI.out hz0 hz1 hz2 (n := 20002) rfl rfl (by decide) (by decide) ?_; intro wM hoM hbM; have HOM := Lib.hid (show OwnB wM w4.heap.size 5 w4.heap.size 20002 zs by rw [HZs.out]; exact hoM); have H3 := Lib.hid (H2.out.on hbM); clear hoM hbM)
        | ((with_reducible show wpList _ _ _ (Oper.mk _ (Op.convert 63 9 _) _ _ _ _ :: _) _ _); refine wp_string_bs rfl _ _ _ rfl Tryz.underlying63 Tryz.underlying5 Tryz.underlying9 rfl HZl.out HOM.out ?_)
        | ((with_reducible show wpList _ _ _ (Oper.mk _ (Op.makeSlice 37 _ _) _ _ _ _ :: _) _ _); refine wp_make_1 rfl _ _ rfl Tryz.underlying37 HIs.out hy0 hy1 (by rw [hy2]; decide) rfl (n := 1002) rfl rfl (by decide) ?_)
        | fail)
    have hRL : RdL 1 strE (wM.alloc (.cells #[.string (bs zs)] 9)) (wM.alloc (.cells #[.string (bs zs)] 9)).heap.size (some ⟨wM.heap.size, 0, none⟩) [zs] := rdBlockE strLayJ wM [zs] _ _ rfl _ rfl
    have hba : ∀ o1 o2 : Obj, Below wM.heap.size wM ((wM.alloc o1).alloc o2) := fun o1 o2 => ((Below.refl _ _).alloc (Nat.le_refl _) _).alloc (by simp) _
    have hRM := rd_empties (wM.alloc (.cells #[.string (bs zs)] 9)) 1002 (wM.heap.size + 1) (by simp)
    have hm1 := H3.out.more (hba (.cells #[.string (bs zs)] 9) (.cells (Array.replicate 1002 (.string ByteArray.empty)) 9)) (c := (rdOb (some ⟨wM.heap.size, 0, none⟩) [zs]).sep (rdOb (some ⟨wM.heap.size + 1, 0, none⟩) (List.replicate 1002 []))) ⟨⟨hRL.now ((Below.refl _ _).alloc (Nat.le_refl _) _), hRM⟩, fun _ h => h.elim, fun _ _ h => h.elim, fun _ _ h => h.elim⟩ (fun _ h => h.elim (fun h => h.elim) (fun h => h.elim)) (fun i hi => by
      rcases hi with hi | hi <;> (have h := Option.some.inj hi.2; simp only at h; omega))
    obtain ⟨ms, hms⟩ : ∃ ms, ms = List.replicate 1002 ([] : List UInt8) := ⟨_, rfl⟩
    rw [← hms] at hm1
    have HMl : Hid (ms.length = 1002) := Lib.hid (by rw [hms, List.length_replicate])
    have HFz := Lib.hid (fits_one 20002 (by decide))
    have HFm := Lib.hid (fits_many 1002 (by decide))
    rw [← HZs.out] at HFz
    rw [← hms] at HFm
    have H4 := Lib.hid hm1.assoc
    clear hRL hRM hba H3 HOM hms hm1 HZs HZl
    generalize (wM.alloc (.cells #[.string (bs zs)] 9)).alloc (.cells (Array.replicate 1002 (.string ByteArray.empty)) 9) = w5 at *
    obtain ⟨R, hR⟩ : ∃ x, x = Ob.nil.sep ((rdOb (some ⟨wM.heap.size, 0, none⟩) [zs]).sep (rdOb (some ⟨wM.heap.size + 1, 0, none⟩) ms)) := ⟨_, rfl⟩
    have HRz : Hid (∀ wy, R.ok wy → RdL 1 strE wy wy.heap.size (some ⟨wM.heap.size, 0, none⟩) [zs] ∧ RdL 1 strE wy wy.heap.size (some ⟨wM.heap.size + 1, 0, none⟩) ms) := Lib.hid (by rw [hR]; exact fun wy h => ⟨h.1.2.1.1, h.1.2.1.2⟩)
    rw [← hR] at H4
    clear hR
    go_upto_region 15 with fail
    have hkp : S1.keep.length ≤ 20 := G1.out.kp
    by_cases g1 : f < 0 ∨ 13 < f
    · by_cases g2 : f < 0
      · have d1 : decide (f < 0) = true := by simpa using g2
        go_wp2_with fail
        refine (recover_any2 HV.out H4.out (f := f) HF.out (by omega)).mono ?_
        rintro e w6 ⟨D2, A6, c6, rfl, hst⟩
        rw [(rec_far g1).2.1, (rec_far g1).2.2] at hst
        rw [(rec_far (S := S1) g1).1, (rec_far (S := S1) g1).2.2]
        have H5 := Lib.hid hst
        clear hst H4
        go_wp2_with fail
        refine (rewrite_any2 HV.out H5.out (R0.out.now H5.out.bl) h0 HF.out (by omega)).mono ?_
        rintro e w7 ⟨D3, rfl, hst⟩
        rw [rew_far g1] at hst
        rw [rew_far (S := S1) (l := l) g1]
        have H6b := Lib.hid hst
        clear hst H5
        obtain ⟨R2, hR2⟩ : ∃ x, x = (slOb A6 c6 []).sep R := ⟨_, rfl⟩
        have HRy : Hid (∀ wy, R2.ok wy → RdL 1 strE wy wy.heap.size (some ⟨wM.heap.size, 0, none⟩) [zs] ∧ RdL 1 strE wy wy.heap.size (some ⟨wM.heap.size + 1, 0, none⟩) ms) := Lib.hid (by rw [hR2]; exact fun wy h => HRz.out wy h.1.2)
        have H6 : Hid (St w ((dOb p S1 D3).sep R2) w7) := Lib.hid (by rw [hR2]; exact H6b.out)
        clear hR2 H6b HRz
        clear g1 g2 d1
        go_wp2_with fail
        refine (copy_any2 H6.out).mono ?_
        rintro e w8 ⟨p2, D4, rfl, hst⟩
        have H7 := Lib.hid hst.rot
        clear hst H6
        go_wp2_with fail
        refine (rewrite_any2 HV.out H7.out (HRy.out _ H7.out.ok.1.2.1.1).1 (by simp) (f := 2) (by unfold inI64; omega) (by omega)).mono ?_
        rintro e w9 ⟨D5, rfl, hst⟩
        rw [rew_unfit (by decide) (by rw [HFz.out]; decide)] at hst
        rw [rew_unfit (S := S1) (l := [zs]) (f := 2) (by decide) (by rw [HFz.out]; decide)]
        have H8 := Lib.hid hst
        clear hst H7
        have C9 := Lib.hid (rewrite_any2 (l := ms) (c := ms.length) HV.out H8.out (HRy.out _ H8.out.ok.1.2.1.1).2 (by rw [HMl.out]; decide) (f := 2) (by unfold inI64; omega) (by show S1.keep.length ≤ _; omega))
        rw [HMl.out, rew_unfit (S := S1) (l := ms) (f := 2) (by decide) (by rw [HFm.out]; decide)] at C9
        go_wp2_with fail
        refine C9.out.mono ?_
        rintro e w10 ⟨D6, rfl, hst⟩
        have H9 := Lib.hid hst.rot.rot
        clear hst H8 C9
        go_wp2_with fail
        refine (eRecover_nil 2 w10).mono ?_
        rintro e w11 ⟨rfl, hb11⟩
        have H10 := Lib.hid (H9.out.on hb11)
        clear hb11 H9
        go_wp2_with fail
        refine (eRewrite_nil 2 l A0 c0 w11).mono ?_
        rintro e w12 ⟨rfl, hb12⟩
        have H11 := Lib.hid (H10.out.on hb12)
        clear hb12 H10
        go_wp2_with fail
        refine (kp_good HV.out H11.out G1.out (by decide) (R0.out.now H11.out.bl)).mono ?_
        rintro e w13 ⟨rfl, hb13⟩
        have H12 := Lib.hid (H11.out.on hb13)
        clear hb13 H11
        go_wp2_with fail
        refine (dCrash_any p S1 D3 w13 [] none 0 RdL.nil_ (by decide) (fun h => absurd rfl h) H12.out.disk).mono ?_
        rintro e w14 ⟨rfl, hu⟩
        obtain ⟨D7, hst⟩ := H12.out.dupd hu
        have H13 := Lib.hid hst
        have hO8 := open_down (S := S1.crash []) (f := 2) (by decide) (crash_down S1 [])
        have hk8 : (S1.crash []).keep.length ≤ 4194320 := by rw [crash_keep]; omega
        clear hu hst H12
        go_wp2_with fail
        refine (recover_any2 HV.out H13.out (f := 2) (by unfold inI64; omega) hk8).mono ?_
        rintro e w15 ⟨D8, A15, c15, rfl, hst⟩
        obtain ⟨r1, r2, r3⟩ := rec_open hO8 (by decide)
        rw [r2, r3] at hst
        rw [r1, r3]
        have H14 := Lib.hid hst
        have HR8 := Lib.hid (rew_open (f := 2) (l := l) (by decide) (few_fits F0.out) hO8 (by decide))
        clear hst H13 r1 r2 r3 hO8
        go_wp2_with fail
        refine (rewrite_any2 HV.out H14.out (R0.out.now H14.out.bl) h0 (f := 2) (by unfold inI64; omega) hk8).mono ?_
        rintro e w16 ⟨D9, rfl, hst⟩
        rw [HR8.out] at hst
        rw [HR8.out]
        have H15 := Lib.hid hst
        clear hst H14 HR8 hk8
        go_wp2_with fail
        refine (dStart_any p _ D9 w16 H15.out.disk).mono ?_
        rintro e w17 ⟨rfl, hu⟩
        obtain ⟨D10, hst⟩ := H15.out.dupd hu
        have H16 := Lib.hid hst
        have hg4 : Up ((S1.crash []).start) ∧ Has ((S1.crash []).start) 2 [48] l := ⟨up_crash G1.out.up [], (G1.out.nt.crash []).has⟩
        have hk4 : ((S1.crash []).start).keep.length ≤ 4194320 := by show (DS.crash S1 []).keep.length ≤ _; rw [crash_keep]; omega
        clear hu hst H15
        generalize (S1.crash []).start = S4 at *
        obtain ⟨⟨x1, x2⟩, x3, x4⟩ := refuse_x hg4.1 hg4.2
        have X1 := Lib.hid x1
        have X2 := Lib.hid x2
        have X4 := Lib.hid x4
        have hk5 : (S4.write 3 0 (bs [120])).keep.length ≤ 4194320 := by rw [write_keep]; exact hk4
        have hk6 : (recS (S4.write 3 0 (bs [120])) 2).keep.length ≤ 4194320 := by rw [recS_keep]; exact hk5
        have hk7 : ((recS (S4.write 3 0 (bs [120])) 2).write 2 0 (bs [120])).keep.length ≤ 4194320 := by rw [write_keep]; exact hk6
        clear x1 x2 x3 x4 hg4
        go_wp2_with fail
        refine (dWrite_any p S4 D10 w17 3 0 (bs [120]) (by unfold inI64; omega) (by unfold inI64; omega) (by decide) hk4 H16.out.disk).mono ?_
        rintro e w18 ⟨rfl, hu⟩
        obtain ⟨D11, hst⟩ := H16.out.dupd hu
        have H17 := Lib.hid hst
        clear hu hst H16
        generalize S4.writeC 3 0 (bs [120]) = wc1 at *
        go_wp2_with fail
        refine (recover_any2 HV.out H17.out (f := 2) (by unfold inI64; omega) hk5).mono ?_
        rintro e w19 ⟨D12, A19, c19, rfl, hst⟩
        rw [X2.out] at hst
        rw [X1.out, X2.out]
        have H18 := Lib.hid hst
        clear hst H17 X1 X2
        generalize recS (S4.write 3 0 (bs [120])) 2 = S6 at *
        go_wp2_with fail
        refine (dWrite_any p S6 D12 w19 2 0 (bs [120]) (by unfold inI64; omega) (by unfold inI64; omega) (by decide) hk6 H18.out.disk).mono ?_
        rintro e w20 ⟨rfl, hu⟩
        obtain ⟨D13, hst⟩ := H18.out.dupd hu
        have H19 := Lib.hid hst
        clear hu hst H18
        generalize S6.writeC 2 0 (bs [120]) = wc2 at *
        generalize S6.write 2 0 (bs [120]) = S7 at *
        obtain ⟨r1, r2, r3⟩ := rec_open X4.out (by decide)
        have HR9 := Lib.hid (rew_open (f := 2) (l := l) (by decide) (few_fits F0.out) X4.out (by decide))
        go_wp2_with fail
        refine (recover_any2 HV.out H19.out (f := 2) (by unfold inI64; omega) hk7).mono ?_
        rintro e w21 ⟨D14, A21, c21, rfl, hst⟩
        rw [r2, r3] at hst
        rw [r1, r3]
        have H20 := Lib.hid hst
        clear hst H19 r1 r2 r3 X4
        go_wp2_with fail
        refine (rewrite_any2 HV.out H20.out (R0.out.now H20.out.bl) h0 (f := 2) (by unfold inI64; omega) hk7).mono ?_
        rintro e w22 ⟨D15, rfl, hst⟩
        rw [HR9.out] at hst
        rw [HR9.out]
        have H21 := Lib.hid hst
        clear hst H20 HR9
        go_wp2_with fail
        go_ret
        exact ⟨rfl, H21.out.bl⟩
      · have d1 : decide (f < 0) = false := by simpa using g2
        have d2 : decide (13 < f) = true := by simp; omega
        go_wp2_with fail
        refine (recover_any2 HV.out H4.out (f := f) HF.out (by omega)).mono ?_
        rintro e w6 ⟨D2, A6, c6, rfl, hst⟩
        rw [(rec_far g1).2.1, (rec_far g1).2.2] at hst
        rw [(rec_far (S := S1) g1).1, (rec_far (S := S1) g1).2.2]
        have H5 := Lib.hid hst
        clear hst H4
        go_wp2_with fail
        refine (rewrite_any2 HV.out H5.out (R0.out.now H5.out.bl) h0 HF.out (by omega)).mono ?_
        rintro e w7 ⟨D3, rfl, hst⟩
        rw [rew_far g1] at hst
        rw [rew_far (S := S1) (l := l) g1]
        have H6b := Lib.hid hst
        clear hst H5
        obtain ⟨R2, hR2⟩ : ∃ x, x = (slOb A6 c6 []).sep R := ⟨_, rfl⟩
        have HRy : Hid (∀ wy, R2.ok wy → RdL 1 strE wy wy.heap.size (some ⟨wM.heap.size, 0, none⟩) [zs] ∧ RdL 1 strE wy wy.heap.size (some ⟨wM.heap.size + 1, 0, none⟩) ms) := Lib.hid (by rw [hR2]; exact fun wy h => HRz.out wy h.1.2)
        have H6 : Hid (St w ((dOb p S1 D3).sep R2) w7) := Lib.hid (by rw [hR2]; exact H6b.out)
        clear hR2 H6b HRz
        clear g1 g2 d1 d2
        go_wp2_with fail
        refine (copy_any2 H6.out).mono ?_
        rintro e w8 ⟨p2, D4, rfl, hst⟩
        have H7 := Lib.hid hst.rot
        clear hst H6
        go_wp2_with fail
        refine (rewrite_any2 HV.out H7.out (HRy.out _ H7.out.ok.1.2.1.1).1 (by simp) (f := 2) (by unfold inI64; omega) (by omega)).mono ?_
        rintro e w9 ⟨D5, rfl, hst⟩
        rw [rew_unfit (by decide) (by rw [HFz.out]; decide)] at hst
        rw [rew_unfit (S := S1) (l := [zs]) (f := 2) (by decide) (by rw [HFz.out]; decide)]
        have H8 := Lib.hid hst
        clear hst H7
        have C9 := Lib.hid (rewrite_any2 (l := ms) (c := ms.length) HV.out H8.out (HRy.out _ H8.out.ok.1.2.1.1).2 (by rw [HMl.out]; decide) (f := 2) (by unfold inI64; omega) (by show S1.keep.length ≤ _; omega))
        rw [HMl.out, rew_unfit (S := S1) (l := ms) (f := 2) (by decide) (by rw [HFm.out]; decide)] at C9
        go_wp2_with fail
        refine C9.out.mono ?_
        rintro e w10 ⟨D6, rfl, hst⟩
        have H9 := Lib.hid hst.rot.rot
        clear hst H8 C9
        go_wp2_with fail
        refine (eRecover_nil 2 w10).mono ?_
        rintro e w11 ⟨rfl, hb11⟩
        have H10 := Lib.hid (H9.out.on hb11)
        clear hb11 H9
        go_wp2_with fail
        refine (eRewrite_nil 2 l A0 c0 w11).mono ?_
        rintro e w12 ⟨rfl, hb12⟩
        have H11 := Lib.hid (H10.out.on hb12)
        clear hb12 H10
        go_wp2_with fail
        refine (kp_good HV.out H11.out G1.out (by decide) (R0.out.now H11.out.bl)).mono ?_
        rintro e w13 ⟨rfl, hb13⟩
        have H12 := Lib.hid (H11.out.on hb13)
        clear hb13 H11
        go_wp2_with fail
        refine (dCrash_any p S1 D3 w13 [] none 0 RdL.nil_ (by decide) (fun h => absurd rfl h) H12.out.disk).mono ?_
        rintro e w14 ⟨rfl, hu⟩
        obtain ⟨D7, hst⟩ := H12.out.dupd hu
        have H13 := Lib.hid hst
        have hO8 := open_down (S := S1.crash []) (f := 2) (by decide) (crash_down S1 [])
        have hk8 : (S1.crash []).keep.length ≤ 4194320 := by rw [crash_keep]; omega
        clear hu hst H12
        go_wp2_with fail
        refine (recover_any2 HV.out H13.out (f := 2) (by unfold inI64; omega) hk8).mono ?_
        rintro e w15 ⟨D8, A15, c15, rfl, hst⟩
        obtain ⟨r1, r2, r3⟩ := rec_open hO8 (by decide)
        rw [r2, r3] at hst
        rw [r1, r3]
        have H14 := Lib.hid hst
        have HR8 := Lib.hid (rew_open (f := 2) (l := l) (by decide) (few_fits F0.out) hO8 (by decide))
        clear hst H13 r1 r2 r3 hO8
        go_wp2_with fail
        refine (rewrite_any2 HV.out H14.out (R0.out.now H14.out.bl) h0 (f := 2) (by unfold inI64; omega) hk8).mono ?_
        rintro e w16 ⟨D9, rfl, hst⟩
        rw [HR8.out] at hst
        rw [HR8.out]
        have H15 := Lib.hid hst
        clear hst H14 HR8 hk8
        go_wp2_with fail
        refine (dStart_any p _ D9 w16 H15.out.disk).mono ?_
        rintro e w17 ⟨rfl, hu⟩
        obtain ⟨D10, hst⟩ := H15.out.dupd hu
        have H16 := Lib.hid hst
        have hg4 : Up ((S1.crash []).start) ∧ Has ((S1.crash []).start) 2 [48] l := ⟨up_crash G1.out.up [], (G1.out.nt.crash []).has⟩
        have hk4 : ((S1.crash []).start).keep.length ≤ 4194320 := by show (DS.crash S1 []).keep.length ≤ _; rw [crash_keep]; omega
        clear hu hst H15
        generalize (S1.crash []).start = S4 at *
        obtain ⟨⟨x1, x2⟩, x3, x4⟩ := refuse_x hg4.1 hg4.2
        have X1 := Lib.hid x1
        have X2 := Lib.hid x2
        have X4 := Lib.hid x4
        have hk5 : (S4.write 3 0 (bs [120])).keep.length ≤ 4194320 := by rw [write_keep]; exact hk4
        have hk6 : (recS (S4.write 3 0 (bs [120])) 2).keep.length ≤ 4194320 := by rw [recS_keep]; exact hk5
        have hk7 : ((recS (S4.write 3 0 (bs [120])) 2).write 2 0 (bs [120])).keep.length ≤ 4194320 := by rw [write_keep]; exact hk6
        clear x1 x2 x3 x4 hg4
        go_wp2_with fail
        refine (dWrite_any p S4 D10 w17 3 0 (bs [120]) (by unfold inI64; omega) (by unfold inI64; omega) (by decide) hk4 H16.out.disk).mono ?_
        rintro e w18 ⟨rfl, hu⟩
        obtain ⟨D11, hst⟩ := H16.out.dupd hu
        have H17 := Lib.hid hst
        clear hu hst H16
        generalize S4.writeC 3 0 (bs [120]) = wc1 at *
        go_wp2_with fail
        refine (recover_any2 HV.out H17.out (f := 2) (by unfold inI64; omega) hk5).mono ?_
        rintro e w19 ⟨D12, A19, c19, rfl, hst⟩
        rw [X2.out] at hst
        rw [X1.out, X2.out]
        have H18 := Lib.hid hst
        clear hst H17 X1 X2
        generalize recS (S4.write 3 0 (bs [120])) 2 = S6 at *
        go_wp2_with fail
        refine (dWrite_any p S6 D12 w19 2 0 (bs [120]) (by unfold inI64; omega) (by unfold inI64; omega) (by decide) hk6 H18.out.disk).mono ?_
        rintro e w20 ⟨rfl, hu⟩
        obtain ⟨D13, hst⟩ := H18.out.dupd hu
        have H19 := Lib.hid hst
        clear hu hst H18
        generalize S6.writeC 2 0 (bs [120]) = wc2 at *
        generalize S6.write 2 0 (bs [120]) = S7 at *
        obtain ⟨r1, r2, r3⟩ := rec_open X4.out (by decide)
        have HR9 := Lib.hid (rew_open (f := 2) (l := l) (by decide) (few_fits F0.out) X4.out (by decide))
        go_wp2_with fail
        refine (recover_any2 HV.out H19.out (f := 2) (by unfold inI64; omega) hk7).mono ?_
        rintro e w21 ⟨D14, A21, c21, rfl, hst⟩
        rw [r2, r3] at hst
        rw [r1, r3]
        have H20 := Lib.hid hst
        clear hst H19 r1 r2 r3 X4
        go_wp2_with fail
        refine (rewrite_any2 HV.out H20.out (R0.out.now H20.out.bl) h0 (f := 2) (by unfold inI64; omega) hk7).mono ?_
        rintro e w22 ⟨D15, rfl, hst⟩
        rw [HR9.out] at hst
        rw [HR9.out]
        have H21 := Lib.hid hst
        clear hst H20 HR9
        go_wp2_with fail
        go_ret
        exact ⟨rfl, H21.out.bl⟩
    · have d1 : decide (f < 0) = false := by simp; omega
      have d2 : decide (13 < f) = false := by simp; omega
      go_upto_region 19 with fail
      obtain ⟨R2, hR2⟩ : ∃ x, x = R := ⟨_, rfl⟩
      have HRy : Hid (∀ wy, R2.ok wy → RdL 1 strE wy wy.heap.size (some ⟨wM.heap.size, 0, none⟩) [zs] ∧ RdL 1 strE wy wy.heap.size (some ⟨wM.heap.size + 1, 0, none⟩) ms) := Lib.hid (by rw [hR2]; exact HRz.out)
      have H6 : Hid (St w ((dOb p S1 D1).sep R2) w5) := Lib.hid (by rw [hR2]; exact H4.out)
      obtain ⟨D3, hD3⟩ : ∃ x, x = D1 := ⟨_, rfl⟩
      rw [← hD3] at H6
      clear hR2 HRz H4 g1 d1 d2 hD3
      go_wp2_with fail
      refine (copy_any2 H6.out).mono ?_
      rintro e w8 ⟨p2, D4, rfl, hst⟩
      have H7 := Lib.hid hst.rot
      clear hst H6
      go_wp2_with fail
      refine (rewrite_any2 HV.out H7.out (HRy.out _ H7.out.ok.1.2.1.1).1 (by simp) (f := 2) (by unfold inI64; omega) (by omega)).mono ?_
      rintro e w9 ⟨D5, rfl, hst⟩
      rw [rew_unfit (by decide) (by rw [HFz.out]; decide)] at hst
      rw [rew_unfit (S := S1) (l := [zs]) (f := 2) (by decide) (by rw [HFz.out]; decide)]
      have H8 := Lib.hid hst
      clear hst H7
      have C9 := Lib.hid (rewrite_any2 (l := ms) (c := ms.length) HV.out H8.out (HRy.out _ H8.out.ok.1.2.1.1).2 (by rw [HMl.out]; decide) (f := 2) (by unfold inI64; omega) (by show S1.keep.length ≤ _; omega))
      rw [HMl.out, rew_unfit (S := S1) (l := ms) (f := 2) (by decide) (by rw [HFm.out]; decide)] at C9
      go_wp2_with fail
      refine C9.out.mono ?_
      rintro e w10 ⟨D6, rfl, hst⟩
      have H9 := Lib.hid hst.rot.rot
      clear hst H8 C9
      go_wp2_with fail
      refine (eRecover_nil 2 w10).mono ?_
      rintro e w11 ⟨rfl, hb11⟩
      have H10 := Lib.hid (H9.out.on hb11)
      clear hb11 H9
      go_wp2_with fail
      refine (eRewrite_nil 2 l A0 c0 w11).mono ?_
      rintro e w12 ⟨rfl, hb12⟩
      have H11 := Lib.hid (H10.out.on hb12)
      clear hb12 H10
      go_wp2_with fail
      refine (kp_good HV.out H11.out G1.out (by decide) (R0.out.now H11.out.bl)).mono ?_
      rintro e w13 ⟨rfl, hb13⟩
      have H12 := Lib.hid (H11.out.on hb13)
      clear hb13 H11
      go_wp2_with fail
      refine (dCrash_any p S1 D3 w13 [] none 0 RdL.nil_ (by decide) (fun h => absurd rfl h) H12.out.disk).mono ?_
      rintro e w14 ⟨rfl, hu⟩
      obtain ⟨D7, hst⟩ := H12.out.dupd hu
      have H13 := Lib.hid hst
      have hO8 := open_down (S := S1.crash []) (f := 2) (by decide) (crash_down S1 [])
      have hk8 : (S1.crash []).keep.length ≤ 4194320 := by rw [crash_keep]; omega
      clear hu hst H12
      go_wp2_with fail
      refine (recover_any2 HV.out H13.out (f := 2) (by unfold inI64; omega) hk8).mono ?_
      rintro e w15 ⟨D8, A15, c15, rfl, hst⟩
      obtain ⟨r1, r2, r3⟩ := rec_open hO8 (by decide)
      rw [r2, r3] at hst
      rw [r1, r3]
      have H14 := Lib.hid hst
      have HR8 := Lib.hid (rew_open (f := 2) (l := l) (by decide) (few_fits F0.out) hO8 (by decide))
      clear hst H13 r1 r2 r3 hO8
      go_wp2_with fail
      refine (rewrite_any2 HV.out H14.out (R0.out.now H14.out.bl) h0 (f := 2) (by unfold inI64; omega) hk8).mono ?_
      rintro e w16 ⟨D9, rfl, hst⟩
      rw [HR8.out] at hst
      rw [HR8.out]
      have H15 := Lib.hid hst
      clear hst H14 HR8 hk8
      go_wp2_with fail
      refine (dStart_any p _ D9 w16 H15.out.disk).mono ?_
      rintro e w17 ⟨rfl, hu⟩
      obtain ⟨D10, hst⟩ := H15.out.dupd hu
      have H16 := Lib.hid hst
      have hg4 : Up ((S1.crash []).start) ∧ Has ((S1.crash []).start) 2 [48] l := ⟨up_crash G1.out.up [], (G1.out.nt.crash []).has⟩
      have hk4 : ((S1.crash []).start).keep.length ≤ 4194320 := by show (DS.crash S1 []).keep.length ≤ _; rw [crash_keep]; omega
      clear hu hst H15
      generalize (S1.crash []).start = S4 at *
      obtain ⟨⟨x1, x2⟩, x3, x4⟩ := refuse_x hg4.1 hg4.2
      have X1 := Lib.hid x1
      have X2 := Lib.hid x2
      have X4 := Lib.hid x4
      have hk5 : (S4.write 3 0 (bs [120])).keep.length ≤ 4194320 := by rw [write_keep]; exact hk4
      have hk6 : (recS (S4.write 3 0 (bs [120])) 2).keep.length ≤ 4194320 := by rw [recS_keep]; exact hk5
      have hk7 : ((recS (S4.write 3 0 (bs [120])) 2).write 2 0 (bs [120])).keep.length ≤ 4194320 := by rw [write_keep]; exact hk6
      clear x1 x2 x3 x4 hg4
      go_wp2_with fail
      refine (dWrite_any p S4 D10 w17 3 0 (bs [120]) (by unfold inI64; omega) (by unfold inI64; omega) (by decide) hk4 H16.out.disk).mono ?_
      rintro e w18 ⟨rfl, hu⟩
      obtain ⟨D11, hst⟩ := H16.out.dupd hu
      have H17 := Lib.hid hst
      clear hu hst H16
      generalize S4.writeC 3 0 (bs [120]) = wc1 at *
      go_wp2_with fail
      refine (recover_any2 HV.out H17.out (f := 2) (by unfold inI64; omega) hk5).mono ?_
      rintro e w19 ⟨D12, A19, c19, rfl, hst⟩
      rw [X2.out] at hst
      rw [X1.out, X2.out]
      have H18 := Lib.hid hst
      clear hst H17 X1 X2
      generalize recS (S4.write 3 0 (bs [120])) 2 = S6 at *
      go_wp2_with fail
      refine (dWrite_any p S6 D12 w19 2 0 (bs [120]) (by unfold inI64; omega) (by unfold inI64; omega) (by decide) hk6 H18.out.disk).mono ?_
      rintro e w20 ⟨rfl, hu⟩
      obtain ⟨D13, hst⟩ := H18.out.dupd hu
      have H19 := Lib.hid hst
      clear hu hst H18
      generalize S6.writeC 2 0 (bs [120]) = wc2 at *
      generalize S6.write 2 0 (bs [120]) = S7 at *
      obtain ⟨r1, r2, r3⟩ := rec_open X4.out (by decide)
      have HR9 := Lib.hid (rew_open (f := 2) (l := l) (by decide) (few_fits F0.out) X4.out (by decide))
      go_wp2_with fail
      refine (recover_any2 HV.out H19.out (f := 2) (by unfold inI64; omega) hk7).mono ?_
      rintro e w21 ⟨D14, A21, c21, rfl, hst⟩
      rw [r2, r3] at hst
      rw [r1, r3]
      have H20 := Lib.hid hst
      clear hst H19 r1 r2 r3 X4
      go_wp2_with fail
      refine (rewrite_any2 HV.out H20.out (R0.out.now H20.out.bl) h0 (f := 2) (by unfold inI64; omega) hk7).mono ?_
      rintro e w22 ⟨D15, rfl, hst⟩
      rw [HR9.out] at hst
      rw [HR9.out]
      have H21 := Lib.hid hst
      clear hst H20 HR9
      go_wp2_with fail
      go_ret
      exact ⟨rfl, H21.out.bl⟩
end Go.Proofs.YtlgnggogiopjaaaGreatDoor
