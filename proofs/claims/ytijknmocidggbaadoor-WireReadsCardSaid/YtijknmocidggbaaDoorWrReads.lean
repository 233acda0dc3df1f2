/- The walk of WireReads. -/
import Derived.Test.YtijknmocidggbaaDoorWrU
import Derived.Test.YtijknmocidggbaaDoorWrK
namespace Go.Proofs.YtijknmocidggbaaDoor
open Go.RowKit

/-- The two readers, side by side. -/
structure Two (b d : Nat) (s : RS) (w0 w : World) : Prop where
  r : RdAt b s w
  q : RqAt d s w
  g : Good s
  l : s.rest.length ≤ 400
  u : Below w0.heap.size w0 w
/-- What is behind one of the five readings. -/
def nextR (k : Int) (s : RS) : RS :=
  if k = 0 then (rNum 59 0 s).2 else if k = 1 then (rNum 59 (-9223372036854775808) s).2 else if k = 2 then (rText s).2
  else if k = 3 then (rItems (rNum 59 (-9223372036854775808)) s).2 else (rItems rText s).2
theorem rClose_good {c : UInt8} {q : RS} (hq : Good q) : Good (rClose c q) := fun h => by
  unfold rClose at h ⊢
  split
  · rename_i hp
    rw [if_pos hp] at h
    show q.rest.tail = []
    rw [hq h]; rfl
  · rfl
theorem itLoop_good {T : Type} (one : RS → T × RS) (hone : ∀ s, Good s → Good (one s).2) (hle : ∀ s, (one s).2.rest.length ≤ s.rest.length) : ∀ (n : Nat) (s : RS) (out : List T), Good s → Good (itLoop one n s out).2 ∧ (itLoop one n s out).2.rest.length ≤ s.rest.length
  | 0, s, out, h => ⟨h, Nat.le_refl _⟩
  | n + 1, s, out, h => by
    rw [itLoop]
    split
    · exact ⟨h, Nat.le_refl _⟩
    · have := itLoop_good one hone hle n (one s).2 (out ++ [(one s).1]) (hone s h)
      exact ⟨this.1, Nat.le_trans this.2 (hle s)⟩
theorem rItems_good {T : Type} (one : RS → T × RS) (hone : ∀ s, Good s → Good (one s).2) (hle : ∀ s, (one s).2.rest.length ≤ s.rest.length) (s : RS) (h : Good s) : Good (rItems one s).2 ∧ (rItems one s).2.rest.length ≤ s.rest.length := by
  have h1 := itLoop_good one hone hle (rNum 91 0 s).1.toNat (rNum 91 0 s).2 [] (good_num h)
  have h2 := rNum_rest 91 0 s
  have h3 := rClose_good (c := 93) h1.1
  have h4 := rClose_rest 93 (itLoop one (rNum 91 0 s).1.toNat (rNum 91 0 s).2 []).2
  unfold rItems
  simp only
  split
  · exact ⟨h3, by show (rClose _ _).rest.length ≤ _; omega⟩
  · exact ⟨h3, by show (rClose _ _).rest.length ≤ _; omega⟩
theorem nextR_good (k : Int) (s : RS) (h : Good s) : Good (nextR k s) ∧ (nextR k s).rest.length ≤ s.rest.length := by
  unfold nextR
  split
  · exact ⟨good_num h, rNum_rest _ _ _⟩
  · split
    · exact ⟨good_num h, rNum_rest _ _ _⟩
    · split
      · exact ⟨good_text h, rText_rest _⟩
      · split
        · exact rItems_good _ (fun s h => good_num h) (fun s => rNum_rest _ _ _) s h
        · exact rItems_good _ (fun s h => good_text h) (fun s => rText_rest _) s h
set_option maxRecDepth 100000 in
set_option maxHeartbeats 8000000 in
theorem reads_any (l : List UInt8) (xs : List Int) (A : Option Addr) (c : Nat) (w : World) (hV : Vs w.heap.size w) (hr : RdL 1 intE w w.heap.size A xs) (hn : xs.length ≤ 9223372036854775807) :
    Calls Tryd.prog 7 #[.string (bs l), .slice A xs.length c] w fun e w' => e = .returned (.bool true) ∧ Below w.heap.size w w' := by
  have HV := Lib.hid hV
  have HR := Lib.hid hr
  clear hV hr
  have hsz : (bs l).size = l.length := bs_size l
  go_enter Tryd.func7, Tryd.ntmps7
  go_wp2_with fail
  refine (small_any _ HV.out).mono ?_
  rintro e w1 ⟨rfl, hb1⟩
  have HB1 := Lib.hid hb1
  clear hb1
  by_cases h400 : (400 : Int) < l.length
  · go_wp2_with fail
    go_ret
    exact ⟨rfl, HB1.out⟩
  · by_cases h20 : (20 : Int) < xs.length
    · go_wp2_with fail
      go_ret
      exact ⟨rfl, HB1.out⟩
    · go_wp2_with fail
      refine (open_any l _).mono ?_
      rintro e w2 ⟨rfl, hr2, hb2⟩
      have HB2 := Lib.hid (HB1.out.trans (hb2.mono HB1.out.size))
      have HR2 := Lib.hid hr2
      have HZ := Lib.hid (show w.heap.size ≤ w1.heap.size from HB1.out.size)
      obtain ⟨b, hbe⟩ : ∃ b, b = w1.heap.size := ⟨_, rfl⟩
      rw [← hbe] at HR2 HZ ⊢
      clear hbe hr2 hb2 HB1
      go_wp2_with fail
      refine (qOpen_any l _).mono ?_
      rintro e w3 ⟨rfl, hr3, hb3⟩
      have HT3 : Hid (Two b w2.heap.size ⟨l, false⟩ w w3) := Lib.hid ⟨HR2.out.now hb3, hr3, fun h => by simp at h, by show l.length ≤ 400; omega, HB2.out.trans (hb3.mono HB2.out.size)⟩
      have HZ2 := Lib.hid (show w.heap.size ≤ w2.heap.size from HB2.out.size)
      have HNe := Lib.hid (show b < w2.heap.size from HR2.out.lt)
      obtain ⟨d, hde⟩ : ∃ d, d = w2.heap.size := ⟨_, rfl⟩
      rw [← hde] at HT3 HZ2 HNe ⊢
      clear hde hr3 hb3 HB2 HR2
      go_wp2_with fail
      go_loopw [8, 9] (fun i _ wr => ∃ (k : Nat) (s : RS), k ≤ xs.length ∧ i = .int .i64 k ∧ Two b d s w wr) (fun i _ _ => xs.length - (intOf i).toNat)
      case atStart => exact ⟨0, _, Nat.zero_le _, rfl, HT3.out⟩
      case round =>
        obtain ⟨k, s, hk, rfl, htw⟩ := hrel
        have HT := Lib.hid htw
        clear htw HT3
        by_cases hlt : k < xs.length
        · obtain ⟨b3, off3, hA3, hb3, c3x⟩ := rd_int' (HR.out.now HT.out.u) hlt
          subst hA3
          generalize xs[k] = what at *
          go_wp2_with fail
          refine (kind_any ⟨what, 0, [], [], none, 0, [], none, 0⟩ _).mono ?_
          rintro e w4 ⟨rfl, hb4⟩
          have HT4 : Hid (Two b d s w w4) := Lib.hid ⟨HT.out.r.now hb4, HT.out.q.now hb4, HT.out.g, HT.out.l, HT.out.u.trans (hb4.mono HT.out.u.size)⟩
          have hk5 := VM.knd_in ⟨what, 0, [], [], none, 0, [], none, 0⟩
          generalize VM.knd ⟨what, 0, [], [], none, 0, [], none, 0⟩ = kd at *
          clear hb4 hb3 c3x HT
          have hcase : kd = 0 ∨ kd = 1 ∨ kd = 2 ∨ kd = 3 ∨ kd = 4 := by omega
          clear hk5
          have HNx := Lib.hid (nextR_good kd s HT4.out.g)
          go_upto_block 2 with fail
          go_cut [9] (fun x wx => x = .bool true ∧ Two b d (nextR kd s) w wx)
          case first =>
            rcases hcase with rfl | rfl | rfl | rfl | rfl
            · go_wp2_with fail
              refine (rdNum_any b s _ (HV.out.now HT4.out.u) HZ.out HT4.out.r (by have := HT4.out.l; omega)).mono ?_
              rintro e w5 ⟨rfl, h5, t5⟩
              have HQ5 := Lib.hid (show RqAt d s w5 from (t5.block d HT4.out.q.lt (by have := HNe.out; unfold One; omega)).trans HT4.out.q)
              have HR5 := Lib.hid h5
              have HU5 := Lib.hid (HT4.out.u.trans (t5.to_below HT4.out.u.size (fun i hi => by cases hi; exact HZ.out)))
              clear h5 t5
              go_wp2_with fail
              refine (qNum_any d s _ HQ5.out (by have := HT4.out.l; omega)).mono ?_
              rintro e w6 ⟨rfl, h6, t6⟩
              have HR6 := Lib.hid (show RdAt b _ w6 from (t6.block b HR5.out.lt (by have := HNe.out; unfold One; omega)).trans HR5.out)
              have HQ6 := Lib.hid h6
              have HU6 := Lib.hid (HU5.out.trans (t6.to_below HU5.out.size (fun i hi => by cases hi; exact HZ2.out)))
              clear h6 t6
              go_wp2_with fail
              go_meet
              exact ⟨by simp, HR6.out, HQ6.out, HNx.out.1, Nat.le_trans HNx.out.2 HT4.out.l, HU6.out⟩
            · go_wp2_with fail
              refine (rdInt_any b s _ (HV.out.now HT4.out.u) HZ.out HT4.out.r (by have := HT4.out.l; omega)).mono ?_
              rintro e w5 ⟨rfl, h5, t5⟩
              have HQ5 := Lib.hid (show RqAt d s w5 from (t5.block d HT4.out.q.lt (by have := HNe.out; unfold One; omega)).trans HT4.out.q)
              have HR5 := Lib.hid h5
              have HU5 := Lib.hid (HT4.out.u.trans (t5.to_below HT4.out.u.size (fun i hi => by cases hi; exact HZ.out)))
              clear h5 t5
              go_wp2_with fail
              refine (qInt_any d s _ HQ5.out (by have := HT4.out.l; omega)).mono ?_
              rintro e w6 ⟨rfl, h6, t6⟩
              have HR6 := Lib.hid (show RdAt b _ w6 from (t6.block b HR5.out.lt (by have := HNe.out; unfold One; omega)).trans HR5.out)
              have HQ6 := Lib.hid h6
              have HU6 := Lib.hid (HU5.out.trans (t6.to_below HU5.out.size (fun i hi => by cases hi; exact HZ2.out)))
              clear h6 t6
              go_wp2_with fail
              go_meet
              exact ⟨by simp, HR6.out, HQ6.out, HNx.out.1, Nat.le_trans HNx.out.2 HT4.out.l, HU6.out⟩
            · go_wp2_with fail
              refine (rdText_any b s _ (HV.out.now HT4.out.u) HZ.out HT4.out.r (by have := HT4.out.l; omega)).mono ?_
              rintro e w5 ⟨rfl, h5, t5⟩
              have HQ5 := Lib.hid (show RqAt d s w5 from (t5.block d HT4.out.q.lt (by have := HNe.out; unfold One; omega)).trans HT4.out.q)
              have HR5 := Lib.hid h5
              have HU5 := Lib.hid (HT4.out.u.trans (t5.to_below HT4.out.u.size (fun i hi => by cases hi; exact HZ.out)))
              clear h5 t5
              go_wp2_with fail
              refine (qText_any d s _ HT4.out.g HQ5.out (by have := HT4.out.l; omega)).mono ?_
              rintro e w6 ⟨rfl, h6, t6⟩
              have HR6 := Lib.hid (show RdAt b _ w6 from (t6.block b HR5.out.lt (by have := HNe.out; unfold One; omega)).trans HR5.out)
              have HQ6 := Lib.hid h6
              have HU6 := Lib.hid (HU5.out.trans (t6.to_below HU5.out.size (fun i hi => by cases hi; exact HZ2.out)))
              clear h6 t6
              go_wp2_with fail
              go_meet
              exact ⟨by simp, HR6.out, HQ6.out, HNx.out.1, Nat.le_trans HNx.out.2 HT4.out.l, HU6.out⟩
            · go_wp2_with fail
              refine (rdNums_any b s _ (HV.out.now HT4.out.u) HZ.out HT4.out.r (by have := HT4.out.l; omega)).mono ?_
              rintro e w5 ⟨A5, c5, rfl, ho5, h5, t5⟩
              have HQ5 := Lib.hid (show RqAt d s w5 from (t5.block d HT4.out.q.lt (by have := HNe.out; unfold One; omega)).trans HT4.out.q)
              have HR5 := Lib.hid h5
              have HU5 := Lib.hid (HT4.out.u.trans (t5.to_below HT4.out.u.size (fun i hi => by cases hi; exact HZ.out)))
              have HO5 := Lib.hid ho5
              have HDl := Lib.hid (show d < w4.heap.size from HT4.out.q.lt)
              clear h5 t5 ho5
              go_wp2_with fail
              refine (qNums_any d s _ HT4.out.g HQ5.out (by have := HT4.out.l; omega)).mono ?_
              rintro e w6 ⟨A6, c6, rfl, ho6, h6, t6⟩
              have HR6 := Lib.hid (show RdAt b _ w6 from (t6.block b HR5.out.lt (by have := HNe.out; unfold One; omega)).trans HR5.out)
              have HQ6 := Lib.hid h6
              have HU6 := Lib.hid (HU5.out.trans (t6.to_below HU5.out.size (fun i hi => by cases hi; exact HZ2.out)))
              have HL5 := Lib.hid ((HO5.out.rd intLay).turn (w' := w6) (fun i hi hlt => t6.block i hlt (fun e => by have := (HO5.out.blk_lt hi).1; have := HDl.out; unfold One at e; omega)) t6.size)
              have HO6 := Lib.hid ho6
              clear h6 t6 ho6
              go_wp2_with fail
              refine (sameI_any _ _ A5 A6 c5 c6 w6 HL5.out (HO6.out.rd intLay) HO6.out.len_max HO6.out.len_max).mono ?_
              rintro e w7 ⟨rfl, hb7⟩
              have HR7 := Lib.hid (HR6.out.now hb7)
              have HQ7 := Lib.hid (HQ6.out.now hb7)
              have HU7 := Lib.hid (HU6.out.trans (hb7.mono HU6.out.size))
              clear hb7
              go_wp2_with fail
              go_meet
              exact ⟨by simp, HR7.out, HQ7.out, HNx.out.1, Nat.le_trans HNx.out.2 HT4.out.l, HU7.out⟩
            · go_wp2_with fail
              refine (rdTexts_any b s _ (HV.out.now HT4.out.u) HZ.out HT4.out.r (by have := HT4.out.l; omega)).mono ?_
              rintro e w5 ⟨A5, c5, rfl, ho5, h5, t5⟩
              have HQ5 := Lib.hid (show RqAt d s w5 from (t5.block d HT4.out.q.lt (by have := HNe.out; unfold One; omega)).trans HT4.out.q)
              have HR5 := Lib.hid h5
              have HU5 := Lib.hid (HT4.out.u.trans (t5.to_below HT4.out.u.size (fun i hi => by cases hi; exact HZ.out)))
              have HO5 := Lib.hid ho5
              have HDl := Lib.hid (show d < w4.heap.size from HT4.out.q.lt)
              clear h5 t5 ho5
              go_wp2_with fail
              refine (qTexts_any d s _ HT4.out.g HQ5.out (by have := HT4.out.l; omega)).mono ?_
              rintro e w6 ⟨A6, c6, rfl, ho6, h6, t6⟩
              have HR6 := Lib.hid (show RdAt b _ w6 from (t6.block b HR5.out.lt (by have := HNe.out; unfold One; omega)).trans HR5.out)
              have HQ6 := Lib.hid h6
              have HU6 := Lib.hid (HU5.out.trans (t6.to_below HU5.out.size (fun i hi => by cases hi; exact HZ2.out)))
              have HL5 := Lib.hid ((HO5.out.rd strLay).turn (w' := w6) (fun i hi hlt => t6.block i hlt (fun e => by have := (HO5.out.blk_lt hi).1; have := HDl.out; unfold One at e; omega)) t6.size)
              have HO6 := Lib.hid ho6
              clear h6 t6 ho6
              go_wp2_with fail
              refine (sameS_any _ _ A5 A6 c5 c6 w6 HL5.out (HO6.out.rd strLay) HO6.out.len_max HO6.out.len_max).mono ?_
              rintro e w7 ⟨rfl, hb7⟩
              have HR7 := Lib.hid (HR6.out.now hb7)
              have HQ7 := Lib.hid (HQ6.out.now hb7)
              have HU7 := Lib.hid (HU6.out.trans (hb7.mono HU6.out.size))
              clear hb7
              go_wp2_with fail
              go_meet
              exact ⟨by simp, HR7.out, HQ7.out, HNx.out.1, Nat.le_trans HNx.out.2 HT4.out.l, HU7.out⟩
          case rest =>
            obtain ⟨rfl, htw⟩ := hcut
            have HT5 := Lib.hid htw
            clear htw hcase HT4
            generalize nextR kd s = s5 at *
            go_wp2_with fail
            refine (left_any b s5 _ HT5.out.r).mono ?_
            rintro e w6 ⟨rfl, rfl⟩
            go_wp2_with fail
            refine (qLeft_any d s5 _ HT5.out.q).mono ?_
            rintro e w6 ⟨rfl, rfl⟩
            go_wp2_with fail
            refine (done_any b s5 _ HT5.out.r).mono ?_
            rintro e w6 ⟨rfl, rfl⟩
            go_wp2_with fail
            refine (qDone_any d s5 _ HT5.out.q).mono ?_
            rintro e w6 ⟨rfl, rfl⟩
            go_wp2_with fail
            go_roundw
            case rel => exact ⟨k + 1, s5, by omega, by go_num, HT5.out⟩
            case measure => simp [intOf]; omega
        · go_wp2_with fail
          refine (rest_any b s _ HT.out.r).mono ?_
          rintro e w5 ⟨rfl, h5, t5⟩
          have HQ5 := Lib.hid (show RqAt d s w5 from (t5.block d HT.out.q.lt (by have := HNe.out; unfold One; omega)).trans HT.out.q)
          have HR5 := Lib.hid h5
          have HU5 := Lib.hid (HT.out.u.trans (t5.to_below HT.out.u.size (fun i hi => by cases hi; exact HZ.out)))
          clear h5 t5
          go_wp2_with fail
          refine (qTail_any d s _ HQ5.out).mono ?_
          rintro e w6 ⟨rfl, h6, t6⟩
          have HR6 := Lib.hid (show RdAt b ⟨[], s.bad⟩ w6 from (t6.block b HR5.out.lt (by have := HNe.out; unfold One; omega)).trans HR5.out)
          have HQ6 := Lib.hid h6
          have HU6 := Lib.hid (HU5.out.trans (t6.to_below HU5.out.size (fun i hi => by cases hi; exact HZ2.out)))
          clear h6 t6
          go_wp2_with fail
          refine (left_any b _ _ HR6.out).mono ?_
          rintro e w7 ⟨rfl, rfl⟩
          go_wp2_with fail
          refine (qLeft_any d _ _ HQ6.out).mono ?_
          rintro e w7 ⟨rfl, rfl⟩
          go_wp2_with fail
          refine (done_any b _ _ HR6.out).mono ?_
          rintro e w7 ⟨rfl, rfl⟩
          go_wp2_with fail
          refine (qDone_any d _ _ HQ6.out).mono ?_
          rintro e w7 ⟨rfl, rfl⟩
          go_wp2_with fail
          go_ret
          exact ⟨by simp, HU6.out⟩
end Go.Proofs.YtijknmocidggbaaDoor
