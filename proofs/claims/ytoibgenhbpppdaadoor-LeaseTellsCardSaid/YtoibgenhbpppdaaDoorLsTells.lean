/- The walk of LeaseTells. -/
import Derived.Test.YtoibgenhbpppdaaDoorLsF
import Derived.Test.YtoibgenhbpppdaaDoorMake
import Derived.Test.YtoibgenhbpppdaaDoorDet
namespace Go.Proofs.YtoibgenhbpppdaaDoor
open Go.RowKit

set_option maxRecDepth 100000 in
set_option maxHeartbeats 8000000 in
theorem tells47_any (l : Ls) (who epoch now span : Int) (rec : List UInt8) (extra : Int) (xs : List (List UInt8)) (A : Option Addr) (c : Nat) (w : World) (hV : Vs w.heap.size w) (hr : RdL 1 strE w w.heap.size A xs) (hn : xs.length ≤ 9223372036854775807)
    (hsp : InInt span) (hep : InInt epoch) (hx0 : 0 ≤ extra) (hx1 : extra ≤ 255) :
    Calls Tryd.prog 3 #[l.v, .int .i64 who, .int .i64 epoch, .int .i64 now, .int .i64 span, .string (bs rec), .int .u8 extra, .slice A xs.length c] w fun e w' => e = .returned (.bool true) ∧ Below w.heap.size w w' := by
  have HV := Lib.hid hV
  have HR := Lib.hid hr
  have HEp := Lib.hid hep
  have HSp := Lib.hid hsp
  have HS0 := Lib.hid (show SmW w w [] from ⟨Below.refl _ _, fun p hp => by simp at hp⟩)
  have hsz : (bs rec).size = rec.length := bs_size rec
  clear hV hr hep hsp
  unfold Ls.v
  go_enter Tryd.func3, Tryd.ntmps3
  have HS1 := Lib.hid (HS0.out.box (wy := w.alloc (.cells #[.int .i64 l.who, .int .i64 l.epoch, .int .i64 l.till] 23)) l ((Below.refl _ _).alloc (Nat.le_refl _) _) (by simp) (by unfold World.cell?; rw [heap_alloc_new]; rfl) (by unfold World.cell?; rw [heap_alloc_new]; rfl) (by unfold World.cell?; rw [heap_alloc_new]; rfl))
  clear HS0
  go_wp2_with fail
  refine (small47_any _ (⟨HS1.out.b.size, fun w' hb => HV.out.2 w' ((HS1.out.b.mono HV.out.le).trans (hb.mono HV.out.le))⟩ : Vs w.heap.size _)).mono ?_
  rintro e w1 ⟨rfl, hb1⟩
  have HS2 := Lib.hid (HS1.out.on hb1)
  clear hb1 HS1
  obtain ⟨b8, hb8⟩ : ∃ b, b = w.heap.size := ⟨_, rfl⟩
  rw [← hb8] at HS2 ⊢
  clear hb8
  by_cases g1 : (300 : Int) < rec.length
  · go_wp2_with fail
    go_ret
    exact ⟨rfl, HS2.out.b⟩
  have d1 : decide (300 < rec.length) = false := by simp; omega
  go_wp2_with fail
  refine (few47_any xs 24 A c _ (HR.out.now HS2.out.b) hn (by decide)).mono ?_
  rintro e w2 ⟨rfl, rfl⟩
  cases hf : fewB xs 24
  · go_wp2_with fail
    go_ret
    exact ⟨rfl, HS2.out.b⟩
  have HF := Lib.hid (fewB_inv hf)
  obtain ⟨c0, c1, c2⟩ := HS2.out.cells b8 l (by simp)
  clear hf
  go_wp2_with fail
  refine (grant_any l who now span _ HSp.out).mono ?_
  have HGR := Lib.hid (fun w => grantR_any l who now span w HSp.out)
  generalize grantL l who now span = m at *
  generalize grantE l who now span = er at *
  rintro e w2 ⟨rfl, hb2⟩
  have HS3 := Lib.hid (HS2.out.on hb2)
  clear hb2 HS2 c0 c1 c2
  unfold Ls.v
  go_upto_region 5 with fail
  have HS4 := Lib.hid (HS3.out.box (wy := w2.alloc (.cells #[.int .i64 m.who, .int .i64 m.epoch, .int .i64 m.till] 23)) m ((Below.refl _ _).alloc (Nat.le_refl _) _) (by simp) (by unfold World.cell?; rw [heap_alloc_new]; rfl) (by unfold World.cell?; rw [heap_alloc_new]; rfl) (by unfold World.cell?; rw [heap_alloc_new]; rfl))
  clear HS3
  obtain ⟨b18, hb18⟩ : ∃ b, b = w2.heap.size := ⟨_, rfl⟩
  rw [← hb18] at HS4 ⊢
  clear hb18
  go_cut [20, 21] (fun x y wx => SmQ w wx [(b18, m), (b8, l)] m er x y)
  case first =>
    obtain ⟨c0, c1, c2⟩ := HS4.out.cells b8 l (by simp)
    go_wp2_with fail
    refine (HGR.out _).mono ?_
    rintro e w3 ⟨rfl, hb3⟩
    have HSx := Lib.hid (HS4.out.on hb3)
    unfold Ls.v
    go_wp2_with fail
    go_meet
    exact SmQ.mk HSx.out rfl _
  case rest =>
    obtain ⟨b20, rfl, rfl, hs⟩ := hcut
    have HS5 := Lib.hid hs
    clear hs HS4
    have hy0 : 0 ≤ extra % 3 := by omega
    have hy1 : extra % 3 ≤ 2 := by omega
    obtain ⟨iu, hi, hz0, hz1, hz2⟩ := info_parts (show (Tryd.prog.info? 5).map (fun i => (i.zero, i.size, i.bytes)) = some (some (.int .u8 0), 1, 1) by kernel_rfl)
    go_upto_region 7 with (first
      | ((with_reducible show wpList _ _ _ (Oper.mk _ (Op.makeSlice _ _ _) _ _ _ _ :: _) _ _); refine wp_make_b rfl _ _ rfl Tryd.underlying30 hi hz0 hz1 hz2 rfl rfl (by omega) (by omega) ?_; intro wM hoM hbM; obtain ⟨zs, hzs⟩ : ∃ zs, zs = List.replicate (20000 + extra % 3 - 1).toNat (0 : UInt8) := ⟨_, rfl⟩; rw [← hzs] at hoM; have HZL := Lib.hid (show (20000 + extra % 3 - 1).toNat = zs.length from by rw [hzs, List.length_replicate]); have HOM := Lib.hid hoM; have HBM := Lib.hid hbM; clear hoM hbM hzs)
      | ((with_reducible show wpList _ _ _ (Oper.mk _ (Op.convert 30 9 _) _ _ _ _ :: _) _ _); refine wp_string_bs rfl _ _ _ rfl Tryd.underlying30 Tryd.underlying5 Tryd.underlying9 rfl HZL.out HOM.out ?_)
      | fail)
    have HS6 := Lib.hid (HS5.out.on HBM.out)
    have hzl : zs.length ≤ 1000000000000 := by have := HZL.out; omega
    clear HS5 HOM HBM HZL hi hz0 hz1 hz2
    go_cut [23] (fun x wx => x = .bool true ∧ SmW w wx [(b20, m), (b18, m), (b8, l)])
    case first =>
      refine wp_region_det (S := (fun w' => SmW w w' [(b20, m), (b18, m), (b8, l)])) (by kernel_rfl) (by kernel_rfl) (HS6.out.on ((Below.refl _ _).drew)) ?_
      rw [List.toList_toArray]
      repeat (first
          | ((with_reducible show Det _ _ _ _ (Oper.mk _ (Op.call (Call.mk (Callee.value (Operand.func 11)) _ _)) _ _ _ _ :: _) _); refine Det.step (.int .i64 (mayF l who epoch now)) (by rfl) (fun wq hSq K hK => ?_) ?_; (· (go_simp; refine (may_any l who epoch now _).mono ?_; rintro e4 w4 ⟨rfl, hb4⟩; go_wp2_with fail; refine hK.out _ _ (hSq.on hb4) ?_; rfl)); simp only [Act.put, List.setIfInBounds_toArray, List.set_cons_zero, List.set_cons_succ, List.getElem_toArray, List.getElem_cons_zero, List.getElem_cons_succ])
          | ((with_reducible show Det _ _ _ _ (Oper.mk _ (Op.call (Call.mk (Callee.value (Operand.func 12)) _ _)) _ _ _ _ :: _) _); refine Det.step (.int .i64 (mayF l who epoch now)) (by rfl) (fun wq hSq K hK => ?_) ?_; (· (go_simp; refine (mayR_any l who epoch now _).mono ?_; rintro e4 w4 ⟨rfl, hb4⟩; go_wp2_with fail; refine hK.out _ _ (hSq.on hb4) ?_; rfl)); simp only [Act.put, List.setIfInBounds_toArray, List.set_cons_zero, List.set_cons_succ, List.getElem_toArray, List.getElem_cons_zero, List.getElem_cons_succ])
          | (refine Det.skip (by rfl) ?_; simp only [Act.put, List.setIfInBounds_toArray, List.set_cons_zero, List.set_cons_succ, List.getElem_toArray, List.getElem_cons_zero, List.getElem_cons_succ])
          | (refine Det.read (v := ?_) (by rfl) ?_ ?_; rotate_left; (· (intro wq hSq; obtain ⟨q0, q1, q2⟩ := hSq.cells b8 l (by simp); obtain ⟨q3, q4, q5⟩ := hSq.cells b18 m (by simp); obtain ⟨q6, q7, q8⟩ := hSq.cells b20 m (by simp); go_simp; try with_reducible rfl)); simp only [Act.put, List.setIfInBounds_toArray, List.set_cons_zero, List.set_cons_succ, List.getElem_toArray, List.getElem_cons_zero, List.getElem_cons_succ])
          | fail)
      refine Det.done fun wz hz => ?_
      go_wp2
      go_meet
      exact ⟨rfl, hz⟩
    case rest =>
      obtain ⟨rfl, hs⟩ := hcut
      have HB := Lib.hid hs.b
      clear hs HS6 HSp
      go_wp2_with fail
      refine (frame_any epoch rec _ (⟨HB.out.size, fun w' hb => HV.out.2 w' ((HB.out.mono HV.out.le).trans (hb.mono HV.out.le))⟩ : Vs w.heap.size _) HEp.out (by omega)).mono ?_
      rintro e w4 ⟨rfl, hb4⟩
      have HB4 := Lib.hid (HB.out.trans (hb4.mono HB.out.size))
      clear hb4
      go_wp2_with fail
      refine (frameR_any epoch rec _ (⟨HB4.out.size, fun w' hb => HV.out.2 w' ((HB4.out.mono HV.out.le).trans (hb.mono HV.out.le))⟩ : Vs w.heap.size _) HEp.out (by omega)).mono ?_
      rintro e w5 ⟨rfl, hb5⟩
      have HB5 := Lib.hid (HB4.out.trans (hb5.mono HB4.out.size))
      clear hb5 HB4
      go_wp2_with fail
      refine (frame_any epoch zs _ (⟨HB5.out.size, fun w' hb => HV.out.2 w' ((HB5.out.mono HV.out.le).trans (hb.mono HV.out.le))⟩ : Vs w.heap.size _) HEp.out hzl).mono ?_
      rintro e w6 ⟨rfl, hb6⟩
      have HB6 := Lib.hid (HB5.out.trans (hb6.mono HB5.out.size))
      clear hb6 HB5
      go_wp2_with fail
      refine (frameR_any epoch zs _ (⟨HB6.out.size, fun w' hb => HV.out.2 w' ((HB6.out.mono HV.out.le).trans (hb.mono HV.out.le))⟩ : Vs w.heap.size _) HEp.out hzl).mono ?_
      rintro e w7 ⟨rfl, hb7⟩
      have HB7 := Lib.hid (HB6.out.trans (hb7.mono HB6.out.size))
      clear hb7 HB6
      go_wp2_with fail
      have HFl := Lib.hid (show ∀ x ∈ xs, x.length ≤ 1000000000000 from fun x hx => by have := HF.out.2 x hx; omega)
      refine (valid_any xs A c _ (⟨HB7.out.size, fun w' hb => HV.out.2 w' ((HB7.out.mono HV.out.le).trans (hb.mono HV.out.le))⟩ : Vs w.heap.size _) (HR.out.now HB7.out) HFl.out (by have := HF.out.1; omega)).mono ?_
      rintro e w8 ⟨A8, c8, rfl, ho8, hb8⟩
      have HB8 := Lib.hid (HB7.out.trans (hb8.mono HB7.out.size))
      have HR8 := Lib.hid (ho8.rd strLay)
      clear hb8 ho8 HB7
      go_wp2_with fail
      refine (validR_any xs A c _ (⟨HB8.out.size, fun w' hb => HV.out.2 w' ((HB8.out.mono HV.out.le).trans (hb.mono HV.out.le))⟩ : Vs w.heap.size _) (HR.out.now HB8.out) HFl.out (by have := HF.out.1; omega)).mono ?_
      rintro e w9 ⟨A9, c9, rfl, ho9, hb9⟩
      have HB9 := Lib.hid (HB8.out.trans (hb9.mono HB8.out.size))
      have HR9 := Lib.hid (ho9.rd strLay)
      have HR8b := Lib.hid (HR8.out.now hb9)
      have HLn := Lib.hid (validP_len xs)
      have HLn2 := Lib.hid HF.out.1
      clear hb9 ho9 HB8 HR8
      generalize (validP xs).1 = out at *
      go_wp2_with fail
      refine (strings_any out out A8 A9 c8 c9 _ HR8b.out HR9.out (by have := HLn.out; have := HLn2.out; omega) (by have := HLn.out; have := HLn2.out; omega)).mono ?_
      rintro e w10 ⟨rfl, hb10⟩
      have HB10 := Lib.hid (HB9.out.trans (hb10.mono HB9.out.size))
      clear hb10 HB9
      go_wp2_with fail
      go_ret
      exact ⟨by simp, HB10.out⟩
end Go.Proofs.YtoibgenhbpppdaaDoor
