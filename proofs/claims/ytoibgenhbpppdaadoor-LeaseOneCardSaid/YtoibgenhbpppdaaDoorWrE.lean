/- Contracts of package wire: the reader. -/
import Derived.Test.YtoibgenhbpppdaaDoorWrC
import Derived.Test.YtoibgenhbpppdaaDoorDet
import Derived.Lib.AtoiAll
import Derived.Deep.RegionHeld3
import Derived.Deep.RegionLaw
import Derived.Deep.DeepCutAuto
import Derived.Deep.CutBlock
namespace Go.Proofs.YtoibgenhbpppdaaDoor
open Go.RowKit

/-- A reader: what is left, and whether it has failed. -/
structure RS where
  rest : List UInt8
  bad : Bool
def RS.fail : RS := ⟨[], true⟩
def RdAt (b : Nat) (s : RS) (w : World) : Prop := w.heap[b]? = some (.cells #[.string (bs s.rest), .bool s.bad] 55 (0, 0))
section
variable {b : Nat} {s s' : RS} {w w' : World}
theorem RdAt.lt (h : RdAt b s w) : b < w.heap.size := box_lt h
theorem RdAt.c0 (h : RdAt b s w) : w.cell? ⟨b, 0, none⟩ = some (.string (bs s.rest)) := box_cell h 0 _ rfl
theorem RdAt.c1 (h : RdAt b s w) : w.cell? ⟨b, 1, none⟩ = some (.bool s.bad) := box_cell h 1 _ rfl
theorem RdAt.free (h : RdAt b s w) (j : Nat) : w.frozen? ⟨b, j, none⟩ = false := box_free h j
theorem RdAt.now (h : RdAt b s w) (hb : Below w.heap.size w w') : RdAt b s w' := (hb.block b h.lt).trans h
theorem RdAt.drew (h : RdAt b s w) : RdAt b s w.drew := h
theorem RdAt.set0 (h : RdAt b s w) (l : List UInt8) : RdAt b ⟨l, s.bad⟩ (w.setCell ⟨b, 0, none⟩ (.string (bs l))) := by
  unfold RdAt at *
  simp [World.setCell, Array.getElem?_modify, h]
theorem RdAt.set1 (h : RdAt b s w) (x : Bool) : RdAt b ⟨s.rest, x⟩ (w.setCell ⟨b, 1, none⟩ (.bool x)) := by
  unfold RdAt at *
  simp [World.setCell, Array.getElem?_modify, h]
end
abbrev One (b : Nat) (i : Nat) : Prop := i = b
theorem turn_below {B b : Nat} {w w' : World} (h : Turn (One b) w w') (hB : B ≤ w.heap.size) (hb : B ≤ b) : Below B w w' :=
  h.to_below hB (fun i hi => by cases hi; exact hb)

theorem fail_any (b : Nat) (s : RS) (w : World) (h : RdAt b s w) :
    Calls Tryd.prog 41 #[.pointer (some ⟨b, 0, none⟩)] w fun e w' => e = .returned (.tuple #[]) ∧ RdAt b .fail w' ∧ Turn (One b) w w' := by
  have c0 := h.c0
  have c1 := h.c1
  have f0 := h.free 0
  have f1 := h.free 1
  go_enter Tryd.func41, Tryd.ntmps41
  go_wp2_with fail
  go_end0
  exact ⟨rfl, (h.set0 []).set1 true, ((Turn.refl (One b) w).set b 0 _ (.inl rfl)).set b 1 _ (.inl rfl)⟩

/-- strconv.Atoi, at every string. -/
theorem atoi_any {B : Nat} (l : List UInt8) (w : World) (hV : Vs B w) (hl : l.length ≤ 1000000000000) :
    Calls Tryd.prog 48 #[.string (bs l)] w fun e w' => ((∃ n, Lib.atoiAll l = .ok n ∧ InInt n ∧ e = .returned (.tuple #[.int .i64 n, .nilIface])) ∨
      ((∀ n, Lib.atoiAll l ≠ .ok n) ∧ ∃ m tp N, e = .returned (.tuple #[.int .i64 m, .iface tp (.pointer (some ⟨N, 0, none⟩))]))) ∧ Below w.heap.size w w' := by
  have hsz : (bs l).size = l.length := bs_size l
  rcases hA : Lib.atoiAll l with n | _ | _
  · refine (Tryd.strconv_Atoi_ok (bs l) (by omega) n hA w).mono ?_
    rintro e w' ⟨rfl, hw⟩
    refine ⟨.inl ⟨n, rfl, Lib.atoiAll_bounds hA, rfl⟩, ?_⟩
    rcases hw with rfl | ⟨t, rfl⟩
    · exact Below.refl _ _
    · exact Lib.bytesWorld_below _ _ _
  · obtain ⟨tp, pv, hvar⟩ := hV.here.2.1
    refine (Tryd.strconv_Atoi_syntax_var (bs l) (by omega) hA tp pv _ hvar).mono ?_
    rintro e w' ⟨N, rfl, _, _, hb⟩
    exact ⟨.inr ⟨(fun n h => nomatch h), _, _, N, rfl⟩, hb⟩
  · obtain ⟨tp, pv, hvar⟩ := hV.here.2.2
    refine (Tryd.strconv_Atoi_range_var (bs l) (by omega) hA tp pv _ hvar).mono ?_
    rintro e w' ⟨N, rfl, _, _, hb⟩
    exact ⟨.inr ⟨(fun n h => nomatch h), _, _, N, rfl⟩, hb⟩

/-- What 'number' does. -/
def rNum (e : UInt8) (least : Int) (s : RS) : Int × RS :=
  let head := s.rest.take 21
  let at_ := Lib.indexByte head e
  if at_ < 0 then (0, .fail) else
  match Lib.atoiAll (head.take at_.toNat) with
  | .ok n => if Lib.itoa n = head.take at_.toNat ∧ least ≤ n then (n, ⟨s.rest.drop (at_.toNat + 1), s.bad⟩) else (0, .fail)
  | _ => (0, .fail)

set_option maxRecDepth 100000 in
set_option maxHeartbeats 1000000 in
theorem number_any {B : Nat} (b : Nat) (s : RS) (e : UInt8) (least : Int) (w : World) (hV : Vs B w) (hb : B ≤ b) (h : RdAt b s w) (hl : s.rest.length ≤ 1000000000000) (hm : InInt least) :
    Calls Tryd.prog 40 #[.pointer (some ⟨b, 0, none⟩), .int .u8 e.toNat, .int .i64 least] w fun x w' => x = .returned (.int .i64 (rNum e least s).1) ∧ RdAt b (rNum e least s).2 w' ∧ Turn (One b) w w' := by
  have c0 := h.c0
  have c1 := h.c1
  have f0 := h.free 0
  have f1 := h.free 1
  go_enter Tryd.func40, Tryd.ntmps40
  go_wp2_with fail
  go_quiet (fail)
  have hx : (bs s.rest).extract 0 (min ((bs s.rest).size : Int) 21).toNat = bs (s.rest.take 21) := by
    rw [bs_extract, bs_size, List.drop_zero]
    congr 1
    rw [show (min (s.rest.length : Int) 21).toNat = min s.rest.length 21 by omega]
    rcases Nat.le_total s.rest.length 21 with h1 | h1
    · rw [Nat.min_eq_left h1, List.take_of_length_le (Nat.le_refl _), List.take_of_length_le h1]
    · rw [Nat.min_eq_right h1]
  rw [hx]
  clear hx
  have hle : (s.rest.take 21).length ≤ 21 := by simp; omega
  have hdef : Hid (∀ head, head = s.rest.take 21 → rNum e least s = (let at_ := Lib.indexByte head e
    if at_ < 0 then (0, .fail) else
    match Lib.atoiAll (head.take at_.toNat) with
    | .ok n => if Lib.itoa n = head.take at_.toNat ∧ least ≤ n then (n, ⟨s.rest.drop (at_.toNat + 1), s.bad⟩) else (0, .fail)
    | _ => (0, .fail))) := Lib.hid fun _ h => by rw [h]; rfl
  obtain ⟨head, hh⟩ : ∃ x, x = s.rest.take 21 := ⟨_, rfl⟩
  have hD := hdef.out head hh
  rw [← hh] at hle ⊢
  have HH := Lib.hid hh
  clear hh
  have HD := Lib.hid hD
  have hix := Lib.indexByte_ge head e
  have hixl := indexByte_in head e
  clear hdef hD
  have H1 : RdAt b s (w.drewN nq) := h
  have T1 : Turn (One b) w (w.drewN nq) := (Turn.refl _ _).drewN nq
  have V1 : Vs B (w.drewN nq) := hV.now (below_drewN (Below.refl _ _) nq)
  generalize w.drewN nq = w1 at *
  clear hV h c0 c1 f0 f1
  go_wp2_with fail
  refine (Tryd.strings_IndexByte (bs head) e.toNat _).mono ?_
  rintro x w2 ⟨rfl, rfl⟩
  rw [show ((e.toNat : Int).toNat.toUInt8) = e by simp, bs_data]
  generalize Lib.indexByte head e = at_ at *
  have c0 := H1.c0
  have c1 := H1.c1
  have f0 := H1.free 0
  have f1 := H1.free 1
  by_cases hneg : at_ < 0
  · have HF := Lib.hid (fail_any b s w2 H1)
    go_wp2_with fail
    refine HF.out.mono ?_
    rintro x w3 ⟨rfl, hr3, ht3⟩
    go_wp2_with fail
    go_ret
    have hD := HD.out
    simp only [hneg, if_true] at hD
    exact ⟨by rw [hD]; rfl, by rw [hD]; exact hr3, T1.trans ht3 (fun i hi => .inl hi)⟩
  · have hle2 : at_ ≤ ((bs head).size : Int) := by have := hixl (by omega); rw [bs_size]; omega
    go_wp2_with fail
    have hx2 : (bs head).extract 0 at_.toNat = bs (head.take at_.toNat) := by rw [bs_extract, List.drop_zero]
    rw [hx2]
    have HX2 := Lib.hid hx2
    have hD := HD.out
    rw [if_neg (by omega)] at hD
    have HD := Lib.hid hD
    clear hD hx2
    have hl2 : (head.take at_.toNat).length ≤ 21 := by simp; omega
    have hle1 := hixl (by omega)
    obtain ⟨h', hh'⟩ : ∃ x, x = head.take at_.toNat := ⟨_, rfl⟩
    rw [← hh'] at hl2 HX2 ⊢
    have hD := HD.out
    rw [← hh'] at hD
    have HD := Lib.hid hD
    have HH' := Lib.hid hh'
    clear hD hh'
    refine (atoi_any h' _ V1 (by omega)).mono ?_
    rintro x w3 ⟨hr, hb3⟩
    have H3 := Lib.hid (H1.now hb3)
    have T3 := Lib.hid (T1.trans (Turn.below (F := One b) hb3) (fun i hi => .inl hi))
    have V3 := Lib.hid (V1.now hb3)
    clear hb3 H1 T1 V1
    have c0 := H3.out.c0
    have c1 := H3.out.c1
    have f0 := H3.out.free 0
    have f1 := H3.out.free 1
    rcases hr with ⟨n, hA, hin, rfl⟩ | ⟨hA, m, tp, N, rfl⟩
    · have hD := HD.out
      rw [hA] at hD
      have HD := Lib.hid hD
      clear hA hD
      have hIt := Lib.itoa_length_le n hin.1 hin.2
      have hx2 := HX2.out
      have V3' := V3.out
      have hlt3 := H3.out.lt
      go_wp2_with fail
      go_cut [50] (fun v wx => v = .bool (!(decide (Lib.itoa n = h') && decide (least ≤ n))) ∧ Below w3.heap.size w3 wx)
      case first =>
        by_cases hq : Lib.itoa n = h'
        · have hq1 : ((bs (Lib.itoa n)).toList == (bs h').toList) = true := by rw [bs_beq, hq]; simp
          have HQ := Lib.hid hq
          clear hq
          by_cases hq2 : n < least
          · have HQ3 := Lib.hid (show ¬ least ≤ n by omega)
            refine wp_region_det (S := Below w3.heap.size w3) (by kernel_rfl) (by kernel_rfl) ((Below.refl _ _).drew) ?_
            rw [List.toList_toArray]
            repeat (first
                | ((with_reducible show Det _ _ _ _ (Oper.mk _ (Op.call (Call.mk (Callee.value (Operand.func 28)) _ _)) _ _ _ _ :: _) _); refine Det.step (.string (bs (Lib.itoa n))) (by rfl) (fun wq hSq K hK => ?_) ?_; (· (go_simp; refine (itoa_any n _ (V3'.now hSq) hin).mono ?_; rintro e4 w4 ⟨rfl, hb4⟩; go_wp2_with fail; refine hK.out _ _ (hSq.trans (hb4.mono hSq.size)) ?_; rfl)); simp only [Act.put, List.setIfInBounds_toArray, List.set_cons_zero, List.set_cons_succ, List.getElem_toArray, List.getElem_cons_zero, List.getElem_cons_succ])
                | (refine Det.skip (by rfl) ?_; simp only [Act.put, List.setIfInBounds_toArray, List.set_cons_zero, List.set_cons_succ, List.getElem_toArray, List.getElem_cons_zero, List.getElem_cons_succ])
                | (refine Det.read (v := ?_) (by rfl) ?_ ?_; rotate_left; (· (intro wq hSq; skip; go_simp; try with_reducible rfl)); simp only [Act.put, List.setIfInBounds_toArray, List.set_cons_zero, List.set_cons_succ, List.getElem_toArray, List.getElem_cons_zero, List.getElem_cons_succ])
                | fail)
            refine Det.done fun wz hz => ?_
            all_goals go_wp2
            all_goals go_meet
            all_goals exact ⟨by simp [HQ3.out], hz⟩
          · have HQ3 := Lib.hid (show least ≤ n by omega)
            refine wp_region_det (S := Below w3.heap.size w3) (by kernel_rfl) (by kernel_rfl) ((Below.refl _ _).drew) ?_
            rw [List.toList_toArray]
            repeat (first
                | ((with_reducible show Det _ _ _ _ (Oper.mk _ (Op.call (Call.mk (Callee.value (Operand.func 28)) _ _)) _ _ _ _ :: _) _); refine Det.step (.string (bs (Lib.itoa n))) (by rfl) (fun wq hSq K hK => ?_) ?_; (· (go_simp; refine (itoa_any n _ (V3'.now hSq) hin).mono ?_; rintro e4 w4 ⟨rfl, hb4⟩; go_wp2_with fail; refine hK.out _ _ (hSq.trans (hb4.mono hSq.size)) ?_; rfl)); simp only [Act.put, List.setIfInBounds_toArray, List.set_cons_zero, List.set_cons_succ, List.getElem_toArray, List.getElem_cons_zero, List.getElem_cons_succ])
                | (refine Det.skip (by rfl) ?_; simp only [Act.put, List.setIfInBounds_toArray, List.set_cons_zero, List.set_cons_succ, List.getElem_toArray, List.getElem_cons_zero, List.getElem_cons_succ])
                | (refine Det.read (v := ?_) (by rfl) ?_ ?_; rotate_left; (· (intro wq hSq; skip; go_simp; try with_reducible rfl)); simp only [Act.put, List.setIfInBounds_toArray, List.set_cons_zero, List.set_cons_succ, List.getElem_toArray, List.getElem_cons_zero, List.getElem_cons_succ])
                | fail)
            refine Det.done fun wz hz => ?_
            all_goals go_wp2
            all_goals go_meet
            all_goals exact ⟨by simp [HQ3.out, HQ.out], hz⟩
        · have hq1 : ((bs (Lib.itoa n)).toList == (bs h').toList) = false := by rw [bs_beq]; simpa using hq
          have hq3 : ((bs (Lib.itoa n)).toList != (bs h').toList) = true := by rw [bne, hq1]; rfl
          have HQ := Lib.hid hq
          clear hq
          refine wp_region_det (S := Below w3.heap.size w3) (by kernel_rfl) (by kernel_rfl) ((Below.refl _ _).drew) ?_
          rw [List.toList_toArray]
          repeat (first
              | ((with_reducible show Det _ _ _ _ (Oper.mk _ (Op.call (Call.mk (Callee.value (Operand.func 28)) _ _)) _ _ _ _ :: _) _); refine Det.step (.string (bs (Lib.itoa n))) (by rfl) (fun wq hSq K hK => ?_) ?_; (· (go_simp; refine (itoa_any n _ (V3'.now hSq) hin).mono ?_; rintro e4 w4 ⟨rfl, hb4⟩; go_wp2_with fail; refine hK.out _ _ (hSq.trans (hb4.mono hSq.size)) ?_; rfl)); simp only [Act.put, List.setIfInBounds_toArray, List.set_cons_zero, List.set_cons_succ, List.getElem_toArray, List.getElem_cons_zero, List.getElem_cons_succ])
              | (refine Det.skip (by rfl) ?_; simp only [Act.put, List.setIfInBounds_toArray, List.set_cons_zero, List.set_cons_succ, List.getElem_toArray, List.getElem_cons_zero, List.getElem_cons_succ])
              | (refine Det.read (v := ?_) (by rfl) ?_ ?_; rotate_left; (· (intro wq hSq; skip; go_simp; try with_reducible rfl)); simp only [Act.put, List.setIfInBounds_toArray, List.set_cons_zero, List.set_cons_succ, List.getElem_toArray, List.getElem_cons_zero, List.getElem_cons_succ])
              | fail)
          refine Det.done fun wz hz => ?_
          all_goals go_wp2
          all_goals go_meet
          all_goals exact ⟨by simp [HQ.out], hz⟩
      case rest =>
        obtain ⟨rfl, hbc⟩ := hcut
        have H4 := Lib.hid (H3.out.now hbc)
        have T4 := Lib.hid (T3.out.trans (Turn.below (F := One b) hbc) (fun i hi => .inl hi))
        clear hbc H3 T3 V3 V3' hlt3 hx2 c0 c1 f0 f1
        have c0 := H4.out.c0
        have c1 := H4.out.c1
        have f0 := H4.out.free 0
        have f1 := H4.out.free 1
        by_cases hq : Lib.itoa n = h' ∧ least ≤ n
        · have e1 : (!(decide (Lib.itoa n = h') && decide (least ≤ n))) = false := by simp [hq.1, hq.2]
          rw [e1]
          have hD := HD.out
          simp only [hq, and_self, if_true] at hD
          have HD := Lib.hid hD
          have HQ := Lib.hid hq
          clear hD hq e1
          have hlen : at_ + 1 ≤ s.rest.length := by
            have h1 := hixl (by omega); have hh := HH.out; have : head.length ≤ s.rest.length := by rw [hh]; simp; omega
            omega
          have hlen0 : 0 ≤ at_ + 1 := by omega
          have hsl : (bs s.rest).size = s.rest.length := bs_size _
          have hbd := bs_drop s.rest (at_ + 1).toNat
          go_wp2_with fail
          go_ret
          have hD := HD.out
          rw [hD]
          have e2 : (at_ + 1).toNat = at_.toNat + 1 := by omega
          rw [e2]
          exact ⟨rfl, H4.out.set0 _, T4.out.set b 0 _ (.inl rfl)⟩
        · have e1 : (!(decide (Lib.itoa n = h') && decide (least ≤ n))) = true := by
            rcases Classical.not_and_iff_not_or_not.1 hq with h | h <;> simp [h]
          rw [e1]
          have hD := HD.out
          simp only [hq, if_false] at hD
          have HD := Lib.hid hD
          clear hD hq e1
          go_wp2_with fail
          refine (fail_any b s _ H4.out).mono ?_
          rintro x w5 ⟨rfl, hr5, ht5⟩
          go_wp2_with fail
          go_ret
          have hD := HD.out
          exact ⟨by rw [hD]; rfl, by rw [hD]; exact hr5, T4.out.trans ht5 (fun i hi => .inl hi)⟩
    · have hD : rNum e least s = (0, .fail) := by
        rw [HD.out]
        rcases hA2 : Lib.atoiAll h' with n | _ | _
        · exact absurd hA2 (hA n)
        · rfl
        · rfl
      have HD := Lib.hid hD
      clear hA hD
      go_wp2_with fail
      go_quiet (fail)
      have H4 := Lib.hid (show RdAt b s (w3.drewN nq) from H3.out)
      have T4 := Lib.hid (T3.out.drewN nq)
      clear H3 T3 V3 c0 c1 f0 f1
      generalize w3.drewN nq = w4 at *
      go_wp2_with fail
      refine (fail_any b s w4 H4.out).mono ?_
      rintro x w5 ⟨rfl, hr5, ht5⟩
      go_wp2_with fail
      go_ret
      have hD := HD.out
      exact ⟨by rw [hD]; rfl, by rw [hD]; exact hr5, T4.out.trans ht5 (fun i hi => .inl hi)⟩
end Go.Proofs.YtoibgenhbpppdaaDoor
