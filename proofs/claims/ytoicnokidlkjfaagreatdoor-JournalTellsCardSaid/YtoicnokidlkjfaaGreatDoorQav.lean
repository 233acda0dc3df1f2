/- Contracts and plain laws, joined: JnH. -/
import Derived.Test.YtoicnokidlkjfaaGreatDoorQas
import Derived.WalkMore
/- Contracts of package journal: Sum, form, read. -/
namespace Go.Proofs.YtoicnokidlkjfaaGreatDoor
open Go.RowKit

set_option maxRecDepth 100000 in
set_option maxHeartbeats 1000000 in
theorem jSum_any (l : List UInt8) (w : World) (hl : l.length ≤ 1000000000) :
    Calls Tryz.prog 10 #[.string (bs l)] w fun e w' => e = .returned (.int .i64 (sumF l)) ∧ w = w' := by
  have hsz : (bs l).size = l.length := bs_size l
  go_enter Tryz.func10, Tryz.ntmps10
  go_wp2_with fail
  go_loop [3, 7] (fun n i => ∃ k : Nat, k ≤ l.length ∧ i = .int .i64 k ∧ n = .int .i64 (sumF (l.take k))) (fun _ i => l.length - (intOf i).toNat)
  case atStart => exact ⟨0, Nat.zero_le _, rfl, rfl⟩
  case round =>
    obtain ⟨k, hk, rfl, rfl⟩ := hrel
    have hs := sumF_in (l.take k)
    by_cases hlt : k < l.length
    · have HSt := Lib.hid (sumF_take l k hlt)
      have hget : ∀ h, (bs l)[k]'h = l[k]'hlt := fun h => rfl
      generalize l[k] = c at *
      have hc := c.toNat_lt
      have hp0 : (0 : Int) ≤ (c.toNat : Int) * ((k : Int) + 1) := Int.mul_nonneg (by omega) (by omega)
      have hp1 : (c.toNat : Int) * ((k : Int) + 1) ≤ 255 * 1000000001 := Int.mul_le_mul (by omega) (by omega) (by omega) (by omega)
      obtain ⟨hs0, hs1⟩ := hs
      generalize sumF (l.take k) = n at *
      go_wp2_with fail
      go_round
      case rel => exact ⟨k + 1, by omega, by go_num, by rw [HSt.out]⟩
      case measure => simp [intOf]; omega
    · have HE : Hid (l.take k = l) := Lib.hid (List.take_of_length_le (by omega))
      rw [HE.out] at hs ⊢
      go_wp2_with fail
      go_ret
      exact ⟨rfl, rfl⟩
theorem jForm_any {B : Nat} (l : List UInt8) (w : World) (hV : Vs B w) (hl : l.length ≤ 1000000000) :
    Calls Tryz.prog 40 #[.string (bs l)] w fun e w' => e = .returned (.string (bs (formF l))) ∧ Below w.heap.size w w' := by
  have HF := Lib.hid (formF_num l)
  have hs := sumF_in l
  have hfl := formF_len l (by omega)
  have HD : Hid (formF l = encT l ++ encI (sumF l)) := Lib.hid rfl
  have hel : (encT l).length ≤ l.length + 60 := by
    have : (encT l).length ≤ (formF l).length := by simp [formF]
    omega
  have hen : (encI (sumF l)).length ≤ l.length + 60 := by
    have : (encI (sumF l)).length ≤ (formF l).length := by simp [formF]
    omega
  go_enter Tryz.func40, Tryz.ntmps40
  go_wp2_with fail
  refine (wText_any l w hV (by omega)).mono ?_
  rintro e w1 ⟨rfl, hb1⟩
  go_wp2_with fail
  refine (jSum_any l _ hl).mono ?_
  rintro e w2 ⟨rfl, rfl⟩
  go_wp2_with fail
  refine (wNum_any (sumF l) w1 (hV.now hb1) ⟨by omega, by omega⟩).mono ?_
  rintro e w3 ⟨rfl, hb3⟩
  rw [HF.out]
  generalize encT l = x at *
  generalize encI (sumF l) = y at *
  go_wp2_with (first
    | ((with_reducible show wpList _ _ _ (Oper.mk _ (Op.binOp .add 9 _ _ _) _ _ _ _ :: _) _ _); refine wp_cat rfl rfl Tryz.underlying9 rfl rfl (by first | omega | (simp; done) | (simp; omega)) ?_)
    | fail)
  go_ret
  exact ⟨by rw [HD.out]; rfl, hb1.trans (hb3.mono hb1.size)⟩
theorem slStrJ : SlTy Tryz.prog 46 9 1 16 := by
  obtain ⟨i, hi, h0, h1, h2⟩ := info_parts (show (Tryz.prog.info? 9).map (fun i => (i.zero, i.size, i.bytes)) = some (some (.string ByteArray.empty), 1, 16) by kernel_rfl)
  exact ⟨Tryz.underlying46, ⟨i, _, hi, h0, h1, h2, rfl⟩, by decide, by decide⟩
theorem strLayJ : Lay 1 strE := ⟨fun _ => rfl, fun x u hu => by simp only [strE, List.mem_singleton] at hu; subst hu; rfl⟩
/-- The tests of read, one behind the other. -/
theorem nextJ_tests (s : List UInt8) : nextJ s = if 20000 < (rText ⟨s, false⟩).1.length then none else if (rNum 59 0 (rText ⟨s, false⟩).2).1 ≠ sumF (rText ⟨s, false⟩).1 then none else
    if s.length < (formF (rText ⟨s, false⟩).1).length then none else if s.take (formF (rText ⟨s, false⟩).1).length ≠ formF (rText ⟨s, false⟩).1 then none else some (rText ⟨s, false⟩).1 := by
  unfold nextJ
  by_cases h1 : 20000 < (rText ⟨s, false⟩).1.length
  · rw [if_neg (by omega), if_pos h1]
  · rw [if_neg h1]
    by_cases h2 : (rNum 59 0 (rText ⟨s, false⟩).2).1 ≠ sumF (rText ⟨s, false⟩).1
    · rw [if_neg (fun h => h2 h.2.1), if_pos h2]
    · rw [if_neg h2]
      by_cases h3 : s.length < (formF (rText ⟨s, false⟩).1).length
      · rw [if_neg (fun h => by have := h.2.2.length_le; omega), if_pos h3]
      · rw [if_neg h3]
        by_cases h4 : s.take (formF (rText ⟨s, false⟩).1).length ≠ formF (rText ⟨s, false⟩).1
        · rw [if_neg (fun h => h4 (List.prefix_iff_eq_take.1 h.2.2).symm), if_pos h4]
        · rw [if_neg h4, if_pos ⟨by omega, Classical.not_not.1 h2, List.prefix_iff_eq_take.2 (Classical.not_not.1 h4).symm⟩]
/-- What stands between two rounds of read. -/
structure RdW (s : List UInt8) (w wr : World) (out : List (List UInt8)) (A : Option Addr) (c : Nat) : Prop where
  eq : formsF out ++ s.drop (formsF out).length = s
  rc : out ++ recs (s.drop (formsF out).length) = recs s
  b : Below w.heap.size w wr
  own : OwnL wr w.heap.size 9 1 strE A c out
theorem RdW.len {s : List UInt8} {w wr : World} {out : List (List UInt8)} {A : Option Addr} {c : Nat} (h : RdW s w wr out A c) : (formsF out).length ≤ s.length ∧ out.length ≤ (formsF out).length := by
  refine ⟨?_, enc_len formF formF_pos out⟩
  have := congrArg List.length h.eq
  rw [List.length_append] at this
  omega
theorem RdW.next {s : List UInt8} {w wr : World} {out : List (List UInt8)} {A : Option Addr} {c : Nat} (h : RdW s w wr out A c) {t : List UInt8} (hn : nextJ (s.drop (formsF out).length) = some t) :
    formsF (out ++ [t]) ++ s.drop (formsF (out ++ [t])).length = s ∧ (out ++ [t]) ++ recs (s.drop (formsF (out ++ [t])).length) = recs s := by
  obtain ⟨_, tl, ht⟩ := (nextJ_iff _ _).1 hn
  have e : (formsF (out ++ [t])).length = (formsF out).length + (formF t).length := by rw [formsF_snoc, List.length_append]
  have e2 : s.drop (formsF (out ++ [t])).length = tl := by
    rw [e, ← List.drop_drop, ← ht, List.drop_left]
  rw [e2]
  constructor
  · rw [formsF_snoc, List.append_assoc, ht]
    exact h.eq
  · rw [← h.rc, recs_some hn, ← ht, List.drop_left]
    simp
theorem RdW.on {s : List UInt8} {w wr wx : World} {out : List (List UInt8)} {A : Option Addr} {c : Nat} (h : RdW s w wr out A c) (hb : Below wr.heap.size wr wx) : RdW s w wx out A c :=
  ⟨h.eq, h.rc, h.b.trans (hb.mono h.b.size), h.own.below hb⟩
theorem RdW.turn {s : List UInt8} {w wr wx : World} {out : List (List UInt8)} {A : Option Addr} {c b : Nat} (h : RdW s w wr out A c) (t : Turn (One b) wr wx) (hb : w.heap.size ≤ b) (hA : ∀ i, slBlk A = some i → i ≠ b) : RdW s w wx out A c :=
  ⟨h.eq, h.rc, h.b.trans (turn_below t h.b.size hb), h.own.turn (fun i hi hl => t.block i hl (hA i hi))⟩
set_option maxRecDepth 100000 in
set_option maxHeartbeats 4000000 in
theorem jRead_any {B : Nat} (s : List UInt8) (w : World) (hV : Vs B w) (hl : s.length ≤ 1000000000) :
    Calls Tryz.prog 34 #[.string (bs s)] w fun x w' => ∃ A c, x = .returned (.tuple #[.slice A (recs s).length c, .int .i64 (formsF (recs s)).length]) ∧ OwnL w' w.heap.size 9 1 strE A c (recs s) ∧ Below w.heap.size w w' := by
  have HV := Lib.hid hV
  have hsz : (bs s).size = s.length := bs_size s
  clear hV
  go_enter Tryz.func34, Tryz.ntmps34
  go_wp2
  go_step3
  go_wp2
  go_step3
  go_wp2
  go_loopw [4, 5] (fun o b wr => ∃ (out : List (List UInt8)) (A : Option Addr) (c : Nat), o = .slice A out.length c ∧ b = .int .i64 (formsF out).length ∧ RdW s w wr out A c) (fun _ b _ => s.length - (intOf b).toNat)
  case atStart => exact ⟨[], none, 0, rfl, rfl, by simp [formsF], by simp [formsF], Below.refl _ _, OwnL.nil_⟩
  case round =>
    obtain ⟨out, A, c, rfl, rfl, hrw⟩ := hrel
    have HW := Lib.hid hrw
    have hlen := hrw.len
    obtain ⟨hb, hol⟩ := hlen
    have HN := Lib.hid (fun t h => hrw.next (t := t) h)
    have hx := bs_drop s (formsF out).length
    have HRc := Lib.hid hrw.rc
    have HSn := Lib.hid (formsF_snoc out)
    obtain ⟨rest, hrest⟩ : ∃ r, r = s.drop (formsF out).length := ⟨_, rfl⟩
    have hrl : rest.length + (formsF out).length = s.length := by rw [hrest, List.length_drop]; omega
    have hxt : ∀ m, (bs s).extract (formsF out).length ((formsF out).length + m) = bs (rest.take m) := fun m => by
      rw [bs_extract, hrest, List.drop_take]
      congr 2
      omega
    rw [← hrest] at hx HRc HN
    have HNt := Lib.hid (nextJ_tests rest)
    have HXt := Lib.hid hxt
    have HRest := Lib.hid hrest
    clear hrw hxt hrest
    generalize hbn : (formsF out).length = bn at *
    have HBn := Lib.hid hbn
    clear hbn
    by_cases hlt : bn < s.length
    · have hb0 := HW.out.b
      go_wp2_with fail
      refine (open_any rest _).mono ?_
      rintro e w1 ⟨rfl, hr1, hb1⟩
      obtain ⟨b1, hb1e⟩ : ∃ b, b = wr.heap.size := ⟨_, rfl⟩
      have HNe : Hid (∀ i, slBlk A = some i → i ≠ b1) := Lib.hid (fun i hi e => by have := (HW.out.own.blk_lt hi).2; omega)
      have HLo : Hid (w.heap.size ≤ b1) := Lib.hid (by rw [hb1e]; exact hb0.size)
      have HV1 := Lib.hid (HV.out.on ((hb0.trans (hb1.mono hb0.size)).mono HV.out.le))
      have HVl := Lib.hid (Nat.le_trans HV.out.le HLo.out)
      have HW1 := Lib.hid (HW.out.on hb1)
      rw [← hb1e] at hr1 ⊢
      have HR1 := Lib.hid hr1
      clear hb1e hr1 hb1 hb0
      go_wp2_with fail
      refine (rdText_any b1 ⟨rest, false⟩ w1 HV1.out HVl.out HR1.out (by simp only; omega)).mono ?_
      rintro e w2 ⟨rfl, hr2, ht2⟩
      have HW2 := Lib.hid (HW1.out.turn ht2 HLo.out HNe.out)
      have HR2 := Lib.hid hr2
      have HTs := Lib.hid (text_small ⟨rest, false⟩)
      have HTr := Lib.hid (rText_rest ⟨rest, false⟩)
      clear hr2 ht2 HW1 HR1 HV1
      generalize rText ⟨rest, false⟩ = tr at *
      obtain ⟨t, r2⟩ := tr
      have htl : t.length ≤ rest.length := HTs.out
      have hrl2 : r2.rest.length ≤ rest.length := HTr.out
      have HV2 := Lib.hid (HV.out.on (HW2.out.b.mono HV.out.le))
      clear HTs HTr
      simp only at HNt HR2 ⊢
      go_wp2_with fail
      refine (rdNum_any b1 r2 w2 HV2.out HVl.out HR2.out (by omega)).mono ?_
      rintro e w3 ⟨rfl, hr3, ht3⟩
      have HW3 := Lib.hid (HW2.out.turn ht3 HLo.out HNe.out)
      clear hr3 ht3 HW2 HR2 HV2
      generalize (rNum 59 0 r2).1 = n at *
      have HV3 := Lib.hid (HV.out.on (HW3.out.b.mono HV.out.le))
      go_wp2_with fail
      refine (jForm_any t w3 HV3.out (by omega)).mono ?_
      rintro e w4 ⟨rfl, hb4⟩
      have HW4 := Lib.hid (HW3.out.on hb4)
      clear hb4 HW3 HV3
      have hts : (bs t).size = t.length := bs_size t
      have hfs : (bs (formF t)).size = (formF t).length := bs_size _
      have hfle := formF_len t (by omega)
      have HFp := Lib.hid (formF_pos t)
      have HSm := Lib.hid (sumF_in t)
      generalize hft : formF t = ft at *
      have HFt := Lib.hid hft
      clear hft
      have HStop : Hid (nextJ rest = none → out = recs s) := Lib.hid (fun h => by
        have := HRc.out
        rwa [recs_none h, List.append_nil] at this)
      by_cases g1 : 20000 < t.length
      · rw [if_pos g1] at HNt
        have d1 : decide ((20000 : Int) < t.length) = true := by simp; omega
        clear g1
        go_wp2_with fail
        rw [Exit.noGoto_ret]
        go_ret2
        exact ⟨A, c, by rw [← HStop.out HNt.out, HBn.out]; rfl, by rw [← HStop.out HNt.out]; exact HW4.out.own, HW4.out.b⟩
      rw [if_neg g1] at HNt
      have d1 : decide ((20000 : Int) < t.length) = false := by simp; omega
      go_wp2_with fail
      refine (jSum_any t _ (by omega)).mono ?_
      rintro e w5 ⟨rfl, rfl⟩
      by_cases g2 : n = sumF t
      rotate_left
      · rw [if_pos g2] at HNt
        have d2 : (n == sumF t) = false := by simpa using g2
        clear g2
        go_wp2_with fail
        rw [Exit.noGoto_ret]
        go_ret2
        exact ⟨A, c, by rw [← HStop.out HNt.out, HBn.out]; rfl, by rw [← HStop.out HNt.out]; exact HW4.out.own, HW4.out.b⟩
      rw [if_neg (by simpa using g2)] at HNt
      have d2 : (n == sumF t) = true := by simpa using g2
      clear g2
      by_cases g3 : rest.length < ft.length
      · rw [if_pos g3] at HNt
        have d3 : decide ((s.length : Int) - (bn : Int) < (ft.length : Int)) = true := by simp; omega
        go_wp2_with fail
        rw [Exit.noGoto_ret]
        go_ret2
        exact ⟨A, c, by rw [← HStop.out HNt.out, HBn.out]; rfl, by rw [← HStop.out HNt.out]; exact HW4.out.own, HW4.out.b⟩
      rw [if_neg g3] at HNt
      have d3 : decide ((s.length : Int) - (bn : Int) < (ft.length : Int)) = false := by simp; omega
      have hx2 := HXt.out ft.length
      by_cases g4 : rest.take ft.length = ft
      rotate_left
      · rw [if_pos g4] at HNt
        have d4 : ((bs (rest.take ft.length)).toList == (bs ft).toList) = false := by rw [bs_beq]; simpa using g4
        clear g4
        go_wp2_with fail
        rw [Exit.noGoto_ret]
        go_ret2
        exact ⟨A, c, by rw [← HStop.out HNt.out, HBn.out]; rfl, by rw [← HStop.out HNt.out]; exact HW4.out.own, HW4.out.b⟩
      rw [if_neg (by simpa using g4)] at HNt
      have d4 : ((bs (rest.take ft.length)).toList == (bs ft).toList) = true := by rw [bs_beq]; simpa using g4
      have HNx := Lib.hid (HN.out t HNt.out)
      have HLn : Hid ((formsF (out ++ [t])).length = bn + ft.length) := Lib.hid (by rw [HSn.out, List.length_append, HFt.out, HBn.out])
      have HFp2 := HFp.out
      clear g4
      go_wp2_with (first
        | (at_builtin; refine wp_append_l rfl (.tmp 48) (.tmp 50) rfl slStrJ strLayJ w.heap.size (xs := out) (ys := [t]) rfl rfl (HW4.out.own.alloc _) rfl rfl (RdL.one w4 t _ _ rfl _ rfl) (by simp; omega) (by have := HW4.out.b.size; simp; omega) ?_; intro A7 c7 w7 hown7 hg7 hb7 hat7; have HO7 := Lib.hid hown7; have HB7 := Lib.hid ((HW4.out.b.alloc HW4.out.b.size _).trans hb7); clear hown7 hg7 hb7 hat7)
        | fail)
      go_roundw
      case rel => exact ⟨out ++ [t], A7, c7, by simp, by rw [HLn.out]; go_num, HNx.out.1, HNx.out.2, HB7.out, HO7.out⟩
      case measure => simp [intOf]; omega
    · have hrn : rest = [] := List.eq_nil_of_length_eq_zero (by omega)
      have HE : Hid (out = recs s) := Lib.hid (by
        have := HRc.out
        rwa [hrn, recs_none nextJ_nil, List.append_nil] at this)
      clear hrn
      go_wp2_with fail
      rw [Exit.noGoto_ret]
      go_ret2
      exact ⟨A, c, by rw [← HE.out, HBn.out]; rfl, by rw [← HE.out]; exact HW.out.own, HW.out.b⟩
end Go.Proofs.YtoicnokidlkjfaaGreatDoor
