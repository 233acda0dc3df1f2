/- Contracts and plain laws, joined: JrA. -/
import Derived.Test.YtoicnokidlkjfaaGreatDoorQav
import Derived.Test.YtoicnokidlkjfaaGreatDoorQas
import Derived.Test.YtoicnokidlkjfaaGreatDoorQaz
/- Contracts of linguaref03: Sum, Form, Forms, Records. -/
namespace Go.Proofs.YtoicnokidlkjfaaGreatDoor
open Go.RowKit
set_option maxRecDepth 100000

set_option maxHeartbeats 1000000 in
theorem sSum_any (l : List UInt8) (w : World) (hl : l.length ≤ 1000000000) :
    Calls Tryz.prog 11 #[.string (bs l)] w fun e w' => e = .returned (.int .i64 (sumF l)) ∧ w = w' := by
  have hsz : (bs l).size = l.length := bs_size l
  go_enter Tryz.func11, Tryz.ntmps11
  go_wp2_with fail
  go_loop [3, 4] (fun n i => ∃ k : Nat, k ≤ l.length ∧ i = .int .i64 k ∧ n = .int .i64 (sumF (l.take k))) (fun _ i => l.length - (intOf i).toNat)
  case atStart => exact ⟨0, Nat.zero_le _, rfl, rfl⟩
  case round =>
    obtain ⟨k, hk, rfl, rfl⟩ := hrel
    have hs := sumF_in (l.take k)
    by_cases hlt : k < l.length
    · have HSt := Lib.hid (sumF_take l k hlt)
      have hget : ∀ h, (bs l)[k]'h = l[k]'hlt := fun h => rfl
      generalize l[k] = c at *
      have hc := c.toNat_lt
      have hp0 : (0 : Int) ≤ (c.toNat : Int) * ((k : Int) + 1) := Int.mul_nonneg (by omega) (by omega)
      have hp1 : (c.toNat : Int) * ((k : Int) + 1) ≤ 255 * 1000000001 := Int.mul_le_mul (by omega) (by omega) (by omega) (by omega)
      obtain ⟨hs0, hs1⟩ := hs
      generalize sumF (l.take k) = n at *
      go_wp2_with fail
      go_round
      case rel => exact ⟨k + 1, by omega, by go_num, by rw [HSt.out]⟩
      case measure => simp [intOf]; omega
    · have HE : Hid (l.take k = l) := Lib.hid (List.take_of_length_le (by omega))
      rw [HE.out] at hs ⊢
      go_wp2_with fail
      go_ret
      exact ⟨rfl, rfl⟩
theorem sForm_any (l : List UInt8) (w : World) (hl : l.length ≤ 1000000000) :
    Calls Tryz.prog 41 #[.string (bs l)] w fun e w' => e = .returned (.string (bs (formF l))) ∧ Below w.heap.size w w' := by
  have HF := Lib.hid (formF_num l)
  have hs := sumF_in l
  have hfl := formF_len l (by omega)
  have HD : Hid (formF l = encT l ++ encI (sumF l)) := Lib.hid rfl
  have hel : (encT l).length ≤ l.length + 60 := by
    have : (encT l).length ≤ (formF l).length := by simp [formF]
    omega
  have hen : (encI (sumF l)).length ≤ l.length + 60 := by
    have : (encI (sumF l)).length ≤ (formF l).length := by simp [formF]
    omega
  go_enter Tryz.func41, Tryz.ntmps41
  go_wp2_with fail
  refine (rText_any l w (by omega)).mono ?_
  rintro e w1 ⟨rfl, hb1⟩
  go_wp2_with fail
  refine (sSum_any l _ hl).mono ?_
  rintro e w2 ⟨rfl, rfl⟩
  go_wp2_with fail
  refine (rNum_any (sumF l) w1 ⟨by omega, by omega⟩).mono ?_
  rintro e w3 ⟨rfl, hb3⟩
  rw [HF.out]
  generalize encT l = x at *
  generalize encI (sumF l) = y at *
  go_wp2_with (first
    | ((with_reducible show wpList _ _ _ (Oper.mk _ (Op.binOp .add 9 _ _ _) _ _ _ _ :: _) _ _); refine wp_cat rfl rfl Tryz.underlying9 rfl rfl (by first | omega | (simp; done) | (simp; omega)) ?_)
    | fail)
  go_ret
  exact ⟨by rw [HD.out]; rfl, hb1.trans (hb3.mono hb1.size)⟩
set_option maxHeartbeats 2000000 in
theorem sForms_any (xs : List (List UInt8)) (A : Option Addr) (c : Nat) (w : World) (hr : RdL 1 strE w w.heap.size A xs) (hx : ∀ t ∈ xs, t.length ≤ 1000000000) (hn : xs.length ≤ 9223372036854775807) (hf : (formsF xs).length ≤ 1000000000) :
    Calls Tryz.prog 38 #[.slice A xs.length c] w fun e w' => e = .returned (.string (bs (formsF xs))) ∧ Below w.heap.size w w' := by
  have HR := Lib.hid hr
  have HX := Lib.hid hx
  clear hr hx
  go_enter Tryz.func38, Tryz.ntmps38
  go_wp2_with fail
  go_loopw [3, 4] (fun s i wr => ∃ k : Nat, k ≤ xs.length ∧ i = .int .i64 k ∧ s = .string (bs (formsF (xs.take k))) ∧ Below w.heap.size w wr) (fun _ i _ => xs.length - (intOf i).toNat)
  case atStart => exact ⟨0, Nat.zero_le _, rfl, rfl, Below.refl _ _⟩
  case round =>
    obtain ⟨k, hk, rfl, rfl, hb⟩ := hrel
    have HB := Lib.hid hb
    clear hb
    by_cases hlt : k < xs.length
    · obtain ⟨b, off, hA, c0⟩ := rd_str (HR.out.now HB.out) hlt
      subst hA
      have hs := HX.out xs[k] (List.getElem_mem hlt)
      have hi0 : (0 : Int) ≤ (k : Int) := by omega
      have hi1 : (k : Int) < (xs.length : Int) := by omega
      have HSu := Lib.hid (formsF_take xs k hlt)
      have h1 := (formsF_mono (l := xs) (a := k) (b := xs.length) (by omega)).length_le
      rw [List.take_length] at h1
      have hfl := formF_len xs[k] (by omega)
      generalize xs[k] = t at *
      generalize formsF (xs.take k) = y at *
      go_wp2_with fail
      refine (sForm_any t wr hs).mono ?_
      rintro e w1 ⟨rfl, hb1⟩
      have HB1 := Lib.hid (HB.out.trans (hb1.mono HB.out.size))
      clear hb1
      generalize formF t = x at *
      go_wp2_with (first
        | ((with_reducible show wpList _ _ _ (Oper.mk _ (Op.binOp .add 9 _ _ _) _ _ _ _ :: _) _ _); refine wp_cat rfl rfl Tryz.underlying9 rfl rfl (by first | omega | (simp; done) | (simp; omega)) ?_)
        | fail)
      go_roundw
      case rel => exact ⟨k + 1, by omega, by go_num, by rw [HSu.out], HB1.out⟩
      case measure => simp [intOf]; omega
    · have HE : Hid (xs.take k = xs) := Lib.hid (List.take_of_length_le (by omega))
      rw [HE.out]
      go_wp2_with fail
      go_ret
      exact ⟨rfl, HB.out⟩
theorem next_is {s u : List UInt8} (h : nextJ s = some u) : u = (rText ⟨s, false⟩).1 := by
  unfold nextJ at h
  split at h
  · injection h with h
    exact h.symm
  · cases h
set_option maxHeartbeats 4000000 in
theorem sRecords_any (s : List UInt8) (w : World) (hl : s.length ≤ 1000000000) :
    Calls Tryz.prog 37 #[.string (bs s)] w fun x w' => ∃ A c, x = .returned (.slice A (recs s).length c) ∧ OwnL w' w.heap.size 9 1 strE A c (recs s) ∧ Below w.heap.size w w' := by
  go_enter Tryz.func37, Tryz.ntmps37
  go_wp2_with fail
  refine (qOpen_any s w).mono ?_
  rintro e w1 ⟨rfl, hr1, hb1⟩
  obtain ⟨b, hbe⟩ : ∃ b, b = w.heap.size := ⟨_, rfl⟩
  rw [← hbe] at hr1 ⊢
  have HBe := Lib.hid hbe
  have HR1 := Lib.hid hr1
  have HB1 := Lib.hid hb1
  clear hbe hr1 hb1
  go_wp2_with fail
  go_loopw [3] (fun o wr => ∃ (out : List (List UInt8)) (A : Option Addr) (c : Nat), o = .slice A out.length c ∧ RdW s w wr out A c ∧ RqAt b ⟨s.drop (formsF out).length, false⟩ wr ∧ (∀ i, slBlk A = some i → i ≠ b)) (fun o _ => s.length - (match o with | .slice _ k _ => k | _ => 0))
  case atStart => exact ⟨[], none, 0, rfl, ⟨by simp [formsF], by simp [formsF], HB1.out, OwnL.nil_⟩, by simpa [formsF] using HR1.out, fun _ h => nomatch h⟩
  case round =>
    obtain ⟨out, A, c, rfl, hrw, hrd, hne⟩ := hrel
    have HW := Lib.hid hrw
    have HNe := Lib.hid hne
    obtain ⟨hb, hol⟩ := hrw.len
    have HN := Lib.hid (fun t h => hrw.next (t := t) h)
    have HRc := Lib.hid hrw.rc
    have HSn := Lib.hid (formsF_snoc out)
    obtain ⟨rest, hrest⟩ : ∃ r, r = s.drop (formsF out).length := ⟨_, rfl⟩
    have hrl2 : rest.length + (formsF out).length = s.length := by rw [hrest, List.length_drop]; omega
    rw [← hrest] at HRc HN hrd
    have HRd := Lib.hid hrd
    have HRest := Lib.hid hrest
    clear hrw hrest hrd hne
    generalize hbn : (formsF out).length = bn at *
    have HBn := Lib.hid hbn
    clear hbn
    have HStop : Hid (nextJ rest = none → out = recs s) := Lib.hid (fun h => by
      have := HRc.out
      rwa [recs_none h, List.append_nil] at this)
    go_wp2_with fail
    refine (qLeft_any b ⟨rest, false⟩ wr HRd.out).mono ?_
    rintro e wx ⟨rfl, hw⟩
    obtain rfl := hw
    simp only
    generalize hrn : rest.length = rl at *
    have HRn := Lib.hid hrn
    clear hrn
    by_cases hz : rl = 0
    · have d2 : decide (0 < rl) = false := by simp; omega
      have HE := Lib.hid (HStop.out (by rw [List.eq_nil_of_length_eq_zero (HRn.out.trans hz)]; exact nextJ_nil))
      clear hz
      go_wp2_with fail
      go_ret
      exact ⟨A, c, by rw [← HE.out]; rfl, by rw [← HE.out]; exact HW.out.own, HW.out.b⟩
    have d2 : decide (0 < rl) = true := by simp; omega
    go_wp2_with fail
    refine (qText_any b ⟨rest, false⟩ wr (fun h => nomatch h) HRd.out (by have := HRn.out; simp only; omega)).mono ?_
    rintro e w7 ⟨rfl, hr7, ht7⟩
    have HW7 := Lib.hid (HW.out.turn ht7 (by rw [HBe.out]; exact Nat.le_refl _) HNe.out)
    have HR7 := Lib.hid hr7
    have HTs := Lib.hid (text_small ⟨rest, false⟩)
    have HTr := Lib.hid (rText_rest ⟨rest, false⟩)
    have HRef := Lib.hid (nextRef rest)
    have HNi := Lib.hid (fun u h => next_is (s := rest) (u := u) h)
    clear hr7 ht7
    generalize htr : rText ⟨rest, false⟩ = tr at *
    obtain ⟨t, r2⟩ := tr
    have htl : t.length ≤ rl := by have := HRn.out; have : t.length ≤ rest.length := HTs.out; omega
    have hr2l : r2.rest.length ≤ rl := by have := HRn.out; have : r2.rest.length ≤ rest.length := HTr.out; omega
    clear htr HTs HTr
    simp only at HR7 HRef HNi ⊢
    go_wp2_with fail
    refine (qNum_any b r2 w7 HR7.out (by omega)).mono ?_
    rintro e w8 ⟨rfl, hr8, ht8⟩
    have HW8 := Lib.hid (HW7.out.turn ht8 (by rw [HBe.out]; exact Nat.le_refl _) HNe.out)
    have HR8 := Lib.hid hr8
    clear hr8 ht8
    generalize hnn : rNum 59 0 r2 = nr at *
    obtain ⟨n, r3⟩ := nr
    clear hnn
    simp only at HR8 HRef ⊢
    have c1 := HR8.out.c1
    have HStop2 : Hid (¬ (r3.bad = false ∧ t.length ≤ 20000 ∧ n = sumF t) → out = recs s) := Lib.hid (fun h => HStop.out (by
      cases hx : nextJ rest with
      | none => rfl
      | some u =>
        exfalso
        have hu := HNi.out u hx
        rw [hu] at hx
        exact h (HRef.out.1.2 hx)))
    have hts : (bs t).size = t.length := bs_size t
    cases hbad : r3.bad with
    | true =>
      have HE := Lib.hid (HStop2.out (by rw [hbad]; simp))
      rw [hbad] at c1
      clear hbad HStop2
      go_wp2_with fail
      go_ret
      exact ⟨A, c, by rw [← HE.out]; rfl, by rw [← HE.out]; exact HW8.out.own, HW8.out.b⟩
    | false =>
    rw [hbad] at c1
    have HBad := Lib.hid hbad
    clear hbad
    by_cases g1 : 20000 < t.length
    · have d3 : decide (20000 < t.length) = true := by simp; omega
      have d3' : decide ((20000 : Int) < t.length) = true := by simp; omega
      have HE := Lib.hid (HStop2.out (fun h => by omega))
      clear g1 HStop2
      go_wp2_with fail
      go_ret
      exact ⟨A, c, by rw [← HE.out]; rfl, by rw [← HE.out]; exact HW8.out.own, HW8.out.b⟩
    have d3 : decide (20000 < t.length) = false := by simp; omega
    have d3' : decide ((20000 : Int) < t.length) = false := by simp; omega
    go_wp2_with fail
    refine (sSum_any t w8 (by omega)).mono ?_
    rintro e wx ⟨rfl, hw⟩
    obtain rfl := hw
    by_cases g2 : n = sumF t
    rotate_left
    · have d4 : (n != sumF t) = true := by simpa using g2
      have HE := Lib.hid (HStop2.out (fun h => g2 h.2.2))
      clear g2 HStop2
      go_wp2_with fail
      go_ret
      exact ⟨A, c, by rw [← HE.out]; rfl, by rw [← HE.out]; exact HW8.out.own, HW8.out.b⟩
    have d4 : (n != sumF t) = false := by simpa using g2
    have HNx := Lib.hid (HN.out t (HRef.out.1.1 ⟨HBad.out, by omega, g2⟩))
    have HR3 := Lib.hid (HRef.out.2 HBad.out (by omega) g2)
    have HLn : Hid ((formsF (out ++ [t])).length = bn + (formF t).length) := Lib.hid (by rw [HSn.out, List.length_append, HBn.out])
    clear g2 HStop2
    go_wp2_with (first
      | (at_builtin; refine wp_append_l rfl (.tmp 32) (.tmp 34) rfl slStrJ strLayJ w.heap.size (xs := out) (ys := [t]) rfl rfl (HW8.out.own.alloc _) rfl rfl (RdL.one w8 t _ _ rfl _ rfl) (by simp; omega) (by have := HW8.out.b.size; simp; omega) ?_; intro A7 c7 w11 hown7 hg7 hb7 hat7; have HO7 := Lib.hid hown7; have HG7 := Lib.hid hg7; have HB7 := Lib.hid ((HW8.out.b.alloc HW8.out.b.size _).trans hb7); have HA7 := Lib.hid hat7; clear hown7 hg7 hb7 hat7)
      | fail)
    have HD : Hid (s.drop (formsF (out ++ [t])).length = rest.drop (formF t).length) := Lib.hid (by rw [HLn.out, HRest.out, List.drop_drop])
    have hlt := HR8.out.lt
    have HR11 : Hid (RqAt b r3 w11) := Lib.hid (((HG7.out.block b (by simp; omega) (fun e => by rw [own_blk] at e; exact HNe.out b e.symm rfl)).trans (Below.heap_alloc w8 _ b hlt)).trans HR8.out)
    have HNe7 : Hid (∀ i, slBlk A7 = some i → i ≠ b) := Lib.hid (fun i hi e => by
      have h := HA7.out
      rw [own_blk, own_blk, hi] at h
      rcases h with h | h
      · exact HNe.out i h.symm e
      · have := Option.some.inj h
        simp at this
        omega)
    go_roundw
    case rel => exact ⟨out ++ [t], A7, c7, by simp, ⟨HNx.out.1, HNx.out.2, HB7.out, HO7.out⟩, by rw [HD.out, ← HR3.out]; exact HR11.out, HNe7.out⟩
    case measure => simp; omega
end Go.Proofs.YtoicnokidlkjfaaGreatDoor
