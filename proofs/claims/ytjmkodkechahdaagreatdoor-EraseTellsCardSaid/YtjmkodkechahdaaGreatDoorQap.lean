/- Contracts and plain laws, joined: WrD. -/
import Derived.Test.YtjmkodkechahdaaGreatDoorQam
import Derived.Laws.IdiomStrings
/- Contracts of linguaref01: the writers. -/
set_option linter.unusedSimpArgs false
set_option linter.unusedVariables false
namespace Go.Proofs.YtjmkodkechahdaaGreatDoor
open Go.RowKit

theorem digits_small {u : Nat} (h : u < 10) : Lib.decDigits u = [UInt8.ofNat (48 + u)] := by rw [Lib.decDigits, dif_pos h]
theorem digits_big {u : Nat} (h : ¬ u < 10) : Lib.decDigits u = Lib.decDigits (u / 10) ++ [UInt8.ofNat (48 + u % 10)] := by rw [Lib.decDigits, dif_neg h]
set_option maxRecDepth 100000 in
theorem rDigits_any {B : Nat} : ∀ (u : Nat) (n : Int) (w : World), n.natAbs = u → n ≤ 0 → -9223372036854775808 ≤ n →
    Calls Tryz.prog 92 #[.int .i64 n] w fun e w' => e = .returned (.string (bs (Lib.decDigits u))) ∧ Below w.heap.size w w' := by
  intro u
  induction u using Nat.strongRecOn with
  | _ u ih =>
    intro n w hu h0 hm
    have hlen : ∀ m : Nat, m ≤ 9223372036854775808 → (Lib.decDigits m).length ≤ 21 := fun m hm => by
      have := Lib.itoa_length_le (-(m : Int)) (by omega) (by omega)
      by_cases h : 1 ≤ m
      · rw [Lib.itoa_neg m h] at this; simp at this; omega
      · have : m = 0 := by omega
        subst this; simp [digits_small]
    have hnu : n = -(u : Int) := by omega
    have hmod : n.tmod 10 = -((u % 10 : Nat) : Int) := by
      rw [hnu, Int.neg_tmod, Int.tmod_eq_emod_of_nonneg (by omega)]; omega
    have hq : n.tdiv 10 = -((u / 10 : Nat) : Int) := by
      rw [hnu, Int.neg_tdiv, Int.tdiv_eq_ediv_of_nonneg (by omega)]; omega
    obtain ⟨d, hd⟩ : ∃ d, d = UInt8.ofNat (48 + u % 10) := ⟨_, rfl⟩
    have hwr : wrap64 (48 - n.tmod 10) % 256 = (d.toNat : Int) := by
      rw [hmod, hd]
      have h1 : (UInt8.ofNat (48 + u % 10)).toNat = 48 + u % 10 := by
        simp [UInt8.toNat_ofNat]; omega
      rw [h1]
      unfold wrap64; omega
    have HSm : Hid (u < 10 → Lib.decDigits u = [d]) := Lib.hid fun h => by rw [digits_small h, hd, show u % 10 = u by omega]
    have HBg : Hid (¬ u < 10 → Lib.decDigits u = Lib.decDigits (u / 10) ++ [d]) := Lib.hid fun h => by rw [digits_big h, hd]
    have HQ := Lib.hid hq
    clear hmod hq hnu hd
    go_enter Tryz.func92, Tryz.ntmps92
    go_wp2_with fail
    rw [hwr]
    have hbw : Below w.heap.size w (w.alloc (.cells #[.int .u8 d.toNat] 5)) := (Below.refl _ _).alloc (Nat.le_refl _) _
    have hc1 : (w.alloc (.cells #[.int .u8 d.toNat] 5)).cell? ⟨w.heap.size, 0, none⟩ = some (.int .u8 d.toNat) := cell_new1 w _ _ _ rfl
    obtain ⟨w1, hw1⟩ : ∃ x, x = w.alloc (.cells #[.int .u8 d.toNat] 5) := ⟨_, rfl⟩
    rw [← hw1] at hbw hc1 ⊢
    clear hw1 hwr
    have hcv := run_convert_bytes_back (P := Tryz.prog) w1 117 9 5 ⟨w.heap.size, 0, none⟩ 1 [d] Tryz.underlying117 Tryz.underlying5 Tryz.underlying9 (fun j hj => by
      have : j = 0 := by simpa using hj
      subst this
      exact hc1)
    rw [show ([d].length) = 1 from rfl, show (⟨[d].toArray⟩ : ByteArray) = bs [d] from rfl] at hcv
    rw [hcv]
    clear hcv hc1
    simp only [Result.andThen]
    rw [Oper.upon_value]
    by_cases hs : u < 10
    · clear HQ
      have hc : ¬ n ≤ -10 := by omega
      have hlt : -10 < n := by omega
      go_wp2_with fail
      go_ret
      exact ⟨by rw [HSm.out hs]; rfl, hbw⟩
    · have hc : ¬ -10 < n := by omega
      have hl := hlen (u / 10) (by omega)
      go_wp2_with fail
      rw [HQ.out]
      refine (ih (u / 10) (by omega) _ w1 (by omega) (by omega) (by omega)).mono ?_
      rintro e w2 ⟨rfl, hb2⟩
      go_wp2_with (first
          | ((with_reducible show wpList _ _ _ (Oper.mk _ (Op.binOp .add 9 _ _ _) _ _ _ _ :: _) _ _); refine wp_cat rfl rfl Tryz.underlying9 rfl rfl (by first | omega | (simp; done) | (simp; omega)) ?_)
          | fail)
      go_ret
      exact ⟨by rw [HBg.out hs]; rfl, hbw.trans (hb2.mono hbw.size)⟩

theorem digits_itoa (m : Nat) : Lib.itoa m = Lib.decDigits m := Lib.itoa_nonneg m
theorem rDigits_of {n m : Int} (w : World) (hm : InInt m) (h0 : 0 ≤ m) (hn : n = -m) :
    Calls Tryz.prog 92 #[.int .i64 n] w fun e w' => e = .returned (.string (bs (Lib.itoa m))) ∧ Below w.heap.size w w' := by
  have := hm.2
  refine (rDigits_any (B := 0) m.toNat n w (by omega) (by omega) (by omega)).mono ?_
  rintro e w' ⟨rfl, hb⟩
  refine ⟨?_, hb⟩
  rw [← digits_itoa, show ((m.toNat : Nat) : Int) = m by omega]

theorem rInt_any (n : Int) (w : World) (hn : InInt n) :
    Calls Tryz.prog 126 #[.int .i64 n] w fun e w' => e = .returned (.string (bs (encI n))) ∧ Below w.heap.size w w' := by
  have hlen := Lib.itoa_length_le n hn.1 hn.2
  have h1 := hn.1
  have h2 := hn.2
  go_enter Tryz.func126, Tryz.ntmps126
  by_cases h : n < 0
  · have he : Lib.itoa n = 45 :: Lib.decDigits n.natAbs := by rw [Lib.itoa, if_pos h]
    have hle : (Lib.decDigits n.natAbs).length ≤ 20 := by rw [he] at hlen; simpa using hlen
    have HE := Lib.hid he
    clear he hlen
    go_wp2_with fail
    refine (rDigits_any (B := 0) n.natAbs n w rfl (by omega) (by omega)).mono ?_
    rintro e w1 ⟨rfl, hb1⟩
    go_wp2_with (first
        | ((with_reducible show wpList _ _ _ (Oper.mk _ (Op.binOp .add 9 _ _ _) _ _ _ _ :: _) _ _); refine wp_cat rfl rfl Tryz.underlying9 rfl rfl (by first | omega | (simp; done) | (simp; omega)) ?_)
        | fail)
    go_ret
    exact ⟨ret_str (by simp [encI, HE.out]), hb1⟩
  · go_wp2_with fail
    refine (rDigits_of w hn (by omega) rfl).mono ?_
    rintro e w1 ⟨rfl, hb1⟩
    go_wp2_with (first
        | ((with_reducible show wpList _ _ _ (Oper.mk _ (Op.binOp .add 9 _ _ _) _ _ _ _ :: _) _ _); refine wp_cat rfl rfl Tryz.underlying9 rfl rfl (by first | omega | (simp; done) | (simp; omega)) ?_)
        | fail)
    go_ret
    exact ⟨rfl, hb1⟩

theorem rText_any (l : List UInt8) (w : World) (hl : l.length ≤ 1000000000000) :
    Calls Tryz.prog 93 #[.string (bs l)] w fun e w' => e = .returned (.string (bs (encT l))) ∧ Below w.heap.size w w' := by
  have hl' : InInt l.length := ⟨by omega, by omega⟩
  have hlen := Lib.itoa_length_le l.length hl'.1 hl'.2
  have hsz := bs_size l
  go_enter Tryz.func93, Tryz.ntmps93
  go_wp2_with fail
  refine (rDigits_of w hl' (by omega) rfl).mono ?_
  rintro e w1 ⟨rfl, hb1⟩
  go_wp2_with (first
      | ((with_reducible show wpList _ _ _ (Oper.mk _ (Op.binOp .add 9 _ _ _) _ _ _ _ :: _) _ _); refine wp_cat rfl rfl Tryz.underlying9 rfl rfl (by first | omega | (simp; done) | (simp; omega)) ?_)
      | fail)
  go_ret
  exact ⟨ret_str (by simp [encT]), hb1⟩
set_option maxHeartbeats 1000000 in
theorem rListS_any (xs : List (List UInt8)) (A : Option Addr) (c : Nat) (w : World) (hr : RdL 1 strE w w.heap.size A xs) (hlen : (xs.flatMap encT).length ≤ 1000000000000) (hx : ∀ x ∈ xs, x.length ≤ 1000000000000) (hn : xs.length ≤ 1000000000000) :
    Calls Tryz.prog 73 #[.slice A xs.length c] w fun e w' => e = .returned (.string (bs (encL encT xs))) ∧ Below w.heap.size w w' := by
  have hli := Lib.itoa_length_le xs.length (by omega) (by omega)
  have HR := Lib.hid hr
  have HX := Lib.hid hx
  have HF := Lib.hid (flat_le encT xs)
  have HL := Lib.hid hlen
  clear hr hx hlen
  go_enter Tryz.func73, Tryz.ntmps73
  go_wp2_with fail
  refine (rDigits_of (m := xs.length) w ⟨by omega, by omega⟩ (by omega) rfl).mono ?_
  rintro e w1 ⟨rfl, hb1⟩
  go_wp2_with (first
      | ((with_reducible show wpList _ _ _ (Oper.mk _ (Op.binOp .add 9 _ _ _) _ _ _ _ :: _) _ _); refine wp_cat rfl rfl Tryz.underlying9 rfl rfl (by first | omega | (simp; done) | (simp; omega)) ?_)
      | fail)
  go_loopw [3, 4] (fun s i wr => ∃ k : Nat, k ≤ xs.length ∧ i = .int .i64 k ∧ s = .string (bs ((Lib.itoa xs.length ++ [91]) ++ (xs.take k).flatMap encT)) ∧ Below w.heap.size w wr) (fun _ i _ => xs.length - (intOf i).toNat)
  case atStart => exact ⟨0, Nat.zero_le _, rfl, by simp, hb1⟩
  case round =>
    obtain ⟨k, hk, rfl, rfl, hb⟩ := hrel
    have HB := Lib.hid hb
    by_cases hlt : k < xs.length
    · obtain ⟨b, off, hA, hc⟩ := rd_str (HR.out.now hb) hlt
      subst hA
      have HXk := Lib.hid (HX.out _ (List.getElem_mem hlt))
      have HSt := Lib.hid (flat_succ encT xs k hlt)
      generalize xs[k] = x at *
      clear hb hb1
      go_wp2_with fail
      refine (rText_any x _ HXk.out).mono ?_
      rintro e w3 ⟨rfl, hb3⟩
      have HB3 := Lib.hid (HB.out.trans (hb3.mono HB.out.size))
      have hf1 := HF.out (k + 1)
      rw [HSt.out, List.length_append] at hf1
      have hf2 := HL.out
      clear hb3
      go_wp2_with (first
        | ((with_reducible show wpList _ _ _ (Oper.mk _ (Op.binOp .add 9 _ _ _) _ _ _ _ :: _) _ _); refine wp_cat rfl rfl Tryz.underlying9 rfl rfl (by simp only [List.length_append, List.length_cons, List.length_nil]; omega) ?_)
        | fail)
      go_roundw
      case rel => exact ⟨k + 1, by omega, by go_num, by rw [HSt.out]; simp, HB3.out⟩
      case measure => simp [intOf]; omega
    · have hke : xs.take k = xs := List.take_of_length_le (by omega)
      simp only [hke]
      clear hke
      have hl2 := HL.out
      go_wp2_with (first
        | ((with_reducible show wpList _ _ _ (Oper.mk _ (Op.binOp .add 9 _ _ _) _ _ _ _ :: _) _ _); refine wp_cat rfl rfl Tryz.underlying9 rfl rfl (by simp only [List.length_append, List.length_cons, List.length_nil]; omega) ?_)
        | fail)
      go_ret
      exact ⟨ret_str (by simp [encL]), HB.out⟩
end Go.Proofs.YtjmkodkechahdaaGreatDoor
