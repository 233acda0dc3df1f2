/- Contracts of linguaref11: Blank, Number, token. -/
import Derived.Test.YtnaejabgkfhlbaaDoorSyF
set_option linter.unusedSimpArgs false
set_option linter.unusedVariables false
namespace Go.Proofs.YtnaejabgkfhlbaaDoor
open Go.RowKit

set_option maxHeartbeats 400000 in
theorem rBlank_any (n : Int) (w : World) : Calls Tryd.prog 73 #[.int .u8 n] w fun e w' => e = .returned (.bool (blankI n)) ∧ w = w' := by
  unfold blankI
  by_cases h1 : n = 32
  · subst h1
    go_enter Tryd.func73, Tryd.ntmps73
    go_wp2
    go_ret
    exact ⟨rfl, rfl⟩
  · have d1 : (n == 32) = false := by simpa using h1
    by_cases h2 : n = 9
    · subst h2
      go_enter Tryd.func73, Tryd.ntmps73
      go_wp2
      go_ret
      exact ⟨rfl, rfl⟩
    · have d2 : (n == 9) = false := by simpa using h2
      by_cases h3 : n = 10
      · subst h3
        go_enter Tryd.func73, Tryd.ntmps73
        go_wp2
        go_ret
        exact ⟨rfl, rfl⟩
      · have d3 : (n == 10) = false := by simpa using h3
        rw [d1, d2, d3]
        go_enter Tryd.func73, Tryd.ntmps73
        go_wp2
        go_ret
        exact ⟨rfl, rfl⟩
theorem val_mono (l : List UInt8) (k : Nat) : valF (l.take k) ≤ valF l := by
  have h := val_ge (l.drop k) (l.take k)
  rw [List.take_append_drop] at h
  have : 1 ≤ 10 ^ (l.drop k).length := Nat.one_le_pow _ _ (by decide)
  calc valF (l.take k) = 1 * valF (l.take k) := (Nat.one_mul _).symm
    _ ≤ 10 ^ (l.drop k).length * valF (l.take k) := Nat.mul_le_mul_right _ this
    _ ≤ _ := h
set_option maxRecDepth 100000 in
set_option maxHeartbeats 1000000 in
theorem rNumber_any (l : List UInt8) (w : World) (hs : l.length ≤ 1000000) (hne : l ≠ []) (ha : l.all digitC = true) : Calls Tryd.prog 89 #[.string (bs l)] w fun e w' => e = .returned (numOut l) ∧ w = w' := by
  have hz : (bs l).size = l.length := bs_size l
  have hpos : 0 < l.length := by cases l with | nil => exact absurd rfl hne | cons c r => simp
  have HD := Lib.hid ha
  have HT := Lib.hid (val_take l)
  have HM := Lib.hid (val_mono l)
  have HNo : Hid (1099511627776 < valF l → numOut l = .tuple #[.int .i64 0, .bool false]) := Lib.hid (fun h => numOut_none (by unfold numF; rw [if_pos (.inr (.inr (.inr h)))]))
  have HEnd : Hid (¬ 1099511627776 < valF l → numOut l = if l.head? = some 48 ∧ l ≠ [48] then .tuple #[.int .i64 0, .bool false] else .tuple #[.int .i64 (valF l : Int), .bool true]) := Lib.hid (fun h => by
    by_cases h2 : l.head? = some 48 ∧ l ≠ [48]
    · rw [if_pos h2]
      exact numOut_none (by unfold numF; rw [if_pos (.inr (.inr (.inl h2)))])
    · rw [if_neg h2]
      exact numOut_some (by unfold numF; rw [if_neg (by simp only [not_or]; exact ⟨hne, by rw [ha]; decide, h2, h⟩)]))
  clear ha
  go_enter Tryd.func89, Tryd.ntmps89
  go_wp2_with fail
  go_loop [4, 5] (fun n i => ∃ k : Nat, k ≤ l.length ∧ i = .int .i64 k ∧ n = .int .i64 (valF (l.take k) : Nat) ∧ valF (l.take k) ≤ 10995116277769) (fun _ i => l.length - (intOf i).toNat)
  case atStart => exact ⟨0, Nat.zero_le _, rfl, rfl, by simp [valF]⟩
  case round =>
    obtain ⟨k, hk, rfl, rfl, hbd⟩ := hrel
    by_cases hlt : k < l.length
    · have hget : ∀ h, (bs l)[k]'h = l[k]'hlt := fun h => rfl
      have hdk := List.all_eq_true.1 HD.out l[k] (List.getElem_mem hlt)
      have HS := Lib.hid (HT.out k hlt)
      have hmk := HM.out k
      have hdi : digitI (l[k]'hlt).toNat = true := hdk
      simp only [digitC, digitI, Bool.and_eq_true, decide_eq_true_eq] at hdk
      have h48 : (48 : Int) ≤ (l[k]'hlt).toNat := hdk.1
      have h57 : ((l[k]'hlt).toNat : Int) ≤ 57 := hdk.2
      have HDI := Lib.hid hdi
      have HMK := Lib.hid hmk
      clear hdk hdi hmk
      generalize l[k]'hlt = d at *
      generalize valF (l.take k) = v at *
      go_wp2_with fail
      refine (rDigit_any _ _).mono ?_
      rintro e w' ⟨rfl, rfl⟩
      rw [HDI.out]
      by_cases hv : 1099511627776 < v
      · have HN := Lib.hid (HNo.out (by have := HMK.out; omega))
        go_wp2_with fail
        go_ret2
        exact ⟨by rw [HN.out]; rfl, rfl⟩
      · go_wp2_with fail
        go_round
        case rel => exact ⟨k + 1, by omega, by go_num, by rw [HS.out]; go_num, by rw [HS.out]; omega⟩
        case measure => simp [intOf]; omega
    · have he : l.take k = l := List.take_of_length_le (by omega)
      rw [he] at hbd ⊢
      have hb1 : decide ((l.length : Int) < 1) = false := by simp; omega
      clear he HM HT HD
      by_cases hv : 1099511627776 < valF l
      · have HN := Lib.hid (HNo.out hv)
        clear HNo HEnd
        generalize valF l = v at *
        by_cases h1 : 1 < l.length
        · have hd1 : decide ((1 : Int) < l.length) = true := by simp; omega
          obtain ⟨c, r, hl⟩ : ∃ c r, l = c :: r := by cases l with | nil => exact absurd rfl hne | cons c r => exact ⟨c, r, rfl⟩
          have hget : ∀ h, (bs l)[0]'h = c := fun h => by subst hl; rfl
          have HL := Lib.hid hl
          clear hl
          go_wp2_with fail
          all_goals go_ret2
          all_goals exact ⟨by rw [HN.out]; rfl, rfl⟩
        · have hd1 : decide ((1 : Int) < l.length) = false := by simp; omega
          go_wp2_with fail
          go_ret2
          exact ⟨by rw [HN.out]; rfl, rfl⟩
      · have hE := HEnd.out hv
        clear HNo HEnd
        by_cases h1 : 1 < l.length
        · have hd1 : decide ((1 : Int) < l.length) = true := by simp; omega
          obtain ⟨c, r, hl⟩ : ∃ c r, l = c :: r := by cases l with | nil => exact absurd rfl hne | cons c r => exact ⟨c, r, rfl⟩
          have hget : ∀ h, (bs l)[0]'h = c := fun h => by subst hl; rfl
          have HL := Lib.hid hl
          clear hl
          have hne48 : l ≠ [48] := fun e => by rw [e] at h1; simp at h1
          have hhd : l.head? = some c := by rw [HL.out]; rfl
          by_cases hc : c = 48
          · have HN : Hid (numOut l = .tuple #[.int .i64 0, .bool false]) := Lib.hid (by rw [hE, if_pos ⟨by rw [hhd, hc], hne48⟩])
            subst hc
            clear hE hne48 hhd
            generalize valF l = v at *
            go_wp2_with fail
            go_ret2
            exact ⟨by rw [HN.out]; rfl, rfl⟩
          · have HN : Hid (numOut l = .tuple #[.int .i64 (valF l : Int), .bool true]) := Lib.hid (by rw [hE, if_neg (fun h => hc (by rw [hhd] at h; simpa using h.1))])
            have hd2 : (c == 48) = false := by simpa using hc
            have hd3 : ((c.toNat : Int) == 48) = false := by have := u8_eq c 48; rw [hd2] at this; exact this
            clear hE hne48 hc hhd
            generalize valF l = v at *
            go_wp2_with fail
            go_ret2
            exact ⟨by rw [HN.out]; rfl, rfl⟩
        · have hd1 : decide ((1 : Int) < l.length) = false := by simp; omega
          have HN : Hid (numOut l = .tuple #[.int .i64 (valF l : Int), .bool true]) := Lib.hid (by
            rw [hE, if_neg]
            rintro ⟨h2, h3⟩
            cases l with
            | nil => exact hne rfl
            | cons c r =>
              have : r = [] := List.eq_nil_of_length_eq_zero (by simp only [List.length_cons] at h1; omega)
              subst this
              simp at h2
              exact h3 (by rw [h2]))
          clear hE
          generalize valF l = v at *
          go_wp2_with fail
          go_ret2
          exact ⟨by rw [HN.out]; rfl, rfl⟩
def nextOutA (l : List UInt8) (a : Int) : Value := match nextF l with
  | .ok s => .tuple #[.agg (tokC s a), .int .i64 0]
  | .error e => .tuple #[zeroTok, .int .i64 e]
theorem nextOutA_ok {l : List UInt8} {a : Int} {s : Sh} (h : nextF l = .ok s) : nextOutA l a = .tuple #[.agg (tokC s a), .int .i64 0] := by unfold nextOutA; rw [h]
theorem nextOutA_err {l : List UInt8} {a : Int} {e : Int} (h : nextF l = .error e) : nextOutA l a = .tuple #[zeroTok, .int .i64 e] := by unfold nextOutA; rw [h]
theorem wordL_len {t : List UInt8} {c : UInt8} (ha : t.all wordC = true) (hc : t.head? = some c) (hl : letterC c = true) : wordL t = decide (t.length ≤ 20) := by
  cases t with
  | nil => simp at hc
  | cons d r =>
    simp at hc
    subst hc
    change letterI d.toNat = true at hl
    show (letterI d.toNat && decide (r.length ≤ 19) && (d :: r).all wordC) = _
    rw [hl, ha]
    simp
theorem tw_step {p : UInt8 → Bool} {l q : List UInt8} {a m : Nat} (hq : l.drop a = q) (ham : a ≤ m) (hm : m < l.length) (h : (q.take (m - a)).all p = true) (hp : p l[m] = true) : (q.take (m + 1 - a)).all p = true := by
  have hj : m - a < q.length := by rw [← hq, List.length_drop]; omega
  rw [show m + 1 - a = (m - a) + 1 by omega, List.take_succ_eq_append_getElem hj, List.all_append, h]
  have e : q[m - a] = l[m] := by
    subst hq
    rw [List.getElem_drop]
    congr 1
    omega
  simp [e, hp]
theorem tw_exit {p : UInt8 → Bool} {l q : List UInt8} {a m : Nat} (hq : l.drop a = q) (ham : a ≤ m) (hm : m ≤ l.length) (h : (q.take (m - a)).all p = true) (hp : ∀ hlt : m < l.length, p (l[m]'hlt) = false) : (q.takeWhile p).length = m - a := by
  refine takeWhile_at p q (m - a) h (by rw [← hq, List.length_drop]; omega) fun c hc => ?_
  rw [← hq, List.getElem?_drop, show a + (m - a) = m by omega] at hc
  obtain ⟨hlt, rfl⟩ := List.getElem?_eq_some_iff.1 hc
  exact hp hlt
theorem tw_cut {p : UInt8 → Bool} {l q : List UInt8} {a m : Nat} (hq : l.drop a = q) (ham : a ≤ m) (h : (q.takeWhile p).length = m - a) : (bs l).extract a m = bs (q.takeWhile p) := by
  rw [bs_extract, ← tw_take, h, ← hq, List.drop_take]
set_option maxRecDepth 100000 in
set_option maxHeartbeats 2000000 in
theorem rToken_any (l : List UInt8) (a : Nat) (c : UInt8) (r : List UInt8) (hq : l.drop a = c :: r) (w : World) (hs : l.length ≤ 1000000) :
    Calls Tryd.prog 74 #[.string (bs l), .int .i64 a] w fun e w' => e = .returned (nextOutA (l.drop a) a) ∧ Below w.heap.size w w' := by
  have hz : (bs l).size = l.length := bs_size _
  have hal : a < l.length := by
    have := congrArg List.length hq
    rw [List.length_drop, List.length_cons] at this
    omega
  have hgc : ∀ h, (bs l)[a]'h = c := fun h => by
    show l[a]'hal = c
    have : (l.drop a)[0]? = some c := by rw [hq]; rfl
    rw [List.getElem?_drop, Nat.add_zero] at this
    exact (List.getElem?_eq_some_iff.1 this).2
  have HQ := Lib.hid hq
  have HEq := Lib.hid (nextF_cons c r)
  have HB : Hid (∀ o, Below w.heap.size w (w.alloc o)) := Lib.hid (fun o => (Below.refl _ _).alloc (Nat.le_refl _) _)
  clear hq
  cases hlc : letterC c with
  | true =>
    have hli : letterI c.toNat = true := hlc
    have HLC := Lib.hid hlc
    have H1 : Hid (((l.drop a).take (a + 1 - a)).all wordC = true) := Lib.hid (by
      rw [HQ.out, show a + 1 - a = 1 by omega]
      simp [(letter_not hlc).2])
    clear hlc
    go_enter Tryd.func74, Tryd.ntmps74
    go_wp2_with fail
    refine (rLetter_any _ _).mono ?_
    rintro e w' ⟨rfl, rfl⟩
    rw [hli]
    go_wp2_with fail
    clear hgc hli
    go_loop [6] (fun e => ∃ m : Nat, a + 1 ≤ m ∧ m ≤ l.length ∧ e = .int .i64 m ∧ ((l.drop a).take (m - a)).all wordC = true) (fun e => l.length - (intOf e).toNat)
    case atStart => exact ⟨a + 1, Nat.le_refl _, hal, by go_num, H1.out⟩
    case round =>
      obtain ⟨m, ham1, hml, rfl, hall⟩ := hrel
      have ham : a ≤ m := by omega
      have HA := Lib.hid hall
      clear hall H1
      by_cases hlt : m < l.length
      · have hget : ∀ h, (bs l)[m]'h = l[m]'hlt := fun h => rfl
        have HSt := Lib.hid (tw_step (p := wordC) rfl ham hlt HA.out)
        have HX := Lib.hid (tw_exit (p := wordC) (q := l.drop a) rfl ham hml HA.out)
        have HWd : Hid (wordC (l[m]'hlt) = (letterI (l[m]'hlt).toNat || digitI (l[m]'hlt).toNat)) := Lib.hid rfl
        generalize hd : l[m]'hlt = d at *
        have HD := Lib.hid hd
        clear hd
        cases h1 : letterI d.toNat with
        | true =>
          have HG := Lib.hid (HSt.out (by rw [HWd.out, h1]; rfl))
          clear HSt HX HWd
          go_wp2_with fail
          refine (rLetter_any _ _).mono ?_
          rintro e w' ⟨rfl, rfl⟩
          rw [h1]
          go_wp2_with fail
          go_round
          case rel => exact ⟨m + 1, by omega, by omega, by go_num, HG.out⟩
          case measure => simp [intOf]; omega
        | false =>
          cases h2 : digitI d.toNat with
          | true =>
            have HG := Lib.hid (HSt.out (by rw [HWd.out, h1, h2]; rfl))
            clear HSt HX HWd
            go_wp2_with fail
            refine (rLetter_any _ _).mono ?_
            rintro e w' ⟨rfl, rfl⟩
            rw [h1]
            go_wp2_with fail
            refine (rDigit_any _ _).mono ?_
            rintro e w' ⟨rfl, rfl⟩
            rw [h2]
            go_wp2_with fail
            go_round
            case rel => exact ⟨m + 1, by omega, by omega, by go_num, HG.out⟩
            case measure => simp [intOf]; omega
          | false =>
            have HG := Lib.hid (HX.out (fun hlt2 => by rw [HD.out, HWd.out, h1, h2]; rfl))
            clear HSt HX HWd
            have ht := Lib.hid (show ((l.drop a).takeWhile wordC).length = m - a from HG.out)
            have hsub : (m : Int) - a = ((l.drop a).takeWhile wordC).length := by have := ht.out; omega
            have hcut := tw_cut (p := wordC) rfl ham ht.out
            have HW := Lib.hid (wordL_len (t := (l.drop a).takeWhile wordC) (c := c) (tw_all _) (by rw [HQ.out, List.takeWhile_cons, (letter_not HLC.out).2]; rfl) HLC.out)
            have HE := HEq.out
            rw [if_pos HLC.out, ← HQ.out] at HE
            have HE := Lib.hid HE
            clear HEq
            generalize (l.drop a).takeWhile wordC = t at *
            by_cases h20 : 20 < t.length
            · have hd : decide ((20 : Int) < t.length) = true := by simp; omega
              have HN : Hid (nextOutA (l.drop a) a = .tuple #[zeroTok, .int .i64 11]) := Lib.hid (nextOutA_err (by rw [HE.out, if_neg (by rw [HW.out]; simp; omega)]))
              clear HE HW ht
              ((go_wp2_with fail); (refine (rLetter_any _ _).mono ?_); (rintro e w' ⟨rfl, rfl⟩); (rw [h1]); (go_wp2_with fail); (refine (rDigit_any _ _).mono ?_); (rintro e w' ⟨rfl, rfl⟩); (rw [h2]))
              go_wp2_with fail
              exact bodyPost_ret (v := .tuple #[.agg #[.int .i64 0, .string ⟨#[]⟩, .int .i64 0, .int .i64 0], .int .i64 11]) (by simp [results, Tryd.results74, go_sem]) rfl ⟨by first | (rw [HN.out]; done) | (rw [HN.out]; rfl), HB.out _⟩
            · have hd : decide ((20 : Int) < t.length) = false := by simp; omega
              have HN : Hid (nextOutA (l.drop a) a = .tuple #[.agg (tokC (.word t) a), .int .i64 0]) := Lib.hid (nextOutA_ok (by rw [HE.out, if_pos (by rw [HW.out]; simp; omega)]))
              clear HE HW ht
              ((go_wp2_with fail); (refine (rLetter_any _ _).mono ?_); (rintro e w' ⟨rfl, rfl⟩); (rw [h1]); (go_wp2_with fail); (refine (rDigit_any _ _).mono ?_); (rintro e w' ⟨rfl, rfl⟩); (rw [h2]))
              go_wp2_with fail
              exact bodyPost_ret (v := .tuple #[.agg #[.int .i64 0, .string (bs t), .int .i64 0, .int .i64 a], .int .i64 0]) (by simp [results, Tryd.results74, go_sem]) rfl ⟨by first | (rw [HN.out]; done) | (rw [HN.out]; rfl), HB.out _⟩
      · have HG := Lib.hid (tw_exit (p := wordC) (q := l.drop a) rfl ham hml HA.out (fun h => absurd h hlt))
        have ht := Lib.hid (show ((l.drop a).takeWhile wordC).length = m - a from HG.out)
        have hsub : (m : Int) - a = ((l.drop a).takeWhile wordC).length := by have := ht.out; omega
        have hcut := tw_cut (p := wordC) rfl ham ht.out
        have HW := Lib.hid (wordL_len (t := (l.drop a).takeWhile wordC) (c := c) (tw_all _) (by rw [HQ.out, List.takeWhile_cons, (letter_not HLC.out).2]; rfl) HLC.out)
        have HE := HEq.out
        rw [if_pos HLC.out, ← HQ.out] at HE
        have HE := Lib.hid HE
        clear HEq
        generalize (l.drop a).takeWhile wordC = t at *
        by_cases h20 : 20 < t.length
        · have hd : decide ((20 : Int) < t.length) = true := by simp; omega
          have HN : Hid (nextOutA (l.drop a) a = .tuple #[zeroTok, .int .i64 11]) := Lib.hid (nextOutA_err (by rw [HE.out, if_neg (by rw [HW.out]; simp; omega)]))
          clear HE HW ht
          skip
          go_wp2_with fail
          exact bodyPost_ret (v := .tuple #[.agg #[.int .i64 0, .string ⟨#[]⟩, .int .i64 0, .int .i64 0], .int .i64 11]) (by simp [results, Tryd.results74, go_sem]) rfl ⟨by first | (rw [HN.out]; done) | (rw [HN.out]; rfl), HB.out _⟩
        · have hd : decide ((20 : Int) < t.length) = false := by simp; omega
          have HN : Hid (nextOutA (l.drop a) a = .tuple #[.agg (tokC (.word t) a), .int .i64 0]) := Lib.hid (nextOutA_ok (by rw [HE.out, if_pos (by rw [HW.out]; simp; omega)]))
          clear HE HW ht
          skip
          go_wp2_with fail
          exact bodyPost_ret (v := .tuple #[.agg #[.int .i64 0, .string (bs t), .int .i64 0, .int .i64 a], .int .i64 0]) (by simp [results, Tryd.results74, go_sem]) rfl ⟨by first | (rw [HN.out]; done) | (rw [HN.out]; rfl), HB.out _⟩
  | false =>
    have hli : letterI c.toNat = false := hlc
    have hE := HEq.out
    rw [if_neg (by rw [hlc]; decide), ← HQ.out] at hE
    clear hlc HEq
    cases hdc : digitC c with
    | true =>
      have hdi : digitI c.toNat = true := hdc
      rw [if_pos hdc] at hE
      have HE := Lib.hid hE
      have HDC := Lib.hid hdc
      have H1 : Hid (((l.drop a).take (a + 1 - a)).all digitC = true) := Lib.hid (by
        rw [HQ.out, show a + 1 - a = 1 by omega]
        simp [hdc])
      clear hdc hE
      go_enter Tryd.func74, Tryd.ntmps74
      go_wp2_with fail
      refine (rLetter_any _ _).mono ?_
      rintro e w' ⟨rfl, rfl⟩
      rw [hli]
      go_wp2_with fail
      refine (rDigit_any _ _).mono ?_
      rintro e w' ⟨rfl, rfl⟩
      rw [hdi]
      go_wp2_with fail
      clear hgc hli hdi
      go_loop [6] (fun e => ∃ m : Nat, a + 1 ≤ m ∧ m ≤ l.length ∧ e = .int .i64 m ∧ ((l.drop a).take (m - a)).all digitC = true) (fun e => l.length - (intOf e).toNat)
      case atStart => exact ⟨a + 1, Nat.le_refl _, hal, by go_num, H1.out⟩
      case round =>
        obtain ⟨m, ham1, hml, rfl, hall⟩ := hrel
        have ham : a ≤ m := by omega
        have HA := Lib.hid hall
        clear hall H1
        by_cases hlt : m < l.length
        · have hget : ∀ h, (bs l)[m]'h = l[m]'hlt := fun h => rfl
          have HSt := Lib.hid (tw_step (p := digitC) rfl ham hlt HA.out)
          have HX := Lib.hid (tw_exit (p := digitC) (q := l.drop a) rfl ham hml HA.out)
          have HWd : Hid (digitC (l[m]'hlt) = digitI (l[m]'hlt).toNat) := Lib.hid rfl
          generalize hd : l[m]'hlt = d at *
          have HD := Lib.hid hd
          clear hd
          cases h2 : digitI d.toNat with
          | true =>
            have HG := Lib.hid (HSt.out (by rw [HWd.out, h2]))
            clear HSt HX HWd
            go_wp2_with fail
            refine (rDigit_any _ _).mono ?_
            rintro e w' ⟨rfl, rfl⟩
            rw [h2]
            go_wp2_with fail
            go_round
            case rel => exact ⟨m + 1, by omega, by omega, by go_num, HG.out⟩
            case measure => simp [intOf]; omega
          | false =>
            have HG := Lib.hid (HX.out (fun hlt2 => by rw [HD.out, HWd.out, h2]))
            clear HSt HX HWd
            have ht := Lib.hid (show ((l.drop a).takeWhile digitC).length = m - a from HG.out)
            have hcut := tw_cut (p := digitC) rfl ham ht.out
            have HT1 : Hid ((l.drop a).takeWhile digitC ≠ []) := Lib.hid (by rw [HQ.out, List.takeWhile_cons, HDC.out]; simp)
            have HT2 := Lib.hid (tw_all (p := digitC) (l.drop a))
            have htl := tw_le (p := digitC) (l.drop a)
            have hdl : (l.drop a).length ≤ 1000000 := by rw [List.length_drop]; omega
            generalize (l.drop a).takeWhile digitC = t at *
            have HNu := Lib.hid (fun w => rNumber_any t w (by omega) HT1.out HT2.out)
            clear ht htl hdl HT1 HT2
            cases hn : numF t with
            | some n =>
              have HO := Lib.hid (numOut_some hn)
              have HN : Hid (nextOutA (l.drop a) a = .tuple #[.agg (tokC (.num t n) a), .int .i64 0]) := Lib.hid (nextOutA_ok (by rw [HE.out, hn]))
              clear HE hn
              ((go_wp2_with fail); (refine (rDigit_any _ _).mono ?_); (rintro e w' ⟨rfl, rfl⟩); (rw [h2]))
              go_wp2_with fail
              refine (HNu.out _).mono ?_
              rintro e w' ⟨rfl, rfl⟩
              rw [HO.out]
              go_wp2_with fail
              exact bodyPost_ret (v := .tuple #[.agg #[.int .i64 1, .string (bs t), .int .i64 n, .int .i64 a], .int .i64 0]) (by simp [results, Tryd.results74, go_sem]) rfl ⟨by first | (rw [HN.out]; done) | (rw [HN.out]; rfl), HB.out _⟩
            | none =>
              have HO := Lib.hid (numOut_none hn)
              have HN : Hid (nextOutA (l.drop a) a = .tuple #[zeroTok, .int .i64 3]) := Lib.hid (nextOutA_err (by rw [HE.out, hn]))
              clear HE hn
              ((go_wp2_with fail); (refine (rDigit_any _ _).mono ?_); (rintro e w' ⟨rfl, rfl⟩); (rw [h2]))
              go_wp2_with fail
              refine (HNu.out _).mono ?_
              rintro e w' ⟨rfl, rfl⟩
              rw [HO.out]
              go_wp2_with fail
              exact bodyPost_ret (v := .tuple #[.agg #[.int .i64 0, .string ⟨#[]⟩, .int .i64 0, .int .i64 0], .int .i64 3]) (by simp [results, Tryd.results74, go_sem]) rfl ⟨by first | (rw [HN.out]; done) | (rw [HN.out]; rfl), HB.out _⟩
        · have HG := Lib.hid (tw_exit (p := digitC) (q := l.drop a) rfl ham hml HA.out (fun h => absurd h hlt))
          have ht := Lib.hid (show ((l.drop a).takeWhile digitC).length = m - a from HG.out)
          have hcut := tw_cut (p := digitC) rfl ham ht.out
          have HT1 : Hid ((l.drop a).takeWhile digitC ≠ []) := Lib.hid (by rw [HQ.out, List.takeWhile_cons, HDC.out]; simp)
          have HT2 := Lib.hid (tw_all (p := digitC) (l.drop a))
          have htl := tw_le (p := digitC) (l.drop a)
          have hdl : (l.drop a).length ≤ 1000000 := by rw [List.length_drop]; omega
          generalize (l.drop a).takeWhile digitC = t at *
          have HNu := Lib.hid (fun w => rNumber_any t w (by omega) HT1.out HT2.out)
          clear ht htl hdl HT1 HT2
          cases hn : numF t with
          | some n =>
            have HO := Lib.hid (numOut_some hn)
            have HN : Hid (nextOutA (l.drop a) a = .tuple #[.agg (tokC (.num t n) a), .int .i64 0]) := Lib.hid (nextOutA_ok (by rw [HE.out, hn]))
            clear HE hn
            skip
            go_wp2_with fail
            refine (HNu.out _).mono ?_
            rintro e w' ⟨rfl, rfl⟩
            rw [HO.out]
            go_wp2_with fail
            exact bodyPost_ret (v := .tuple #[.agg #[.int .i64 1, .string (bs t), .int .i64 n, .int .i64 a], .int .i64 0]) (by simp [results, Tryd.results74, go_sem]) rfl ⟨by first | (rw [HN.out]; done) | (rw [HN.out]; rfl), HB.out _⟩
          | none =>
            have HO := Lib.hid (numOut_none hn)
            have HN : Hid (nextOutA (l.drop a) a = .tuple #[zeroTok, .int .i64 3]) := Lib.hid (nextOutA_err (by rw [HE.out, hn]))
            clear HE hn
            skip
            go_wp2_with fail
            refine (HNu.out _).mono ?_
            rintro e w' ⟨rfl, rfl⟩
            rw [HO.out]
            go_wp2_with fail
            exact bodyPost_ret (v := .tuple #[.agg #[.int .i64 0, .string ⟨#[]⟩, .int .i64 0, .int .i64 0], .int .i64 3]) (by simp [results, Tryd.results74, go_sem]) rfl ⟨by first | (rw [HN.out]; done) | (rw [HN.out]; rfl), HB.out _⟩
    | false =>
      have hdi : digitI c.toNat = false := hdc
      rw [if_neg (by rw [hdc]; decide)] at hE
      clear hdc
      by_cases h59 : c = 59
      · have HN : Hid (nextOutA (l.drop a) a = .tuple #[.agg (tokC .sign a), .int .i64 0]) := Lib.hid (nextOutA_ok (by rw [hE, if_pos h59]))
        subst h59
        clear hE
        have hli : letterI 59 = false := rfl
        have hdi : digitI 59 = false := rfl
        go_enter Tryd.func74, Tryd.ntmps74
        go_wp2_with fail
        refine (rLetter_any _ _).mono ?_
        rintro e w' ⟨rfl, rfl⟩
        rw [hli]
        go_wp2_with fail
        refine (rDigit_any _ _).mono ?_
        rintro e w' ⟨rfl, rfl⟩
        rw [hdi]
        go_wp2_with fail
        exact bodyPost_ret (v := .tuple #[.agg #[.int .i64 2, .string ⟨#[59]⟩, .int .i64 0, .int .i64 a], .int .i64 0]) (by simp [results, Tryd.results74, go_sem]) rfl ⟨by first | (rw [HN.out]; done) | (rw [HN.out]; rfl), HB.out _⟩
      · have HN : Hid (nextOutA (l.drop a) a = .tuple #[zeroTok, .int .i64 10]) := Lib.hid (nextOutA_err (by rw [hE, if_neg h59]))
        have hd2 : (c == 59) = false := by simpa using h59
        have hd1 : ((c.toNat : Int) == 59) = false := by have := u8_eq c 59; rw [hd2] at this; exact this
        have hd3 : ((c.toNat : Int) != 59) = true := by rw [bne, hd1]; rfl
        have hd4 : (c != 59) = true := by rw [bne, hd2]; rfl
        clear hE h59
        go_enter Tryd.func74, Tryd.ntmps74
        go_wp2_with fail
        refine (rLetter_any _ _).mono ?_
        rintro e w' ⟨rfl, rfl⟩
        rw [hli]
        go_wp2_with fail
        refine (rDigit_any _ _).mono ?_
        rintro e w' ⟨rfl, rfl⟩
        rw [hdi]
        go_wp2_with fail
        exact bodyPost_ret (v := .tuple #[.agg #[.int .i64 0, .string ⟨#[]⟩, .int .i64 0, .int .i64 0], .int .i64 10]) (by simp [results, Tryd.results74, go_sem]) rfl ⟨by first | (rw [HN.out]; done) | (rw [HN.out]; rfl), HB.out _⟩
end Go.Proofs.YtnaejabgkfhlbaaDoor
