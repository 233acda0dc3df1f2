/- Contracts of package lex: blank, Number, next. -/
import Derived.Test.YtnaejabgkfhlbaaDoorSyD
import Derived.Test.YtnaejabgkfhlbaaDoorWyB
import Derived.Test.YtnaejabgkfhlbaaDoorTurn
set_option linter.unusedSimpArgs false
set_option linter.unusedVariables false
namespace Go.Proofs.YtnaejabgkfhlbaaDoor
open Go.RowKit

def blankI (n : Int) : Bool := n == 32 || (n == 9 || n == 10)
theorem u8_eq (c k : UInt8) : ((c.toNat : Int) == (k.toNat : Int)) = (c == k) := by
  rw [Bool.eq_iff_iff, beq_iff_eq, beq_iff_eq]
  constructor
  · intro h; exact UInt8.toNat_inj.1 (by omega)
  · rintro rfl; rfl
theorem blankI_eq (c : UInt8) : blankI c.toNat = blankC c := by
  unfold blankI blankC
  rw [← u8_eq c 32, ← u8_eq c 9, ← u8_eq c 10]
  rfl
set_option maxHeartbeats 400000 in
theorem lexBlank_any (n : Int) (w : World) : Calls Tryd.prog 65 #[.int .u8 n] w fun e w' => e = .returned (.bool (blankI n)) ∧ w = w' := by
  unfold blankI
  by_cases h1 : n = 32
  · subst h1
    go_enter Tryd.func65, Tryd.ntmps65
    go_wp2
    go_ret
    exact ⟨rfl, rfl⟩
  · have d1 : (n == 32) = false := by simpa using h1
    by_cases h2 : n = 9
    · subst h2
      go_enter Tryd.func65, Tryd.ntmps65
      go_wp2
      go_ret
      exact ⟨rfl, rfl⟩
    · have d2 : (n == 9) = false := by simpa using h2
      rw [d1, d2]
      go_enter Tryd.func65, Tryd.ntmps65
      go_wp2
      go_ret
      exact ⟨rfl, rfl⟩
set_option maxHeartbeats 400000 in
theorem lexNext1_any (n : Int) (w : World) : Calls Tryd.prog 84 #[.int .u8 n] w fun e w' => e = .returned (.bool (wordI n)) ∧ w = w' := by
  unfold wordI
  cases h : letterI n
  · go_enter Tryd.func84, Tryd.ntmps84
    go_wp2_with (first | (go_at_call 78; refine (lexLetter_any _ _).mono ?_; rintro e w' ⟨rfl, rfl⟩) | (go_at_call 80; refine (lexDigit_any _ _).mono ?_; rintro e w' ⟨rfl, rfl⟩))
    go_ret
    exact ⟨by simp, rfl⟩
  · go_enter Tryd.func84, Tryd.ntmps84
    go_wp2_with (first | (go_at_call 78; refine (lexLetter_any _ _).mono ?_; rintro e w' ⟨rfl, rfl⟩) | (go_at_call 80; refine (lexDigit_any _ _).mono ?_; rintro e w' ⟨rfl, rfl⟩))
    go_ret
    exact ⟨by simp, rfl⟩
theorem enters_blank : ∀ (args : Array Value) (w : World), (callFunc 65 args).run Tryd.prog w = .ok (.enter 65 args) w := fun _ _ => by kernel_rfl
theorem enters_digit : ∀ (args : Array Value) (w : World), (callFunc 80 args).run Tryd.prog w = .ok (.enter 80 args) w := fun _ _ => by kernel_rfl
theorem enters_next1 : ∀ (args : Array Value) (w : World), (callFunc 84 args).run Tryd.prog w = .ok (.enter 84 args) w := fun _ _ => by kernel_rfl
theorem spanBlank (l : List UInt8) (w : World) (hs : l.length ≤ 9223372036854775807) :
    Calls Tryd.prog 64 #[.string (bs l), .func (.func 65) #[] #[]] w fun e w' => e = .returned (.int .i64 ((l.takeWhile blankC).length : Nat)) ∧ w = w' := by
  have h := lexSpan_any (bs l) 65 blankI w hs enters_blank lexBlank_any
  rw [bs_data, show (fun c : UInt8 => blankI c.toNat) = blankC from funext blankI_eq] at h
  exact h
theorem spanDigit (l : List UInt8) (w : World) (hs : l.length ≤ 9223372036854775807) :
    Calls Tryd.prog 64 #[.string (bs l), .func (.func 80) #[] #[]] w fun e w' => e = .returned (.int .i64 ((l.takeWhile digitC).length : Nat)) ∧ w = w' :=
  lexSpan_any (bs l) 80 digitI w hs enters_digit lexDigit_any
theorem spanWord (l : List UInt8) (w : World) (hs : l.length ≤ 9223372036854775807) :
    Calls Tryd.prog 64 #[.string (bs l), .func (.func 84) #[] #[]] w fun e w' => e = .returned (.int .i64 ((l.takeWhile wordC).length : Nat)) ∧ w = w' :=
  lexSpan_any (bs l) 84 wordI w hs enters_next1 lexNext1_any

theorem tw_len_all {p : UInt8 → Bool} (l : List UInt8) : (l.takeWhile p).length = l.length ↔ l.all p = true := by
  induction l with
  | nil => simp
  | cons a l ih =>
    rw [List.takeWhile_cons]
    cases h : p a
    · simp [h]
    · simp [h, ih]
theorem tw_le {p : UInt8 → Bool} (l : List UInt8) : (l.takeWhile p).length ≤ l.length := by
  have := tw_split (p := p) l
  conv => rhs; rw [this.1]
  simp
theorem val_take (l : List UInt8) (k : Nat) (h : k < l.length) : valF (l.take (k + 1)) = 10 * valF (l.take k) + (l[k].toNat - 48) := by
  rw [List.take_succ_eq_append_getElem h, valF_snoc]
theorem val_lt : ∀ (k : Nat) (l : List UInt8), l.length ≤ k → l.all digitC = true → valF l < 10 ^ k := by
  intro k
  induction k with
  | zero => intro l h _; have : l = [] := List.eq_nil_of_length_eq_zero (by omega); subst this; decide
  | succ k ih =>
    intro l h hd
    rcases List.eq_nil_or_concat l with rfl | ⟨r, c, rfl⟩
    · exact Nat.pos_of_ne_zero (by simp)
    · rw [List.concat_eq_append] at *
      rw [List.all_append] at hd
      simp only [Bool.and_eq_true, List.all_cons, List.all_nil, Bool.and_true] at hd
      have h1 := ih r (by simp at h; omega) hd.1
      have h2 : c.toNat - 48 ≤ 9 := by have := hd.2; simp [digitC, digitI] at this; omega
      rw [valF_snoc, Nat.pow_succ]
      omega
theorem val_ge : ∀ (r : List UInt8) (l : List UInt8), 10 ^ r.length * valF l ≤ valF (l ++ r)
  | [], l => by simp
  | c :: r, l => by
    have ih := val_ge r (l ++ [c])
    rw [List.append_assoc, valF_snoc] at ih
    refine Nat.le_trans ?_ ih
    rw [List.length_cons, Nat.pow_succ, Nat.mul_assoc]
    exact Nat.mul_le_mul_left _ (Nat.le_add_right _ _)
/-- A number with many digits is too great. -/
theorem val_long (l : List UInt8) (h : 13 < l.length) (hd : l.all digitC = true) (h0 : l.head? ≠ some 48) : 1099511627776 < valF l := by
  cases l with
  | nil => simp at h
  | cons c r =>
    have h1 := val_ge r [c]
    have h2 : valF [c] = c.toNat - 48 := by simp [valF]
    simp only [List.all_cons, Bool.and_eq_true] at hd
    have h3 := hd.1
    simp [digitC, digitI] at h3
    have h4 : c.toNat ≠ 48 := fun e => h0 (by
      have : c = 48 := UInt8.toNat_inj.1 e
      rw [this]; rfl)
    have h5 : 10 ^ 13 ≤ 10 ^ r.length := Nat.pow_le_pow_right (by decide) (by simp at h; omega)
    have h6 : 1 ≤ valF [c] := by omega
    have h7 : 10 ^ 13 * 1 ≤ 10 ^ r.length * valF [c] := Nat.mul_le_mul h5 h6
    have h8 : (10 : Nat) ^ 13 = 10000000000000 := by decide
    show _ < valF ([c] ++ r)
    omega
def numOut (l : List UInt8) : Value := match numF l with
  | some n => .tuple #[.int .i64 n, .bool true]
  | none => .tuple #[.int .i64 0, .bool false]
theorem numOut_none {l : List UInt8} (h : numF l = none) : numOut l = .tuple #[.int .i64 0, .bool false] := by unfold numOut; rw [h]
theorem numOut_some {l : List UInt8} {n : Int} (h : numF l = some n) : numOut l = .tuple #[.int .i64 n, .bool true] := by unfold numOut; rw [h]
set_option maxRecDepth 100000 in
set_option maxHeartbeats 1000000 in
theorem lexNumber_any (l : List UInt8) (w : World) (hs : l.length ≤ 1000000) : Calls Tryd.prog 85 #[.string (bs l)] w fun e w' => e = .returned (numOut l) ∧ w = w' := by
  have hz : (bs l).size = l.length := bs_size l
  have htl : (bs l).toList = l := bs_toList l
  have e48 : (⟨#[48]⟩ : ByteArray).toList = [48] := bs_toList [48]
  have e0 : (⟨#[]⟩ : ByteArray).toList = [] := bs_toList []
  have HTW := Lib.hid (spanDigit l w (by omega))
  have HLe := Lib.hid (tw_le (p := digitC) l)
  have HAll := Lib.hid (tw_len_all (p := digitC) l)
  cases l with
  | nil =>
    have HN := Lib.hid (numOut_none (l := []) rfl)
    go_enter Tryd.func85, Tryd.ntmps85
    go_wp2
    go_ret2
    exact ⟨by rw [HN.out]; rfl, rfl⟩
  | cons c r =>
    have hget : ∀ h, (bs (c :: r))[0]'h = c := fun h => rfl
    have ht0 : (c :: r : List UInt8).isEmpty = false := rfl
    generalize hl : c :: r = l at *
    have hpos : 0 < l.length := by rw [← hl]; simp
    cases ha : l.all digitC with
    | false =>
      have HN := Lib.hid (numOut_none (l := l) (by unfold numF; rw [if_pos (.inr (.inl ha))]))
      have hne : (((l.takeWhile digitC).length : Int) != (l.length : Int)) = true := by
        have := HAll.out
        rw [ha] at this
        simp at this ⊢
        omega
      generalize (l.takeWhile digitC).length = m at *
      clear ha hl HAll
      go_enter Tryd.func85, Tryd.ntmps85
      go_wp2_with fail
      refine HTW.out.mono ?_
      rintro e w' ⟨rfl, rfl⟩
      go_wp2_with fail
      go_ret2
      exact ⟨by rw [HN.out]; rfl, rfl⟩
    | true =>
      have hme : (l.takeWhile digitC).length = l.length := HAll.out.2 ha
      rw [hme] at HTW
      clear HAll HLe
      have hne : ((l.length : Int) != (l.length : Int)) = false := by simp
      by_cases h48 : c = 48 ∧ l ≠ [48]
      · have HN := Lib.hid (numOut_none (l := l) (by unfold numF; rw [if_pos (.inr (.inr (.inl ⟨by rw [← hl, h48.1]; rfl, h48.2⟩)))]))
        obtain ⟨rfl, h2⟩ := h48
        have hb : (l == [48]) = false := by simpa using h2
        clear ha hme hl h2
        go_enter Tryd.func85, Tryd.ntmps85
        go_wp2_with fail
        refine HTW.out.mono ?_
        rintro e w' ⟨rfl, rfl⟩
        go_wp2_with fail
        go_ret2
        exact ⟨by rw [HN.out]; rfl, rfl⟩
      · have hcase : (((c.toNat : Int) == 48) = false ∧ l.head? ≠ some 48) ∨ (((c.toNat : Int) == 48) = true ∧ (l == [48]) = true) := by
          by_cases hc : c = 48
          · right
            refine ⟨by rw [hc]; rfl, ?_⟩
            simpa using Classical.not_not.1 (fun h => h48 ⟨hc, h⟩)
          · left
            refine ⟨?_, by rw [← hl]; simpa using hc⟩
            have := u8_eq c 48
            rw [show (c == 48) = false by simpa using hc] at this
            exact this
        by_cases hlen : 13 < l.length
        · have hh : l.head? ≠ some 48 := by
            rcases hcase with h | h
            · exact h.2
            · have : l = [48] := by simpa using h.2
              rw [this] at hlen
              simp at hlen
          have HN := Lib.hid (numOut_none (l := l) (by unfold numF; rw [if_pos (.inr (.inr (.inr (val_long l hlen ha hh))))]))
          have hd1 : ((c.toNat : Int) == 48) = false := by
            rcases hcase with h | h
            · exact h.1
            · have : l = [48] := by simpa using h.2
              rw [this] at hlen
              simp at hlen
          have hd2 : (c == 48) = false := by rw [← u8_eq]; exact hd1
          clear ha hme hl h48 hcase hh
          go_enter Tryd.func85, Tryd.ntmps85
          go_wp2_with fail
          refine HTW.out.mono ?_
          rintro e w' ⟨rfl, rfl⟩
          go_wp2_with fail
          go_ret2
          exact ⟨by rw [HN.out]; rfl, rfl⟩
        · have hlb : valF l < 10 ^ 13 := Nat.lt_of_lt_of_le (val_lt l.length l (Nat.le_refl _) ha) (Nat.pow_le_pow_right (by decide) (by omega))
          have HB : Hid (∀ k, valF (l.take k) < 10000000000000) := Lib.hid (fun k => by
            have h1 := val_lt k (l.take k) (by simp; omega) (by
              rw [List.all_eq_true] at ha ⊢
              exact fun x hx => ha x (List.mem_of_mem_take hx))
            by_cases hk : k ≤ 13
            · exact Nat.lt_of_lt_of_le h1 (Nat.pow_le_pow_right (by decide) hk)
            · rw [List.take_of_length_le (by omega)]
              exact hlb)
          have HD := Lib.hid ha
          have HT := Lib.hid (val_take l)
          have HO : Hid (numOut l = if 1099511627776 < valF l then .tuple #[.int .i64 0, .bool false] else .tuple #[.int .i64 (valF l : Int), .bool true]) := Lib.hid (by
            have h3 : ¬ (l.head? = some 48 ∧ l ≠ [48]) := by
              rcases hcase with h | h
              · exact fun h2 => h.2 h2.1
              · exact fun h2 => h2.2 (by simpa using h.2)
            have h1 : l ≠ [] := by rw [← hl]; simp
            unfold numOut numF
            by_cases hv : 1099511627776 < valF l
            · rw [if_pos (.inr (.inr (.inr hv))), if_pos hv]
            · rw [if_neg (by simp only [not_or]; exact ⟨h1, by rw [ha]; decide, h3, hv⟩), if_neg hv])
          have hl13 : l.length ≤ 13 := by omega
          clear ha hme hl h48 hlen hlb
          rcases hcase with ⟨hd1, hd2⟩ | ⟨hd1, hd2⟩
          rotate_left
          · obtain rfl : l = [48] := by simpa using hd2
            clear hd2
            have hd3 : (c == 48) = true := by rw [← u8_eq]; exact hd1
            obtain rfl : c = 48 := by simpa using hd3
            have HN : Hid (numOut [48] = .tuple #[.int .i64 0, .bool true]) := Lib.hid rfl
            clear HO HB HD HT hd1 hd3 ht0
            go_enter Tryd.func85, Tryd.ntmps85
            go_wp2_with fail
            refine HTW.out.mono ?_
            rintro e w' ⟨rfl, rfl⟩
            go_wp2_with fail
            go_loop [4, 31] (fun n i => (n = .int .i64 0 ∧ i = .int .i64 0) ∨ (n = .int .i64 0 ∧ i = .int .i64 1)) (fun _ i => 1 - (intOf i).toNat)
            case atStart => exact .inl ⟨rfl, rfl⟩
            case round =>
              rcases hrel with ⟨rfl, rfl⟩ | ⟨rfl, rfl⟩
              · go_wp2_with fail
                go_round
                case rel => exact .inr ⟨by go_num, by go_num⟩
                case measure => simp [intOf]
              · go_wp2_with fail
                go_ret2
                exact ⟨by rw [HN.out]; rfl, rfl⟩
          · have hd3 : (c == 48) = false := by rw [← u8_eq]; exact hd1
            clear hd2
            go_enter Tryd.func85, Tryd.ntmps85
            go_wp2_with fail
            refine HTW.out.mono ?_
            rintro e w' ⟨rfl, rfl⟩
            clear HTW
            go_wp2_with fail
            clear hget hd1 hd3
            go_loop [4, 31] (fun n i => ∃ k : Nat, k ≤ l.length ∧ i = .int .i64 k ∧ n = .int .i64 (valF (l.take k) : Nat)) (fun _ i => l.length - (intOf i).toNat)
            case atStart => exact ⟨0, Nat.zero_le _, rfl, rfl⟩
            case round =>
              obtain ⟨k, hk, rfl, rfl⟩ := hrel
              have hb := HB.out k
              by_cases hlt : k < l.length
              · have hget : ∀ h, (bs l)[k]'h = l[k]'hlt := fun h => rfl
                have hdk := List.all_eq_true.1 HD.out l[k] (List.getElem_mem hlt)
                simp only [digitC, digitI, Bool.and_eq_true, decide_eq_true_eq] at hdk
                have HS := Lib.hid (HT.out k hlt)
                have h48 : (48 : Int) ≤ (l[k]'hlt).toNat := hdk.1
                have h57 : ((l[k]'hlt).toNat : Int) ≤ 57 := hdk.2
                clear hdk
                generalize l[k]'hlt = d at *
                generalize valF (l.take k) = v at *
                go_wp2_with fail
                go_round
                case rel => exact ⟨k + 1, by omega, by go_num, by rw [HS.out]; go_num⟩
                case measure => simp [intOf]; omega
              · have he : l.take k = l := List.take_of_length_le (by omega)
                rw [he] at hb ⊢
                have HO2 := Lib.hid HO.out
                clear he HO HT HB HD
                generalize valF l = v at *
                by_cases hv : 1099511627776 < v
                · have HN : Hid (numOut l = .tuple #[.int .i64 0, .bool false]) := Lib.hid (by rw [HO2.out, if_pos hv])
                  go_wp2_with fail
                  go_ret2
                  exact ⟨by rw [HN.out]; rfl, rfl⟩
                · have HN : Hid (numOut l = .tuple #[.int .i64 (v : Int), .bool true]) := Lib.hid (by rw [HO2.out, if_neg hv])
                  go_wp2_with fail
                  go_ret2
                  exact ⟨by rw [HN.out]; rfl, rfl⟩
def tokC (s : Sh) (pos : Int) : Array Value := #[.int .i64 s.kind, .string (bs s.text), .int .i64 s.n, .int .i64 pos]
abbrev zeroTok : Value := .agg #[.int .i64 0, .string ⟨#[]⟩, .int .i64 0, .int .i64 0]
def nextOut (l : List UInt8) : Value := match nextF l with
  | .ok s => .tuple #[.agg (tokC s 0), .int .i64 0]
  | .error e => .tuple #[zeroTok, .int .i64 e]
theorem nextOut_ok {l : List UInt8} {s : Sh} (h : nextF l = .ok s) : nextOut l = .tuple #[.agg (tokC s 0), .int .i64 0] := by unfold nextOut; rw [h]
theorem nextOut_err {l : List UInt8} {e : Int} (h : nextF l = .error e) : nextOut l = .tuple #[zeroTok, .int .i64 e] := by unfold nextOut; rw [h]
theorem tw_take {p : UInt8 → Bool} (l : List UInt8) : l.take (l.takeWhile p).length = l.takeWhile p := by
  have h := (tw_split (p := p) l).1
  generalize l.takeWhile p = t at *
  rw [h]
  simp
set_option maxRecDepth 100000 in
set_option maxHeartbeats 1000000 in
theorem lexNext_any (c : UInt8) (r : List UInt8) (w : World) (hs : (c :: r).length ≤ 1000000) :
    Calls Tryd.prog 66 #[.string (bs (c :: r))] w fun e w' => e = .returned (nextOut (c :: r)) ∧ Below w.heap.size w w' := by
  have hz : (bs (c :: r)).size = (c :: r).length := bs_size _
  have hget : ∀ h, (bs (c :: r))[0]'h = c := fun h => rfl
  have hpos : 0 < (c :: r).length := by simp
  have HSW := Lib.hid (fun w => spanWord (c :: r) w (by omega))
  have HSD := Lib.hid (fun w => spanDigit (c :: r) w (by omega))
  have HEq := Lib.hid (nextF_cons c r)
  have HB : Hid (∀ o, Below w.heap.size w (w.alloc o)) := Lib.hid (fun o => (Below.refl _ _).alloc (Nat.le_refl _) _)
  have htk1 := tw_take (p := wordC) (c :: r)
  have htk2 := tw_take (p := digitC) (c :: r)
  have hle1 := tw_le (p := wordC) (c :: r)
  have hle2 := tw_le (p := digitC) (c :: r)
  generalize c :: r = l at *
  cases hlc : letterC c with
  | true =>
    have hli : letterI c.toNat = true := hlc
    have ht := bs_take l (l.takeWhile wordC).length
    rw [htk1] at ht
    have hE := HEq.out
    rw [if_pos hlc] at hE
    generalize l.takeWhile wordC = t at *
    cases hw : wordL t with
    | true =>
      have hwb : wordB (bs t) = true := hw
      rw [if_pos hw] at hE
      have HN := Lib.hid (nextOut_ok hE)
      clear hE HEq hlc hw htk1 htk2 hle2 HSD
      go_enter Tryd.func66, Tryd.ntmps66
      go_wp2_with fail
      refine (lexLetter_any _ _).mono ?_
      rintro e w' ⟨rfl, rfl⟩
      rw [hli]
      go_wp2_with fail
      refine (HSW.out _).mono ?_
      rintro e w' ⟨rfl, rfl⟩
      go_wp2_with fail
      refine (lexWord_any _ _ (by rw [bs_size]; omega)).mono ?_
      rintro e w' ⟨rfl, rfl⟩
      rw [hwb]
      go_wp2_with fail
      exact bodyPost_ret (v := .tuple #[.agg #[.int .i64 0, .string (bs t), .int .i64 0, .int .i64 0], .int .i64 0]) (by simp [results, Tryd.results66, go_sem]) rfl ⟨by first | (rw [HN.out]; done) | (rw [HN.out]; rfl), HB.out _⟩
    | false =>
      have hwb : wordB (bs t) = false := hw
      rw [if_neg (by rw [hw]; decide)] at hE
      have HN := Lib.hid (nextOut_err hE)
      clear hE HEq hlc hw htk1 htk2 hle2 HSD
      go_enter Tryd.func66, Tryd.ntmps66
      go_wp2_with fail
      refine (lexLetter_any _ _).mono ?_
      rintro e w' ⟨rfl, rfl⟩
      rw [hli]
      go_wp2_with fail
      refine (HSW.out _).mono ?_
      rintro e w' ⟨rfl, rfl⟩
      go_wp2_with fail
      refine (lexWord_any _ _ (by rw [bs_size]; omega)).mono ?_
      rintro e w' ⟨rfl, rfl⟩
      rw [hwb]
      go_wp2_with fail
      exact bodyPost_ret (v := .tuple #[.agg #[.int .i64 0, .string ⟨#[]⟩, .int .i64 0, .int .i64 0], .int .i64 11]) (by simp [results, Tryd.results66, go_sem]) rfl ⟨by first | (rw [HN.out]; done) | (rw [HN.out]; rfl), HB.out _⟩
  | false =>
    have hli : letterI c.toNat = false := hlc
    have hE := HEq.out
    rw [if_neg (by rw [hlc]; decide)] at hE
    cases hdc : digitC c with
    | true =>
      have hdi : digitI c.toNat = true := hdc
      rw [if_pos hdc] at hE
      have ht := bs_take l (l.takeWhile digitC).length
      rw [htk2] at ht
      generalize l.takeWhile digitC = t at *
      cases hn : numF t with
      | some n =>
        rw [hn] at hE
        have HN := Lib.hid (nextOut_ok hE)
        have HO := Lib.hid (numOut_some hn)
        clear hE HEq hlc hdc hn htk1 htk2 hle1 HSW
        go_enter Tryd.func66, Tryd.ntmps66
        go_wp2_with fail
        refine (lexLetter_any _ _).mono ?_
        rintro e w' ⟨rfl, rfl⟩
        rw [hli]
        go_wp2_with fail
        refine (lexDigit_any _ _).mono ?_
        rintro e w' ⟨rfl, rfl⟩
        rw [hdi]
        go_wp2_with fail
        refine (HSD.out _).mono ?_
        rintro e w' ⟨rfl, rfl⟩
        go_wp2_with fail
        refine (lexNumber_any t _ (by omega)).mono ?_
        rintro e w' ⟨rfl, rfl⟩
        rw [HO.out]
        go_wp2_with fail
        exact bodyPost_ret (v := .tuple #[.agg #[.int .i64 1, .string (bs t), .int .i64 n, .int .i64 0], .int .i64 0]) (by simp [results, Tryd.results66, go_sem]) rfl ⟨by first | (rw [HN.out]; done) | (rw [HN.out]; rfl), HB.out _⟩
      | none =>
        rw [hn] at hE
        have HN := Lib.hid (nextOut_err hE)
        have HO := Lib.hid (numOut_none hn)
        clear hE HEq hlc hdc hn htk1 htk2 hle1 HSW
        go_enter Tryd.func66, Tryd.ntmps66
        go_wp2_with fail
        refine (lexLetter_any _ _).mono ?_
        rintro e w' ⟨rfl, rfl⟩
        rw [hli]
        go_wp2_with fail
        refine (lexDigit_any _ _).mono ?_
        rintro e w' ⟨rfl, rfl⟩
        rw [hdi]
        go_wp2_with fail
        refine (HSD.out _).mono ?_
        rintro e w' ⟨rfl, rfl⟩
        go_wp2_with fail
        refine (lexNumber_any t _ (by omega)).mono ?_
        rintro e w' ⟨rfl, rfl⟩
        rw [HO.out]
        go_wp2_with fail
        exact bodyPost_ret (v := .tuple #[.agg #[.int .i64 0, .string ⟨#[]⟩, .int .i64 0, .int .i64 0], .int .i64 3]) (by simp [results, Tryd.results66, go_sem]) rfl ⟨by first | (rw [HN.out]; done) | (rw [HN.out]; rfl), HB.out _⟩
    | false =>
      have hdi : digitI c.toNat = false := hdc
      rw [if_neg (by rw [hdc]; decide)] at hE
      by_cases h59 : c = 59
      · rw [if_pos h59] at hE
        have HN := Lib.hid (nextOut_ok hE)
        subst h59
        have hli : letterI 59 = false := rfl
        have hdi : digitI 59 = false := rfl
        clear hE HEq hlc hdc htk1 htk2 hle1 hle2 HSW HSD
        go_enter Tryd.func66, Tryd.ntmps66
        go_wp2_with fail
        refine (lexLetter_any _ _).mono ?_
        rintro e w' ⟨rfl, rfl⟩
        rw [hli]
        go_wp2_with fail
        refine (lexDigit_any _ _).mono ?_
        rintro e w' ⟨rfl, rfl⟩
        rw [hdi]
        go_wp2_with fail
        exact bodyPost_ret (v := .tuple #[.agg #[.int .i64 2, .string ⟨#[59]⟩, .int .i64 0, .int .i64 0], .int .i64 0]) (by simp [results, Tryd.results66, go_sem]) rfl ⟨by first | (rw [HN.out]; done) | (rw [HN.out]; rfl), HB.out _⟩
      · rw [if_neg h59] at hE
        have HN := Lib.hid (nextOut_err hE)
        have hd2 : (c == 59) = false := by simpa using h59
        have hd1 : ((c.toNat : Int) == 59) = false := by have := u8_eq c 59; rw [hd2] at this; exact this
        clear hE HEq hlc hdc htk1 htk2 hle1 hle2 HSW HSD h59
        go_enter Tryd.func66, Tryd.ntmps66
        go_wp2_with fail
        refine (lexLetter_any _ _).mono ?_
        rintro e w' ⟨rfl, rfl⟩
        rw [hli]
        go_wp2_with fail
        refine (lexDigit_any _ _).mono ?_
        rintro e w' ⟨rfl, rfl⟩
        rw [hdi]
        go_wp2_with fail
        exact bodyPost_ret (v := .tuple #[.agg #[.int .i64 0, .string ⟨#[]⟩, .int .i64 0, .int .i64 0], .int .i64 10]) (by simp [results, Tryd.results66, go_sem]) rfl ⟨by first | (rw [HN.out]; done) | (rw [HN.out]; rfl), HB.out _⟩
end Go.Proofs.YtnaejabgkfhlbaaDoor
