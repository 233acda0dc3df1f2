/- Contracts of linguaref01's reader: numbers. -/
import Derived.Test.YtoibgenhbpppdaaDoorWrR
namespace Go.Proofs.YtoibgenhbpppdaaDoor
open Go.RowKit

theorem rNum_cases (e : UInt8) (m : Int) (s : RS) : rNum e m s = (0, .fail) ∨ ∃ n, m ≤ n ∧ InInt n ∧ s.rest = Lib.itoa n ++ e :: s.rest.drop ((Lib.itoa n).length + 1) ∧ rNum e m s = (n, ⟨s.rest.drop ((Lib.itoa n).length + 1), s.bad⟩) := by
  have hix := index_split (s.rest.take 21) e
  have hlt := indexByte_in (s.rest.take 21) e
  have hdef : rNum e m s = if Lib.indexByte (s.rest.take 21) e < 0 then (0, .fail) else
    match Lib.atoiAll ((s.rest.take 21).take (Lib.indexByte (s.rest.take 21) e).toNat) with
    | .ok n => if Lib.itoa n = (s.rest.take 21).take (Lib.indexByte (s.rest.take 21) e).toNat ∧ m ≤ n then (n, ⟨s.rest.drop ((Lib.indexByte (s.rest.take 21) e).toNat + 1), s.bad⟩) else (0, .fail)
    | _ => (0, .fail) := rfl
  rw [hdef]
  by_cases h0 : Lib.indexByte (s.rest.take 21) e < 0
  · left; rw [if_pos h0]
  · rw [if_neg h0]
    have h1 := hix (by omega)
    have h2 := hlt (by omega)
    generalize Lib.indexByte (s.rest.take 21) e = a at *
    have h3 : a.toNat < 21 := by
      have : (s.rest.take 21).length ≤ 21 := by simp; omega
      omega
    have h4 : a.toNat < s.rest.length := by
      have : (s.rest.take 21).length ≤ s.rest.length := by simp; omega
      omega
    rw [List.getElem?_take_of_lt h3] at h1
    have h5 : s.rest[a.toNat] = e := by rw [List.getElem?_eq_getElem h4] at h1; exact Option.some.inj h1
    have h6 : (s.rest.take 21).take a.toNat = s.rest.take a.toNat := by rw [List.take_take, Nat.min_eq_left (by omega)]
    rw [h6]
    rcases hA : Lib.atoiAll (s.rest.take a.toNat) with n | _ | _
    · simp only
      by_cases hq : Lib.itoa n = s.rest.take a.toNat ∧ m ≤ n
      · right
        have hlen : (Lib.itoa n).length = a.toNat := by rw [hq.1]; simp; omega
        refine ⟨n, hq.2, Lib.atoiAll_bounds hA, ?_, ?_⟩
        · rw [hlen, hq.1]
          conv => lhs; rw [← List.take_append_drop a.toNat s.rest, List.drop_eq_getElem_cons h4, h5]
        · rw [if_pos hq, hlen]
      · left; rw [if_neg hq]
    · left; rfl
    · left; rfl
theorem rNum_none {e : UInt8} {m : Int} {s : RS} (h : ∀ n, InInt n → ∀ tl, s.rest ≠ Lib.itoa n ++ e :: tl) : rNum e m s = (0, .fail) := by
  rcases rNum_cases e m s with h1 | ⟨n, _, hn, hr, _⟩
  · exact h1
  · exact absurd hr (h n hn _)
theorem rNum_zero (e : UInt8) (s : RS) : rNum e 0 s = if (rNum e (-9223372036854775808) s).1 < 0 then (0, .fail) else rNum e (-9223372036854775808) s := by
  unfold rNum
  simp only
  split
  · simp
  · split
    · rename_i n hn
      have hb := Lib.atoiAll_bounds hn
      generalize (⟨s.rest.drop ((Lib.indexByte (s.rest.take 21) e).toNat + 1), s.bad⟩ : RS) = q
      by_cases h1 : Lib.itoa n = (s.rest.take 21).take (Lib.indexByte (s.rest.take 21) e).toNat
      · simp only [h1, true_and]
        by_cases h2 : 0 ≤ n
        · have h3 : ¬ n < 0 := by omega
          simp only [h2, hb.1, if_true, h3, if_false]
        · have h3 : n < 0 := by omega
          simp only [h2, hb.1, if_true, h3, if_false]
      · simp only [h1, false_and, if_false]
        simp
    · simp
/-- The first place of a byte. -/
theorem first_eq {l r : List UInt8} {e : UInt8} {k : Nat} (hk : k < l.length) (he : l[k] = e) (hno : e ∉ l.take k) {d : List UInt8} (hd : e ∉ d) (h : l = d ++ e :: r) : l.take k = d := by
  have h1 := index_at d r e hd
  have h2 : l = l.take k ++ e :: l.drop (k + 1) := by
    conv => lhs; rw [← List.take_append_drop k l, List.drop_eq_getElem_cons hk, he]
  have h3 := index_at (l.take k) (l.drop (k + 1)) e hno
  rw [← h2] at h3
  rw [← h] at h1
  have h4 : (l.take k).length = d.length := by rw [h1] at h3; omega
  have h5 : k = d.length := by rw [List.length_take] at h4; omega
  rw [h, h5]; simp
theorem no_form {l : List UInt8} {e : UInt8} (he : 57 < e.toNat) (h : e ∉ l.take 21) : ∀ n, InInt n → ∀ tl, l ≠ Lib.itoa n ++ e :: tl := fun n hn tl hl => by
  have h20 := itoa_20 n hn.1 hn.2
  apply h
  rw [hl, List.take_append, List.mem_append]
  right
  rw [show 21 - (Lib.itoa n).length = (20 - (Lib.itoa n).length) + 1 by omega, List.take_succ_cons]
  simp
/-- What 'ahead' finds at its end. -/
theorem ahead_ok {e : UInt8} (he : 57 < e.toNat) {s : RS} {k : Nat} (hk : k < s.rest.length) (hek : s.rest[k] = e) (hno : e ∉ s.rest.take k) {v : Int} {ok : Bool} (hf : IsForm (s.rest.take k) v ok) :
    rNum e (-9223372036854775808) s = if ok then (v, ⟨s.rest.drop (k + 1), s.bad⟩) else (0, .fail) := by
  cases ok with
  | true =>
    obtain ⟨h1, h2⟩ := hf.1 rfl
    have h3 : s = ⟨Lib.itoa v ++ e :: s.rest.drop (k + 1), s.bad⟩ := by
      rw [h1]
      have : s.rest = s.rest.take k ++ e :: s.rest.drop (k + 1) := by
        conv => lhs; rw [← List.take_append_drop k s.rest, List.drop_eq_getElem_cons hk, hek]
      rw [← this]
    rw [if_pos rfl]
    conv => lhs; rw [h3]
    exact rNum_back he h2 h2.1 _ _
  | false =>
    rw [if_neg (by simp)]
    refine rNum_none fun n hn tl hr => ?_
    exact hf.2 rfl n hn (first_eq hk hek hno (not_mem_itoa he n) hr).symm
set_option maxRecDepth 100000 in
set_option maxHeartbeats 4000000 in
theorem qAhead_any (b : Nat) (s : RS) (e : UInt8) (w : World) (he : 57 < e.toNat) (h : RqAt b s w) (hl : s.rest.length ≤ 1000000000000) :
    Calls Tryd.prog 50 #[.pointer (some ⟨b, 0, none⟩), .int .u8 e.toNat] w fun x w' => x = .returned (.int .i64 (rNum e (-9223372036854775808) s).1) ∧ RqAt b (rNum e (-9223372036854775808) s).2 w' ∧ Turn (One b) w w' := by
  have H0 := Lib.hid h
  have c0 := h.c0
  have c1 := h.c1
  have f0 := h.free 0
  have f1 := h.free 1
  have hsz : (bs s.rest).size = s.rest.length := bs_size _
  have HNo := Lib.hid (fun (hno : e ∉ s.rest.take 21) => rNum_none (m := -9223372036854775808) (no_form he hno))
  have HE := Lib.hid he
  clear h
  go_enter Tryd.func50, Tryd.ntmps50
  go_wp2_with fail
  go_loopw [5] (fun i wr => ∃ k : Nat, k ≤ 21 ∧ k ≤ s.rest.length ∧ i = .int .i64 k ∧ e ∉ s.rest.take k ∧ wr = w) (fun i _ => 21 - (intOf i).toNat)
  case atStart => exact ⟨0, by omega, by omega, rfl, by simp, rfl⟩
  case round =>
    obtain ⟨k, hk21, hk, rfl, hno, rfl⟩ := hrel
    have HN := Lib.hid hno
    clear hno
    have failEnd : Hid (e ∉ s.rest.take 21 → rNum e (-9223372036854775808) s = (0, .fail)) := HNo
    by_cases hlt : k < s.rest.length
    · obtain ⟨c, hc⟩ : ∃ c, c = s.rest[k] := ⟨_, rfl⟩
      have hget : ∀ h, (bs s.rest)[k]'h = c := fun h => hc.symm
      have HC := Lib.hid hc
      clear hc
      by_cases h21 : k < 21
      · by_cases hce : c = e
        · have hne : ((c.toNat : Int) != e.toNat) = false := by simp [hce]
          have hne2 : ((c.toNat : Int) == e.toNat) = true := by simp [hce]
          have HAo := Lib.hid (fun v ok hf => ahead_ok HE.out hlt (HC.out.symm.trans hce) HN.out (v := v) (ok := ok) hf)
          have htk := bs_take s.rest k
          go_wp2_with fail
          refine (qBack_any (s.rest.take k) wr (by simp; omega)).mono ?_
          rintro x w3 ⟨v, ok, rfl, hf, hb3⟩
          have HD := Lib.hid (HAo.out v ok hf)
          have H3 := Lib.hid (H0.out.now hb3)
          have T3 := Lib.hid (Turn.below (F := One b) hb3)
          have c0 := H3.out.c0
          have c1 := H3.out.c1
          have f0 := H3.out.free 0
          have f1 := H3.out.free 1
          clear hf hb3 HAo
          cases ok with
          | true =>
            have hD := HD.out
            rw [if_pos rfl] at hD
            have HD := Lib.hid hD
            have hk1 : (k : Int) + 1 ≤ s.rest.length := by omega
            have hdr := bs_drop s.rest (k + 1)
            clear hD
            go_wp2_with fail
            go_ret
            exact ⟨by rw [HD.out]; rfl, by rw [HD.out]; exact H3.out.set0 _, T3.out.set b 0 _ (.inl rfl)⟩
          | false =>
            have hD := HD.out
            rw [if_neg (by simp)] at hD
            have HD := Lib.hid hD
            clear hD
            go_wp2_with fail
            refine (qFail_any b s w3 H3.out).mono ?_
            rintro x w5 ⟨rfl, hr5, ht5⟩
            go_wp2_with fail
            go_ret
            exact ⟨by rw [HD.out]; rfl, by rw [HD.out]; exact hr5, (T3.out).trans ht5 (fun i hi => .inl hi)⟩
        · have hne : ((c.toNat : Int) != e.toNat) = true := by simp; intro h; exact hce (UInt8.toNat_inj.1 (by omega))
          have hne2 : ((c.toNat : Int) == e.toNat) = false := by simp; intro h; exact hce (UInt8.toNat_inj.1 (by omega))
          have HN2 : Hid (e ∉ s.rest.take (k + 1)) := Lib.hid (by
            rw [List.take_succ_eq_append_getElem hlt, List.mem_append, List.mem_singleton]
            rintro (h | h)
            · exact HN.out h
            · exact hce (HC.out.trans h.symm))
          go_wp2_with fail
          go_roundw
          case rel => exact ⟨k + 1, by omega, by omega, by go_num, HN2.out, by first | rfl | trivial⟩
          case measure => simp [intOf]; omega
      · obtain rfl : k = 21 := by omega
        have HD := Lib.hid (failEnd.out HN.out)
        by_cases hce : c = e
        · have hne : ((c.toNat : Int) != e.toNat) = false := by simp [hce]
          have hne2 : ((c.toNat : Int) == e.toNat) = true := by simp [hce]
          have htk := bs_take s.rest 21
          go_wp2_with fail
          refine (qBack_any (s.rest.take 21) wr (by simp; omega)).mono ?_
          rintro x w3 ⟨v, ok, rfl, hf, hb3⟩
          have hok : ok = false := by
            cases ok with
            | false => rfl
            | true =>
              obtain ⟨h1, h2⟩ := hf.1 rfl
              have h3 := itoa_20 v h2.1 h2.2
              rw [h1] at h3
              simp at h3
              omega
          subst hok
          have H3 := Lib.hid (H0.out.now hb3)
          have T3 := Lib.hid (Turn.below (F := One b) hb3)
          clear hf hb3
          go_wp2_with fail
          refine (qFail_any b s w3 H3.out).mono ?_
          rintro x w5 ⟨rfl, hr5, ht5⟩
          go_wp2_with fail
          go_ret
          exact ⟨by rw [HD.out]; rfl, by rw [HD.out]; exact hr5, (T3.out).trans ht5 (fun i hi => .inl hi)⟩
        · have hne : ((c.toNat : Int) != e.toNat) = true := by simp; intro h; exact hce (UInt8.toNat_inj.1 (by omega))
          have hne2 : ((c.toNat : Int) == e.toNat) = false := by simp; intro h; exact hce (UInt8.toNat_inj.1 (by omega))
          go_wp2_with fail
          refine (qFail_any b s wr H0.out).mono ?_
          rintro x w5 ⟨rfl, hr5, ht5⟩
          go_wp2_with fail
          go_ret
          exact ⟨by rw [HD.out]; rfl, by rw [HD.out]; exact hr5, ((Turn.refl (One b) wr)).trans ht5 (fun i hi => .inl hi)⟩
    · have HD := Lib.hid (failEnd.out (fun hm => by
        have h1 := List.mem_of_mem_take hm
        have h2 := HN.out
        rw [List.take_of_length_le (by omega)] at h2
        exact h2 h1))
      have hle : (s.rest.length : Int) ≤ k := by omega
      go_wp2_with fail
      refine (qFail_any b s wr H0.out).mono ?_
      rintro x w5 ⟨rfl, hr5, ht5⟩
      go_wp2_with fail
      go_ret
      exact ⟨by rw [HD.out]; rfl, by rw [HD.out]; exact hr5, ((Turn.refl (One b) wr)).trans ht5 (fun i hi => .inl hi)⟩
end Go.Proofs.YtoibgenhbpppdaaDoor
