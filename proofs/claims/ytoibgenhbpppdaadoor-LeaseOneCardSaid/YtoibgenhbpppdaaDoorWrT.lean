/- Contracts of linguaref01's reader: its methods. -/
import Derived.Test.YtoibgenhbpppdaaDoorWrS
namespace Go.Proofs.YtoibgenhbpppdaaDoor
open Go.RowKit

theorem qNumber_any (b : Nat) (s : RS) (e : UInt8) (w : World) (he : 57 < e.toNat) (h : RqAt b s w) (hl : s.rest.length ≤ 1000000000000) :
    Calls Tryd.prog 43 #[.pointer (some ⟨b, 0, none⟩), .int .u8 e.toNat] w fun x w' => x = .returned (.int .i64 (rNum e 0 s).1) ∧ RqAt b (rNum e 0 s).2 w' ∧ Turn (One b) w w' := by
  have HC := Lib.hid (qAhead_any b s e w he h hl)
  have HZ := Lib.hid (rNum_zero e s)
  clear h hl he
  go_enter Tryd.func43, Tryd.ntmps43
  go_wp2_with fail
  refine HC.out.mono ?_
  rintro x w2 ⟨rfl, h2, t2⟩
  have H2 := Lib.hid h2
  have T2 := Lib.hid t2
  clear h2 t2 HC
  generalize rNum e (-9223372036854775808) s = r at *
  obtain ⟨n, q⟩ := r
  simp only at HZ H2 ⊢
  by_cases hn : n < 0
  · have HD : Hid (rNum e 0 s = (0, .fail)) := Lib.hid (by rw [HZ.out, if_pos hn])
    go_wp2_with fail
    refine (qFail_any b q w2 H2.out).mono ?_
    rintro x w5 ⟨rfl, hr5, ht5⟩
    go_wp2_with fail
    go_ret
    exact ⟨by rw [HD.out]; rfl, by rw [HD.out]; exact hr5, T2.out.trans ht5 (fun i hi => .inl hi)⟩
  · have HD : Hid (rNum e 0 s = (n, q)) := Lib.hid (by rw [HZ.out, if_neg hn])
    go_wp2_with fail
    go_ret
    exact ⟨by rw [HD.out]; rfl, by rw [HD.out]; exact H2.out, T2.out⟩
theorem qNum_any (b : Nat) (s : RS) (w : World) (h : RqAt b s w) (hl : s.rest.length ≤ 1000000000000) :
    Calls Tryd.prog 36 #[.pointer (some ⟨b, 0, none⟩)] w fun x w' => x = .returned (.int .i64 (rNum 59 0 s).1) ∧ RqAt b (rNum 59 0 s).2 w' ∧ Turn (One b) w w' := by
  have HC := Lib.hid (qNumber_any b s 59 w (by decide) h hl)
  go_enter Tryd.func36, Tryd.ntmps36
  go_wp2_with fail
  refine HC.out.mono ?_
  rintro x w2 ⟨rfl, h2, t2⟩
  go_wp2_with fail
  go_ret
  exact ⟨rfl, h2, t2⟩
set_option maxRecDepth 100000 in
theorem qClose_any (b : Nat) (s : RS) (c : UInt8) (w : World) (h : RqAt b s w) :
    Calls Tryd.prog 45 #[.pointer (some ⟨b, 0, none⟩), .int .u8 c.toNat] w fun x w' => x = .returned (.bool (Lib.hasPrefix s.rest [c])) ∧ RqAt b (rClose c s) w' ∧ Turn (One b) w w' := by
  have c0 := h.c0
  have c1 := h.c1
  have f0 := h.free 0
  have hsz : (bs s.rest).size = s.rest.length := bs_size _
  obtain ⟨rest, bad⟩ := s
  simp only at c0 c1 hsz ⊢
  have H0 := Lib.hid h
  clear h
  go_enter Tryd.func45, Tryd.ntmps45
  cases rest with
  | nil =>
    have HD : Hid (rClose c ⟨[], bad⟩ = .fail) := Lib.hid rfl
    go_wp2_with fail
    refine (qFail_any b _ w H0.out).mono ?_
    rintro x w5 ⟨rfl, hr5, ht5⟩
    go_wp2_with fail
    go_ret
    exact ⟨rfl, by rw [HD.out]; exact hr5, ht5⟩
  | cons d r =>
    have hget : ∀ h, (bs (d :: r))[0]'h = d := fun h => rfl
    have hp : (0 : Int) < (d :: r).length := by simp
    have hp2 : ¬ ((d :: r).length : Int) = 0 := by simp; omega
    by_cases hc : d = c
    · subst hc
      have HD : Hid (rClose d ⟨d :: r, bad⟩ = ⟨r, bad⟩) := Lib.hid (rClose_back d r bad)
      have hne : ((d.toNat : Int) != d.toNat) = false := by simp
      have hdr : (bs (d :: r)).extract 1 (r.length + 1) = bs r := bs_drop (d :: r) 1
      have HP : Hid (Lib.hasPrefix (d :: r) [d] = true) := Lib.hid (by simp [Lib.hasPrefix])
      go_wp2_with fail
      go_ret
      exact ⟨by rw [HP.out]; rfl, by rw [HD.out]; exact H0.out.set0 r, (Turn.refl (One b) w).set b 0 _ (.inl rfl)⟩
    · have hP : Lib.hasPrefix (d :: r) [c] = false := by
        have : (c == d) = false := by simp only [beq_eq_false_iff_ne]; exact fun h => hc h.symm
        simp only [Lib.hasPrefix, List.isPrefixOf, this, Bool.false_and]
      have HD : Hid (rClose c ⟨d :: r, bad⟩ = .fail) := Lib.hid (by unfold rClose; rw [hP]; rfl)
      have HP := Lib.hid hP
      clear hP
      have hne : ((d.toNat : Int) != c.toNat) = true := by simp; intro h; exact hc (UInt8.toNat_inj.1 (by omega))
      have hne2 : ((d.toNat : Int) == c.toNat) = false := by simp; intro h; exact hc (UInt8.toNat_inj.1 (by omega))
      go_wp2_with fail
      refine (qFail_any b _ w H0.out).mono ?_
      rintro x w5 ⟨rfl, hr5, ht5⟩
      go_wp2_with fail
      go_ret
      exact ⟨by rw [HP.out]; rfl, by rw [HD.out]; exact hr5, ht5⟩
theorem good_num {e : UInt8} {m : Int} {s : RS} (hg : Good s) : Good (rNum e m s).2 := fun h => by
  rcases rNum_cases e m s with h1 | ⟨n, _, _, hr, h1⟩
  · rw [h1]; rfl
  · rw [h1] at h
    rw [hg h] at hr
    simp at hr
theorem num_bad {e : UInt8} {m : Int} {s : RS} (hg : Good s) (h : (rNum e m s).2.bad = true) : rNum e m s = (0, .fail) := by
  rcases rNum_cases e m s with h1 | ⟨n, _, _, hr, h1⟩
  · exact h1
  · rw [h1] at h
    rw [hg h] at hr
    simp at hr
theorem close_nil (c : UInt8) (bad : Bool) : rClose c ⟨[], bad⟩ = .fail := rfl
set_option maxRecDepth 100000 in
set_option maxHeartbeats 1000000 in
theorem qText_any (b : Nat) (s : RS) (w : World) (hg : Good s) (h : RqAt b s w) (hl : s.rest.length ≤ 1000000000000) :
    Calls Tryd.prog 37 #[.pointer (some ⟨b, 0, none⟩)] w fun x w' => x = .returned (.string (bs (rText s).1)) ∧ RqAt b (rText s).2 w' ∧ Turn (One b) w w' := by
  have HC := Lib.hid (qNumber_any b s 58 w (by decide) h hl)
  have HDf : Hid (rText s = _) := Lib.hid (show rText s = (if ((rNum 58 0 s).2.rest.length : Int) < (rNum 58 0 s).1 then ([], .fail) else
    let s3 := rClose 44 ⟨(rNum 58 0 s).2.rest.drop (rNum 58 0 s).1.toNat, (rNum 58 0 s).2.bad⟩
    if s3.bad then ([], s3) else ((rNum 58 0 s).2.rest.take (rNum 58 0 s).1.toNat, s3)) from rfl)
  have HBad := Lib.hid (fun hb => num_bad (e := 58) (m := 0) hg hb)
  have HG := Lib.hid (rNum_ge 58 s)
  clear h hl
  go_enter Tryd.func37, Tryd.ntmps37
  go_wp2_with fail
  refine HC.out.mono ?_
  rintro x w2 ⟨rfl, h2, t2⟩
  have H2 := Lib.hid h2
  have T2 := Lib.hid t2
  clear h2 t2 HC
  generalize rNum 58 0 s = r at *
  obtain ⟨n, q⟩ := r
  simp only at HDf HBad HG H2 ⊢
  have c0 := H2.out.c0
  have c1 := H2.out.c1
  have f0 := H2.out.free 0
  have hsl : (bs q.rest).size = q.rest.length := bs_size _
  have hG := HG.out
  cases hqb : q.bad with
  | true =>
    have hq := HBad.out hqb
    have HD : Hid (rText s = ([], .fail)) := Lib.hid (by
      have e := HDf.out
      have h1 : n = 0 := congrArg Prod.fst hq
      have h2 : q = .fail := congrArg Prod.snd hq
      subst h1; subst h2
      rw [e]; rfl)
    rw [hqb] at c1
    clear hq hqb
    go_wp2_with fail
    refine (qFail_any b q w2 H2.out).mono ?_
    rintro x w5 ⟨rfl, hr5, ht5⟩
    go_wp2_with fail
    go_ret
    exact ⟨by rw [HD.out]; rfl, by rw [HD.out]; exact hr5, T2.out.trans ht5 (fun i hi => .inl hi)⟩
  | false =>
    rw [hqb] at c1
    by_cases hlen : (q.rest.length : Int) ≤ n
    · have HD : Hid (rText s = ([], .fail)) := Lib.hid (by
        rw [HDf.out]
        by_cases h1 : (q.rest.length : Int) < n
        · rw [if_pos h1]
        · rw [if_neg h1]
          have : q.rest.drop n.toNat = [] := List.drop_eq_nil_of_le (by omega)
          simp only [this, close_nil]
          rfl)
      clear hqb
      go_wp2_with fail
      refine (qFail_any b q w2 H2.out).mono ?_
      rintro x w5 ⟨rfl, hr5, ht5⟩
      go_wp2_with fail
      go_ret
      exact ⟨by rw [HD.out]; rfl, by rw [HD.out]; exact hr5, T2.out.trans ht5 (fun i hi => .inl hi)⟩
    · have hD := HDf.out
      rw [if_neg (by omega), hqb] at hD
      have HD := Lib.hid hD
      have H3 := Lib.hid (H2.out.set0 (q.rest.drop n.toNat))
      have T3 := Lib.hid (T2.out.set b 0 (.string (bs (q.rest.drop n.toNat))) (.inl rfl))
      have h3 := H3.out
      rw [hqb] at h3
      have H3 := Lib.hid h3
      clear hD hqb h3
      have ht := bs_take q.rest n.toNat
      have hd := bs_drop q.rest n.toNat
      have hlt : ¬ (q.rest.length : Int) ≤ n := hlen
      go_wp2_with fail
      refine (qClose_any b ⟨q.rest.drop n.toNat, false⟩ 44 _ H3.out).mono ?_
      rintro x w4 ⟨rfl, h4, t4⟩
      have H4 := Lib.hid h4
      have T4 := Lib.hid (T3.out.trans t4 (fun i hi => .inl hi))
      have HPr := Lib.hid (show rClose 44 ⟨q.rest.drop n.toNat, false⟩ = if Lib.hasPrefix (q.rest.drop n.toNat) [44] then ⟨(q.rest.drop n.toNat).tail, false⟩ else .fail from rfl)
      clear h4 t4 H3 T3
      simp only
      cases hp : Lib.hasPrefix (q.rest.drop n.toNat) [44] with
      | true =>
        have e := HPr.out
        rw [hp, if_pos rfl] at e
        have hD := HD.out
        simp only [e] at hD
        have HD := Lib.hid hD
        have h4 := H4.out
        rw [e] at h4
        have H4 := Lib.hid h4
        clear e hD hp h4
        go_wp2_with fail
        go_ret
        exact ⟨by rw [HD.out]; rfl, by rw [HD.out]; exact H4.out, T4.out⟩
      | false =>
        have e := HPr.out
        rw [hp, if_neg (by simp)] at e
        have hD := HD.out
        simp only [e] at hD
        have HD := Lib.hid hD
        have h4 := H4.out
        rw [e] at h4
        have H4 := Lib.hid h4
        clear e hD hp h4
        go_wp2_with fail
        go_ret
        exact ⟨by rw [HD.out]; rfl, by rw [HD.out]; exact H4.out, T4.out⟩
theorem qDone_any (b : Nat) (s : RS) (w : World) (h : RqAt b s w) :
    Calls Tryd.prog 38 #[.pointer (some ⟨b, 0, none⟩)] w fun x w' => x = .returned (.bool (rDone s)) ∧ w = w' := by
  have c0 := h.c0
  have c1 := h.c1
  have hq : (bs s.rest).toList.isEmpty = s.rest.isEmpty := by rw [bs_toList]
  have HD := Lib.hid (show rDone s = (!s.bad && s.rest.isEmpty) from rfl)
  go_enter Tryd.func38, Tryd.ntmps38
  generalize s.bad = bad at *
  cases bad
  · go_wp2_with fail
    go_ret
    exact ⟨by rw [HD.out]; simp, rfl⟩
  · go_wp2_with fail
    go_ret
    exact ⟨by rw [HD.out]; rfl, rfl⟩
theorem qOpen_any (l : List UInt8) (w : World) :
    Calls Tryd.prog 35 #[.string (bs l)] w fun x w' => x = .returned (.pointer (some ⟨w.heap.size, 0, none⟩)) ∧ RqAt w.heap.size ⟨l, false⟩ w' ∧ Below w.heap.size w w' := by
  go_enter Tryd.func35, Tryd.ntmps35
  go_wp2_with fail
  go_ret
  exact ⟨rfl, (MapKept.heap_alloc w _).1, (Below.refl _ _).alloc (Nat.le_refl _) _⟩
end Go.Proofs.YtoibgenhbpppdaaDoor
