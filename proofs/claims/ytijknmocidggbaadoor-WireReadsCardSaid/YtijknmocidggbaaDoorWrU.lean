/- Contracts of linguaref01's reader: lists. -/
import Derived.Test.YtijknmocidggbaaDoorWrT
namespace Go.Proofs.YtijknmocidggbaaDoor
open Go.RowKit

theorem good_text {s : RS} (hg : Good s) : Good (rText s).2 := fun h => by
  have hn : Good (rNum 58 0 s).2 := good_num hg
  have hc : ∀ q : RS, Good q → Good (rClose 44 q) := fun q hq h => by
    unfold rClose at h ⊢
    split
    · rename_i hp
      rw [if_pos hp] at h
      show q.rest.tail = []
      rw [hq h]; rfl
    · rfl
  have h3 : Good (rClose 44 ⟨(rNum 58 0 s).2.rest.drop (rNum 58 0 s).1.toNat, (rNum 58 0 s).2.bad⟩) := hc _ (fun hb => by
    show (rNum 58 0 s).2.rest.drop _ = []
    rw [hn hb]; simp)
  unfold rText at h ⊢
  simp only at h ⊢
  split
  · rfl
  · rename_i h1
    rw [if_neg h1] at h
    split
    · rename_i hb; exact h3 hb
    · rename_i hb; rw [if_neg hb] at h; exact absurd h hb
/-- The rest of 'items', behind the rounds. -/
theorem items_end {T : Type} {one : RS → T × RS} {s q : RS} {m : Int} {out : List T} {s' : RS} (hr : rNum 91 0 s = (m, q)) (hl : itLoop one m.toNat q [] = (out, s')) :
    rItems one s = if (rClose 93 s').bad then ([], rClose 93 s') else (out, rClose 93 s') := by
  unfold rItems
  simp only [hr, hl]
set_option maxRecDepth 100000 in
set_option maxHeartbeats 2000000 in
theorem qNums_any (b : Nat) (s : RS) (w : World) (hg : Good s) (h : RqAt b s w) (hl : s.rest.length ≤ 1000000000000) :
    Calls Tryd.prog 37 #[.pointer (some ⟨b, 0, none⟩)] w fun x w' => ∃ A c, x = .returned (.slice A (rItems (rNum 59 (-9223372036854775808)) s).1.length c) ∧ OwnL w' w.heap.size 3 1 intE A c (rItems (rNum 59 (-9223372036854775808)) s).1 ∧ RqAt b (rItems (rNum 59 (-9223372036854775808)) s).2 w' ∧ Turn (One b) w w' := by
  have HC := Lib.hid (qNumber_any b s 91 w (by decide) h hl)
  have HGd := Lib.hid (good_num (e := 91) (m := 0) hg)
  have HG0 := Lib.hid (rNum_ge 91 s)
  have HR := Lib.hid (rNum_rest 91 0 s)
  have HN := Lib.hid (rNum_in 91 0 s)
  have HL := Lib.hid hl
  have hblt := h.lt
  clear h hl
  go_enter Tryd.func37, Tryd.ntmps37
  go_wp2_with fail
  refine HC.out.mono ?_
  rintro x w2 ⟨rfl, h2, t2⟩
  have T2 := Lib.hid t2
  have H2 := Lib.hid h2
  clear HC t2 h2
  have hG0 := HG0.out
  have hN := HN.out
  obtain ⟨r, hr⟩ : ∃ r, r = rNum 91 0 s := ⟨_, rfl⟩
  rw [← hr] at HGd HR H2 hG0 hN ⊢
  have HRn := Lib.hid hr.symm
  clear hr HG0 HN
  obtain ⟨n, q⟩ := r
  simp only at HGd HR H2 hG0 hN ⊢
  obtain ⟨m, rfl⟩ : ∃ m : Nat, n = m := ⟨n.toNat, by omega⟩
  have HL0 := Lib.hid (Nat.le_trans HR.out HL.out)
  have hm2 := hN.2
  go_wp2_with fail
  go_loopw [4, 5] (fun o i wr => ∃ (j : Nat) (s' : RS) (out : List (Int)) (A : Option Addr) (c : Nat), i = .int .i64 j ∧ j ≤ m ∧ o = .slice A out.length c ∧ OwnL wr w.heap.size 3 1 intE A c out ∧ RqAt b s' wr ∧ Good s' ∧ Turn (One b) w wr ∧ itLoop (rNum 59 (-9223372036854775808)) m q [] = itLoop (rNum 59 (-9223372036854775808)) (m - j) s' out ∧ out.length + s'.rest.length ≤ q.rest.length + one1 s'.bad) (fun _ i _ => m - (intOf i).toNat)
  case atStart => exact ⟨0, q, [], none, 0, rfl, Nat.zero_le _, rfl, OwnL.nil_, H2.out, HGd.out, T2.out, rfl, by simp⟩
  case round =>
    obtain ⟨j, s', out, A, c, rfl, hjm, rfl, hown, hrd, hgd, htu, heq, hlen⟩ := hrel
    have HO := Lib.hid hown
    have H3 := Lib.hid hrd
    have HG := Lib.hid hgd
    have T3 := Lib.hid htu
    have HEq := Lib.hid heq
    have HLn := Lib.hid hlen
    have c1 := hrd.c1
    clear hown hrd hgd htu heq hlen H2 T2
    by_cases hj : j < m
    · cases hbad : s'.bad with
      | false =>
        have HB := Lib.hid hbad
        rw [hbad] at c1
        clear hbad
        have hL1 : s'.rest.length ≤ 1000000000000 := by have := HLn.out; have := HL0.out; rw [HB.out] at *; simp [one1] at *; omega
        have HL1 := Lib.hid hL1
        clear hL1
        go_wp2_with fail
        refine (qInt_any b s' wr H3.out HL1.out).mono ?_
        rintro x w4 ⟨rfl, hr4, ht4⟩
        have H4 := Lib.hid hr4
        have T4 := Lib.hid (T3.out.trans ht4 (fun i hi => .inl hi))
        have HO4 := Lib.hid (HO.out.turn (w' := w4) (fun i hi hlt => ht4.block i hlt (fun e => by have := (HO.out.blk_lt hi).1; unfold One at e; omega)))
        have hea := (rNum_eats 59 (-9223372036854775808)) s' HB.out
        have HG4 : Hid (Good ((rNum 59 (-9223372036854775808)) s').2) := Lib.hid (good_num HG.out)
        have HE4 : Hid (itLoop (rNum 59 (-9223372036854775808)) m q [] = itLoop (rNum 59 (-9223372036854775808)) (m - (j + 1)) ((rNum 59 (-9223372036854775808)) s').2 (out ++ [((rNum 59 (-9223372036854775808)) s').1])) := Lib.hid (by
          rw [HEq.out, show m - j = (m - (j + 1)) + 1 by omega]
          exact itLoop_go (rNum 59 (-9223372036854775808)) _ s' out HB.out)
        have hln := HLn.out
        rw [HB.out] at hln
        have HL4 : Hid ((out ++ [((rNum 59 (-9223372036854775808)) s').1]).length + ((rNum 59 (-9223372036854775808)) s').2.rest.length ≤ q.rest.length + one1 ((rNum 59 (-9223372036854775808)) s').2.bad) := Lib.hid (by
          rcases hea with h | ⟨h, hb⟩
          · have e0 : one1 false = 0 := rfl
            rw [e0] at hln
            simp only [List.length_append, List.length_cons, List.length_nil]
            omega
          · have e0 : one1 false = 0 := rfl
            have e1 : one1 true = 1 := rfl
            rw [e0] at hln
            rw [hb, e1]
            simp only [List.length_append, List.length_cons, List.length_nil]
            omega)
        have HB5 : Hid (out.length + 1 ≤ 1000000000002) := Lib.hid (by have := HL0.out; simp [one1] at hln; omega)
        clear hr4 ht4 HO H3 T3 HEq HLn hea hln c1
        generalize (rNum 59 (-9223372036854775808)) s' = y at *
        obtain ⟨yv, ys⟩ := y
        simp only at H4 HE4 HL4 HG4 ⊢
        go_wp2_with (at_builtin; refine wp_append_l rfl (.tmp 20) (.tmp 23) rfl (by first | exact slInt | exact slStr) (by first | exact intLay | exact strLay) w.heap.size (xs := out) (ys := [yv]) rfl rfl (HO4.out.alloc _) rfl rfl (RdL.one w4 yv _ _ rfl _ rfl) (by have := HB5.out; simp; omega) (by have := T4.out.size; simp; omega) ?_; intro A2 c2 w6 hown hg hb2 hat; have HO2 := Lib.hid hown; have HB2 := Lib.hid (((Below.refl w.heap.size w4).alloc T4.out.size _).trans hb2); clear hown hg hb2 hat)
        go_roundw
        case rel => exact ⟨j + 1, ys, out ++ [yv], A2, c2, by go_num, by omega, by simp, HO2.out, (HB2.out.block b hblt).trans H4.out, HG4.out, T4.out.more HB2.out, HE4.out, HL4.out⟩
        case measure => simp [intOf]; omega
      | true =>
        have HE : Hid (itLoop (rNum 59 (-9223372036854775808)) (m : Int).toNat q [] = (out, s')) := Lib.hid (by rw [Int.toNat_natCast, HEq.out]; exact itLoop_bad _ _ _ _ hbad)
        have hs : s' = .fail := by
          have h1 := HG.out hbad
          obtain ⟨r', b'⟩ := s'
          simp only at h1 hbad
          subst h1; subst hbad; rfl
        have HD : Hid (rItems (rNum 59 (-9223372036854775808)) s = ([], .fail)) := Lib.hid (by rw [items_end HRn.out HE.out, hs]; rfl)
        have h3 := H3.out
        rw [hs] at h3
        have H3 := Lib.hid h3
        rw [hbad] at c1
        clear h3 hs hbad
        go_wp2_with fail
        go_ret
        exact ⟨none, 0, by rw [HD.out]; rfl, by rw [HD.out]; exact OwnL.nil_, by rw [HD.out]; exact H3.out, T3.out⟩
    · have HE : Hid (itLoop (rNum 59 (-9223372036854775808)) (m : Int).toNat q [] = (out, s')) := Lib.hid (by rw [Int.toNat_natCast, HEq.out, show m - j = 0 by omega]; rfl)
      have hE := items_end HRn.out (HE.out)
      have HE9 := Lib.hid hE
      clear hE
      cases hbd : s'.bad with
      | true =>
        have hs : s' = .fail := by
          have h1 := HG.out hbd
          obtain ⟨r', b'⟩ := s'
          simp only at h1 hbd
          subst h1; subst hbd; rfl
        have HD : Hid (rItems (rNum 59 (-9223372036854775808)) s = ([], .fail)) := Lib.hid (by rw [HE9.out, hs]; rfl)
        have h3 := H3.out
        rw [hs] at h3
        have H3 := Lib.hid h3
        rw [hbd] at c1
        clear h3 hs hbd
        go_wp2_with fail
        go_ret
        refine ⟨none, 0, by rw [HD.out]; rfl, by rw [HD.out]; exact OwnL.nil_, by rw [HD.out]; exact H3.out, T3.out⟩
      | false =>
        have HBf := Lib.hid hbd
        rw [hbd] at c1
        clear hbd
        go_wp2_with fail
        refine (qClose_any b s' 93 _ H3.out).mono ?_
        rintro x w4 ⟨rfl, hr4, ht4⟩
        have H4 := Lib.hid hr4
        have T4 := Lib.hid (T3.out.trans ht4 (fun i hi => .inl hi))
        have HO4 := Lib.hid (HO.out.turn (w' := w4) (fun i hi hlt => ht4.block i hlt (fun e => by have := (HO.out.blk_lt hi).1; unfold One at e; omega)))
        clear hr4 ht4
        cases hp : Lib.hasPrefix s'.rest [93] with
        | true =>
          have HD : Hid (rItems (rNum 59 (-9223372036854775808)) s = (out, rClose 93 s')) := Lib.hid (by
            rw [HE9.out, if_neg]
            unfold rClose
            rw [hp, if_pos rfl]
            simp only
            rw [HBf.out]; simp)
          clear hp
          go_wp2_with fail
          go_ret
          exact ⟨A, c, by rw [HD.out]; rfl, by rw [HD.out]; exact HO4.out, by rw [HD.out]; exact H4.out, T4.out⟩
        | false =>
          have HD : Hid (rItems (rNum 59 (-9223372036854775808)) s = ([], rClose 93 s')) := Lib.hid (by
            rw [HE9.out, if_pos]
            unfold rClose
            rw [hp]; rfl)
          clear hp
          go_wp2_with fail
          go_ret
          exact ⟨none, 0, by rw [HD.out]; rfl, by rw [HD.out]; exact OwnL.nil_, by rw [HD.out]; exact H4.out, T4.out⟩
set_option maxRecDepth 100000 in
set_option maxHeartbeats 2000000 in
theorem qTexts_any (b : Nat) (s : RS) (w : World) (hg : Good s) (h : RqAt b s w) (hl : s.rest.length ≤ 1000000000000) :
    Calls Tryd.prog 39 #[.pointer (some ⟨b, 0, none⟩)] w fun x w' => ∃ A c, x = .returned (.slice A (rItems rText s).1.length c) ∧ OwnL w' w.heap.size 9 1 strE A c (rItems rText s).1 ∧ RqAt b (rItems rText s).2 w' ∧ Turn (One b) w w' := by
  have HC := Lib.hid (qNumber_any b s 91 w (by decide) h hl)
  have HGd := Lib.hid (good_num (e := 91) (m := 0) hg)
  have HG0 := Lib.hid (rNum_ge 91 s)
  have HR := Lib.hid (rNum_rest 91 0 s)
  have HN := Lib.hid (rNum_in 91 0 s)
  have HL := Lib.hid hl
  have hblt := h.lt
  clear h hl
  go_enter Tryd.func39, Tryd.ntmps39
  go_wp2_with fail
  refine HC.out.mono ?_
  rintro x w2 ⟨rfl, h2, t2⟩
  have T2 := Lib.hid t2
  have H2 := Lib.hid h2
  clear HC t2 h2
  have hG0 := HG0.out
  have hN := HN.out
  obtain ⟨r, hr⟩ : ∃ r, r = rNum 91 0 s := ⟨_, rfl⟩
  rw [← hr] at HGd HR H2 hG0 hN ⊢
  have HRn := Lib.hid hr.symm
  clear hr HG0 HN
  obtain ⟨n, q⟩ := r
  simp only at HGd HR H2 hG0 hN ⊢
  obtain ⟨m, rfl⟩ : ∃ m : Nat, n = m := ⟨n.toNat, by omega⟩
  have HL0 := Lib.hid (Nat.le_trans HR.out HL.out)
  have hm2 := hN.2
  go_wp2_with fail
  go_loopw [4, 5] (fun o i wr => ∃ (j : Nat) (s' : RS) (out : List ((List UInt8))) (A : Option Addr) (c : Nat), i = .int .i64 j ∧ j ≤ m ∧ o = .slice A out.length c ∧ OwnL wr w.heap.size 9 1 strE A c out ∧ RqAt b s' wr ∧ Good s' ∧ Turn (One b) w wr ∧ itLoop rText m q [] = itLoop rText (m - j) s' out ∧ out.length + s'.rest.length ≤ q.rest.length + one1 s'.bad) (fun _ i _ => m - (intOf i).toNat)
  case atStart => exact ⟨0, q, [], none, 0, rfl, Nat.zero_le _, rfl, OwnL.nil_, H2.out, HGd.out, T2.out, rfl, by simp⟩
  case round =>
    obtain ⟨j, s', out, A, c, rfl, hjm, rfl, hown, hrd, hgd, htu, heq, hlen⟩ := hrel
    have HO := Lib.hid hown
    have H3 := Lib.hid hrd
    have HG := Lib.hid hgd
    have T3 := Lib.hid htu
    have HEq := Lib.hid heq
    have HLn := Lib.hid hlen
    have c1 := hrd.c1
    clear hown hrd hgd htu heq hlen H2 T2
    by_cases hj : j < m
    · cases hbad : s'.bad with
      | false =>
        have HB := Lib.hid hbad
        rw [hbad] at c1
        clear hbad
        have hL1 : s'.rest.length ≤ 1000000000000 := by have := HLn.out; have := HL0.out; rw [HB.out] at *; simp [one1] at *; omega
        have HL1 := Lib.hid hL1
        clear hL1
        go_wp2_with fail
        refine (qText_any b s' wr HG.out H3.out HL1.out).mono ?_
        rintro x w4 ⟨rfl, hr4, ht4⟩
        have H4 := Lib.hid hr4
        have T4 := Lib.hid (T3.out.trans ht4 (fun i hi => .inl hi))
        have HO4 := Lib.hid (HO.out.turn (w' := w4) (fun i hi hlt => ht4.block i hlt (fun e => by have := (HO.out.blk_lt hi).1; unfold One at e; omega)))
        have hea := (rText_eats) s' HB.out
        have HG4 : Hid (Good (rText s').2) := Lib.hid (good_text HG.out)
        have HE4 : Hid (itLoop rText m q [] = itLoop rText (m - (j + 1)) (rText s').2 (out ++ [(rText s').1])) := Lib.hid (by
          rw [HEq.out, show m - j = (m - (j + 1)) + 1 by omega]
          exact itLoop_go rText _ s' out HB.out)
        have hln := HLn.out
        rw [HB.out] at hln
        have HL4 : Hid ((out ++ [(rText s').1]).length + (rText s').2.rest.length ≤ q.rest.length + one1 (rText s').2.bad) := Lib.hid (by
          rcases hea with h | ⟨h, hb⟩
          · have e0 : one1 false = 0 := rfl
            rw [e0] at hln
            simp only [List.length_append, List.length_cons, List.length_nil]
            omega
          · have e0 : one1 false = 0 := rfl
            have e1 : one1 true = 1 := rfl
            rw [e0] at hln
            rw [hb, e1]
            simp only [List.length_append, List.length_cons, List.length_nil]
            omega)
        have HB5 : Hid (out.length + 1 ≤ 1000000000002) := Lib.hid (by have := HL0.out; simp [one1] at hln; omega)
        clear hr4 ht4 HO H3 T3 HEq HLn hea hln c1
        generalize rText s' = y at *
        obtain ⟨yv, ys⟩ := y
        simp only at H4 HE4 HL4 HG4 ⊢
        go_wp2_with (at_builtin; refine wp_append_l rfl (.tmp 20) (.tmp 23) rfl (by first | exact slInt | exact slStr) (by first | exact intLay | exact strLay) w.heap.size (xs := out) (ys := [yv]) rfl rfl (HO4.out.alloc _) rfl rfl (RdL.one w4 yv _ _ rfl _ rfl) (by have := HB5.out; simp; omega) (by have := T4.out.size; simp; omega) ?_; intro A2 c2 w6 hown hg hb2 hat; have HO2 := Lib.hid hown; have HB2 := Lib.hid (((Below.refl w.heap.size w4).alloc T4.out.size _).trans hb2); clear hown hg hb2 hat)
        go_roundw
        case rel => exact ⟨j + 1, ys, out ++ [yv], A2, c2, by go_num, by omega, by simp, HO2.out, (HB2.out.block b hblt).trans H4.out, HG4.out, T4.out.more HB2.out, HE4.out, HL4.out⟩
        case measure => simp [intOf]; omega
      | true =>
        have HE : Hid (itLoop rText (m : Int).toNat q [] = (out, s')) := Lib.hid (by rw [Int.toNat_natCast, HEq.out]; exact itLoop_bad _ _ _ _ hbad)
        have hs : s' = .fail := by
          have h1 := HG.out hbad
          obtain ⟨r', b'⟩ := s'
          simp only at h1 hbad
          subst h1; subst hbad; rfl
        have HD : Hid (rItems rText s = ([], .fail)) := Lib.hid (by rw [items_end HRn.out HE.out, hs]; rfl)
        have h3 := H3.out
        rw [hs] at h3
        have H3 := Lib.hid h3
        rw [hbad] at c1
        clear h3 hs hbad
        go_wp2_with fail
        go_ret
        exact ⟨none, 0, by rw [HD.out]; rfl, by rw [HD.out]; exact OwnL.nil_, by rw [HD.out]; exact H3.out, T3.out⟩
    · have HE : Hid (itLoop rText (m : Int).toNat q [] = (out, s')) := Lib.hid (by rw [Int.toNat_natCast, HEq.out, show m - j = 0 by omega]; rfl)
      have hE := items_end HRn.out (HE.out)
      have HE9 := Lib.hid hE
      clear hE
      cases hbd : s'.bad with
      | true =>
        have hs : s' = .fail := by
          have h1 := HG.out hbd
          obtain ⟨r', b'⟩ := s'
          simp only at h1 hbd
          subst h1; subst hbd; rfl
        have HD : Hid (rItems rText s = ([], .fail)) := Lib.hid (by rw [HE9.out, hs]; rfl)
        have h3 := H3.out
        rw [hs] at h3
        have H3 := Lib.hid h3
        rw [hbd] at c1
        clear h3 hs hbd
        go_wp2_with fail
        go_ret
        refine ⟨none, 0, by rw [HD.out]; rfl, by rw [HD.out]; exact OwnL.nil_, by rw [HD.out]; exact H3.out, T3.out⟩
      | false =>
        have HBf := Lib.hid hbd
        rw [hbd] at c1
        clear hbd
        go_wp2_with fail
        refine (qClose_any b s' 93 _ H3.out).mono ?_
        rintro x w4 ⟨rfl, hr4, ht4⟩
        have H4 := Lib.hid hr4
        have T4 := Lib.hid (T3.out.trans ht4 (fun i hi => .inl hi))
        have HO4 := Lib.hid (HO.out.turn (w' := w4) (fun i hi hlt => ht4.block i hlt (fun e => by have := (HO.out.blk_lt hi).1; unfold One at e; omega)))
        clear hr4 ht4
        cases hp : Lib.hasPrefix s'.rest [93] with
        | true =>
          have HD : Hid (rItems rText s = (out, rClose 93 s')) := Lib.hid (by
            rw [HE9.out, if_neg]
            unfold rClose
            rw [hp, if_pos rfl]
            simp only
            rw [HBf.out]; simp)
          clear hp
          go_wp2_with fail
          go_ret
          exact ⟨A, c, by rw [HD.out]; rfl, by rw [HD.out]; exact HO4.out, by rw [HD.out]; exact H4.out, T4.out⟩
        | false =>
          have HD : Hid (rItems rText s = ([], rClose 93 s')) := Lib.hid (by
            rw [HE9.out, if_pos]
            unfold rClose
            rw [hp]; rfl)
          clear hp
          go_wp2_with fail
          go_ret
          exact ⟨none, 0, by rw [HD.out]; rfl, by rw [HD.out]; exact OwnL.nil_, by rw [HD.out]; exact H4.out, T4.out⟩
end Go.Proofs.YtijknmocidggbaaDoor
