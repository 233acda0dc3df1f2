/- Contract of linguaref11.Lex. -/
import Derived.Test.YtnaejabgkfhlbaaDoorSyG
set_option linter.unusedSimpArgs false
set_option linter.unusedVariables false
namespace Go.Proofs.YtnaejabgkfhlbaaDoor
open Go.RowKit

set_option maxRecDepth 100000 in
set_option maxHeartbeats 2000000 in
theorem rLex_any (l : List UInt8) (w : World) (hs : l.length ≤ 1000000) : Calls Tryd.prog 36 #[.string (bs l)] w (LexOut l w) := by
  have hz : (bs l).size = l.length := bs_size l
  go_enter Tryd.func36, Tryd.ntmps36
  by_cases hbig : 2000 < l.length
  · have HE : Hid (lexL l = .error (0, 6)) := Lib.hid (by unfold lexL; rw [if_pos hbig])
    go_wp2_with fail
    exact bodyPost_ret (v := .tuple #[.slice none 0 0, .int .i64 0, .int .i64 6]) (by simp [results, Tryd.results36, go_sem]) rfl (LexOut.err HE.out (Below.refl _ _) rfl)
  have HL : Hid (lexL l = lexS l 0) := Lib.hid (by unfold lexL; rw [if_neg hbig])
  have HB0 := Lib.hid (Below.refl w.heap.size w)
  have hd1 : decide ((2000 : Int) < l.length) = false := by simp; omega
  go_wp2_with fail
  go_loopw [5, 6] (fun o i wr => ∃ (k : Nat) (A : Option Addr) (c : Nat) (ts : List Tok), k ≤ l.length ∧ i = .int .i64 k ∧ o = .slice A ts.length c ∧ OwnL wr w.heap.size 41 4 tokE A c ts ∧ Below w.heap.size w wr ∧ lexS l 0 = addT ts (lexS (l.drop k) k) ∧ ts.length ≤ k) (fun _ i _ => l.length - (intOf i).toNat)
  case atStart => exact ⟨0, none, 0, [], Nat.zero_le _, rfl, rfl, OwnL.nil_, HB0.out, by rw [addT_nil]; rfl, Nat.le_refl _⟩
  case round =>
    obtain ⟨m, A, c, ts, hml, rfl, rfl, hown, hb, hlx, htl⟩ := hrel
    have HO := Lib.hid hown
    have HB := Lib.hid hb
    have HX := Lib.hid hlx
    clear hown hb hlx
    by_cases hlt : m < l.length
    · obtain ⟨d, r, hdr⟩ : ∃ d r, l.drop m = d :: r := by
        cases hq : l.drop m with
        | nil => have := congrArg List.length hq; simp at this; omega
        | cons d r => exact ⟨d, r, rfl⟩
      have hgc : ∀ h, (bs l)[m]'h = d := fun h => by
        show l[m]'hlt = d
        have : (l.drop m)[0]? = some d := by rw [hdr]; rfl
        rw [List.getElem?_drop, Nat.add_zero] at this
        exact (List.getElem?_eq_some_iff.1 this).2
      have hlr2 : m + (d :: r).length = l.length := by rw [← hdr, List.length_drop]; omega
      have HX2 : Hid (lexS l 0 = addT ts (lexS (d :: r) m)) := Lib.hid (by rw [HX.out, hdr])
      have HN := Lib.hid (fun w => rToken_any l m d r hdr w hs)
      have HDR := Lib.hid hdr
      clear hdr HX
      have hbe := blankI_eq d
      cases hbd : blankC d with
      | true =>
        rw [hbd] at hbe
        have HBE := Lib.hid hbe
        have HE : Hid (lexS l 0 = addT ts (lexS (l.drop (m + 1)) (m + 1))) := Lib.hid (by rw [HX2.out, lexS_blank hbd, ← List.drop_drop, HDR.out]; rfl)
        clear hbd hbe HN HX2
        go_wp2_with fail
        refine (rBlank_any _ _).mono ?_
        rintro e w' ⟨rfl, rfl⟩
        rw [HBE.out]
        go_wp2_with fail
        go_roundw
        case rel => exact ⟨m + 1, A, c, ts, by omega, by go_num, rfl, HO.out, HB.out, HE.out, by omega⟩
        case measure => simp [intOf]; omega
      | false =>
        rw [hbd] at hbe
        have HBE := Lib.hid hbe
        clear hbe
        go_wp2_with fail
        refine (rBlank_any _ _).mono ?_
        rintro e w' ⟨rfl, rfl⟩
        rw [HBE.out]
        go_wp2_with fail
        refine (HN.out _).mono ?_
        rintro e w' ⟨rfl, hbn⟩
        have HBn := Lib.hid (HB.out.trans (hbn.mono HB.out.size))
        have HOn := Lib.hid (HO.out.below hbn)
        clear hbn HO HB HN
        cases hn : nextF (d :: r) with
        | error x =>
          have HE : Hid (lexL l = .error (m, x)) := Lib.hid (by rw [HL.out, HX2.out, lexS_err hbd hn]; rfl)
          have HP : Hid (nextOutA (l.drop m) m = .tuple #[zeroTok, .int .i64 x]) := Lib.hid (nextOutA_err (by rw [HDR.out, hn]))
          have hx0 : (x != 0) = true := by
            have : nextF (d :: r) = .error x := hn
            rw [nextF_cons] at this
            split at this
            · split at this <;> cases this
              rfl
            · split at this
              · split at this <;> cases this
                rfl
              · split at this <;> cases this
                rfl
          clear hn
          rw [HP.out]
          go_wp2_with fail
          exact bodyPost_ret (v := .tuple #[.slice none 0 0, .int .i64 m, .int .i64 x]) (by simp [results, Tryd.results36, go_sem]) rfl (LexOut.err HE.out (HBn.out.alloc HBn.out.size _) rfl)
        | ok sh =>
          have hsl : sh.text.length ≤ (d :: r).length := by
            have := congrArg List.length (nextF_ok hn).2.1
            rw [List.length_append] at this
            omega
          have hs1 : 1 ≤ sh.text.length := by
            obtain ⟨c0, r0, e0, _⟩ := good_head (nextF_ok hn).1
            rw [e0]; simp
          have HE : Hid (lexS l 0 = addT (ts ++ [⟨sh, m⟩]) (lexS (l.drop (m + sh.text.length)) (m + sh.text.length))) := Lib.hid (by
            rw [HX2.out, lexS_next hbd hn, addT_add, ← List.drop_drop, HDR.out])
          have HP : Hid (nextOutA (l.drop m) m = .tuple #[.agg (tokC sh m), .int .i64 0]) := Lib.hid (nextOutA_ok (by rw [HDR.out, hn]))
          have hts : (bs sh.text).size = sh.text.length := bs_size _
          clear hn
          rw [HP.out]
          unfold tokC
          go_wp2_with (first
            | (at_builtin; refine wp_append_l rfl (.tmp 32) (.tmp 34) rfl slTok tokLay w.heap.size (xs := ts) (ys := [(⟨sh, m⟩ : Tok)]) rfl rfl ((HOn.out.alloc _).alloc _) rfl rfl (RdL.one (w'.alloc (.cells #[.int .i64 sh.kind, .string (bs sh.text), .int .i64 sh.n, .int .i64 m] 41)) (⟨sh, m⟩ : Tok) #[.int .i64 sh.kind, .string (bs sh.text), .int .i64 sh.n, .int .i64 m] 41 rfl (w'.heap.size + 1) (by simp)) (by simp; omega) (by have := HBn.out.size; simp; omega) ?_; intro A3 c3 w6 hown3 hg3 hb3 hat3; have HO3 := Lib.hid hown3; have HB3 := Lib.hid (((HBn.out.alloc HBn.out.size _).alloc (by have := HBn.out.size; simp; omega) _).trans hb3); have c1 : w6.cell? ⟨w'.heap.size, 1, none⟩ = some (.string (bs sh.text)) := (by rw [World.cell?_of_block (hg3.block w'.heap.size (by simp; omega) (fun e => by have := HOn.out.blk _ e.symm; omega))]; simp); clear hown3 hg3 hb3 hat3)
            | fail)
          go_roundw
          case rel => exact ⟨m + sh.text.length, A3, c3, ts ++ [⟨sh, m⟩], by omega, by go_num, by simp, by simpa using HO3.out, HB3.out, HE.out, by simp; omega⟩
          case measure => simp [intOf]; omega
    · have hme : m = l.length := by omega
      have HE : Hid (lexL l = .ok (ts ++ [⟨.fin, l.length⟩])) := Lib.hid (by rw [HL.out, HX.out, hme, List.drop_length, lexS_nil]; rfl)
      subst hme
      have hlen2 : ts.length ≤ 1000000 := by omega
      go_wp2_with (first
        | (at_builtin; refine wp_append_l rfl (.tmp 41) (.tmp 45) rfl slTok tokLay w.heap.size (xs := ts) (ys := [(⟨.fin, l.length⟩ : Tok)]) rfl rfl (HO.out.alloc _) rfl rfl (RdL.one wr (⟨.fin, l.length⟩ : Tok) _ _ rfl _ rfl) (by simp; omega) (by have := HB.out.size; simp; omega) ?_; intro A3 c3 w6 hown3 hg3 hb3 hat3; have HO3 := Lib.hid hown3; have HB3 := Lib.hid (((HB.out).alloc HB.out.size _).trans hb3); clear hown3 hg3 hb3 hat3)
        | fail)
      exact bodyPost_ret (v := .tuple #[.slice A3 (ts.length + 1) c3, .int .i64 0, .int .i64 0]) (by simp [results, Tryd.results36, go_sem]) rfl (LexOut.ok HE.out HB3.out A3 c3 (by simp) HO3.out)
end Go.Proofs.YtnaejabgkfhlbaaDoor
