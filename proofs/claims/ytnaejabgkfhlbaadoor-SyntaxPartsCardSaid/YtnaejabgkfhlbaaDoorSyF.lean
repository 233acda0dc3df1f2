/- Contract of lex.Lex. -/
import Derived.Test.YtnaejabgkfhlbaaDoorSyE
set_option linter.unusedSimpArgs false
set_option linter.unusedVariables false
namespace Go.Proofs.YtnaejabgkfhlbaaDoor
open Go.RowKit

def tokE (t : Tok) : List Value := [.int .i64 t.sh.kind, .string (bs t.sh.text), .int .i64 t.sh.n, .int .i64 t.pos]
theorem slTok : SlTy Tryd.prog 36 41 4 40 := by
  obtain ⟨i, hi, h0, h1, h2⟩ := info_parts (show (Tryd.prog.info? 41).map (fun i => (i.zero, i.size, i.bytes)) = some (some (.agg #[.int .i64 0, .string ByteArray.empty, .int .i64 0, .int .i64 0]), 4, 40) by kernel_rfl)
  exact ⟨Tryd.underlying36, ⟨i, _, hi, h0, h1, h2, rfl⟩, by decide, by decide⟩
theorem tokLay : Lay 4 tokE := ⟨fun _ => rfl, fun x u hu => by simp only [tokE, List.mem_cons, List.not_mem_nil, or_false] at hu; rcases hu with rfl | rfl | rfl | rfl <;> rfl⟩
/-- What Lex leaves. -/
def LexOut (l : List UInt8) (w : World) (e : Ending) (w' : World) : Prop := Below w.heap.size w w' ∧ match lexL l with
  | .ok ts => ∃ A c, e = .returned (.tuple #[.slice A ts.length c, .int .i64 0, .int .i64 0]) ∧ OwnL w' w.heap.size 41 4 tokE A c ts
  | .error (a, x) => e = .returned (.tuple #[.slice none 0 0, .int .i64 a, .int .i64 x])
theorem LexOut.ok {l : List UInt8} {w w' : World} {e : Ending} {ts : List Tok} (h : lexL l = .ok ts) (hb : Below w.heap.size w w') (A : Option Addr) (c : Nat) (he : e = .returned (.tuple #[.slice A ts.length c, .int .i64 0, .int .i64 0])) (ho : OwnL w' w.heap.size 41 4 tokE A c ts) : LexOut l w e w' := by
  unfold LexOut
  rw [h]
  exact ⟨hb, A, c, he, ho⟩
theorem LexOut.err {l : List UInt8} {w w' : World} {e : Ending} {a : Nat} {x : Int} (h : lexL l = .error (a, x)) (hb : Below w.heap.size w w') (he : e = .returned (.tuple #[.slice none 0 0, .int .i64 a, .int .i64 x])) : LexOut l w e w' := by
  unfold LexOut
  rw [h]
  exact ⟨hb, he⟩
theorem tw_all {p : UInt8 → Bool} (l : List UInt8) : (l.takeWhile p).all p = true := by
  induction l with
  | nil => rfl
  | cons a l ih =>
    rw [List.takeWhile_cons]
    cases h : p a
    · rfl
    · simp [h, ih]
theorem lexS_span (l : List UInt8) (k : Nat) : lexS (l.drop k) k = lexS (l.drop (k + ((l.drop k).takeWhile blankC).length)) (k + ((l.drop k).takeWhile blankC).length) := by
  have h := (tw_split (p := blankC) (l.drop k)).1
  have ha := tw_all (p := blankC) (l.drop k)
  conv => lhs; rw [h]
  rw [lexS_blanks _ _ _ ha, List.drop_drop]
/-- Behind the blanks stands none. -/
theorem span_head (l : List UInt8) (k : Nat) (c : UInt8) (r : List UInt8) (h : l.drop (k + ((l.drop k).takeWhile blankC).length) = c :: r) : blankC c = false := by
  have h2 := (tw_split (p := blankC) (l.drop k)).2 c
  rw [List.drop_drop, h] at h2
  exact h2 rfl
set_option maxRecDepth 100000 in
set_option maxHeartbeats 2000000 in
theorem lexLex_any (l : List UInt8) (w : World) (hs : l.length ≤ 1000000) : Calls Tryd.prog 19 #[.string (bs l)] w (LexOut l w) := by
  have hz : (bs l).size = l.length := bs_size l
  go_enter Tryd.func19, Tryd.ntmps19
  by_cases hbig : 2000 < l.length
  · have HE : Hid (lexL l = .error (0, 6)) := Lib.hid (by unfold lexL; rw [if_pos hbig])
    go_wp2_with fail
    exact bodyPost_ret (v := .tuple #[.slice none 0 0, .int .i64 0, .int .i64 6]) (by simp [results, Tryd.results19, go_sem]) rfl (LexOut.err HE.out (Below.refl _ _) rfl)
  have HL : Hid (lexL l = lexS l 0) := Lib.hid (by unfold lexL; rw [if_neg hbig])
  have HB0 := Lib.hid (Below.refl w.heap.size w)
  have hd1 : decide ((2000 : Int) < l.length) = false := by simp; omega
  go_wp2_with fail
  go_loopw [5, 6] (fun o i wr => ∃ (k : Nat) (A : Option Addr) (c : Nat) (ts : List Tok), k ≤ l.length ∧ i = .int .i64 k ∧ o = .slice A ts.length c ∧ OwnL wr w.heap.size 41 4 tokE A c ts ∧ Below w.heap.size w wr ∧ lexS l 0 = addT ts (lexS (l.drop k) k) ∧ ts.length ≤ k) (fun _ i _ => l.length - (intOf i).toNat)
  case atStart => exact ⟨0, none, 0, [], Nat.zero_le _, rfl, rfl, OwnL.nil_, HB0.out, by rw [addT_nil]; rfl, Nat.le_refl _⟩
  case round =>
    obtain ⟨k, A, c, ts, hk, rfl, rfl, hown, hb, hlx, htl⟩ := hrel
    have HO := Lib.hid hown
    have HB := Lib.hid hb
    have hsp := lexS_span l k
    have hhd := span_head l k
    have hle := tw_le (p := blankC) (l.drop k)
    rw [List.length_drop] at hle
    rw [hsp] at hlx
    have HX := Lib.hid hlx
    have HH := Lib.hid hhd
    have HS := Lib.hid (fun w => spanBlank (l.drop k) w (by rw [List.length_drop]; omega))
    have hdr := bs_drop l k
    clear hown hb hsp hhd hlx
    generalize ((l.drop k).takeWhile blankC).length = nb at *
    obtain ⟨m, hm⟩ : ∃ m, m = k + nb := ⟨_, rfl⟩
    have hmi : (k : Int) + nb = m := by omega
    have hml : m ≤ l.length := by omega
    have hkm : k ≤ m := by omega
    rw [← hm] at HX HH
    go_wp2_with fail
    refine (HS.out _).mono ?_
    rintro e w' ⟨rfl, rfl⟩
    clear hdr HS
    have HM := Lib.hid hm
    clear hm hle
    by_cases hend : m = l.length
    · have HE : Hid (lexL l = .ok (ts ++ [⟨.fin, l.length⟩])) := Lib.hid (by rw [HL.out, HX.out, hend, List.drop_length, lexS_nil]; rfl)
      subst hend
      have hd2 : ((l.length : Int) == l.length) = true := by simp
      have hlen2 : ts.length ≤ 1000000 := by omega
      go_wp2_with (first
        | (at_builtin; refine wp_append_l rfl (.tmp 22) (.tmp 25) rfl slTok tokLay w.heap.size (xs := ts) (ys := [(⟨.fin, l.length⟩ : Tok)]) rfl rfl (HO.out.alloc _) rfl rfl (RdL.one wr (⟨.fin, l.length⟩ : Tok) _ _ rfl _ rfl) (by simp; omega) (by have := HB.out.size; simp; omega) ?_; intro A3 c3 w6 hown3 hg3 hb3 hat3; have HO3 := Lib.hid hown3; have HB3 := Lib.hid (((HB.out).alloc HB.out.size _).trans hb3); clear hown3 hg3 hb3 hat3)
        | fail)
      exact bodyPost_ret (v := .tuple #[.slice A3 (ts.length + 1) c3, .int .i64 0, .int .i64 0]) (by simp [results, Tryd.results19, go_sem]) rfl (LexOut.ok HE.out HB3.out A3 c3 (by simp) HO3.out)
    · have hlt : m < l.length := by omega
      have hd2 : ((m : Int) == l.length) = false := by simp; omega
      obtain ⟨d, r, hdr⟩ : ∃ d r, l.drop m = d :: r := by
        cases hq : l.drop m with
        | nil => have := congrArg List.length hq; simp at this; omega
        | cons d r => exact ⟨d, r, rfl⟩
      have hbd := HH.out d r hdr
      have hx := bs_drop l m
      have hlr : (d :: r).length ≤ 1000000 := by rw [← hdr, List.length_drop]; omega
      have hlr2 : m + (d :: r).length = l.length := by rw [← hdr, List.length_drop]; omega
      rw [hdr] at hx
      have HX2 : Hid (lexL l = addT ts (lexS (d :: r) m)) := Lib.hid (by rw [HL.out, HX.out, hdr])
      have HN := Lib.hid (fun w => lexNext_any d r w hlr)
      have HDR := Lib.hid hdr
      clear hdr HH HX HL hend
      go_wp2_with fail
      refine (HN.out _).mono ?_
      rintro e w' ⟨rfl, hbn⟩
      have HBn := Lib.hid (HB.out.trans (hbn.mono HB.out.size))
      have HOn := Lib.hid (HO.out.below hbn)
      clear hbn HO HB HN
      cases hn : nextF (d :: r) with
      | error x =>
        have HE : Hid (lexL l = .error (m, x)) := Lib.hid (by rw [HX2.out, lexS_err hbd hn]; rfl)
        have HP : Hid (nextOut (d :: r) = .tuple #[zeroTok, .int .i64 x]) := Lib.hid (nextOut_err hn)
        have hx0 : (x != 0) = true := by
          have : nextF (d :: r) = .error x := hn
          rw [nextF_cons] at this
          split at this
          · split at this <;> cases this
            rfl
          · split at this
            · split at this <;> cases this
              rfl
            · split at this <;> cases this
              rfl
        clear hn
        rw [HP.out]
        go_wp2_with fail
        exact bodyPost_ret (v := .tuple #[.slice none 0 0, .int .i64 m, .int .i64 x]) (by simp [results, Tryd.results19, go_sem]) rfl (LexOut.err HE.out (HBn.out.alloc HBn.out.size _) rfl)
      | ok sh =>
        have hsl : sh.text.length ≤ (d :: r).length := by
          have := congrArg List.length (nextF_ok hn).2.1
          rw [List.length_append] at this
          omega
        have hs1 : 1 ≤ sh.text.length := by
          obtain ⟨c0, r0, e0, _⟩ := good_head (nextF_ok hn).1
          rw [e0]; simp
        have HE : Hid (lexS l 0 = addT (ts ++ [⟨sh, m⟩]) (lexS (l.drop (m + sh.text.length)) (m + sh.text.length))) := Lib.hid (by
          have h1 := HX2.out
          unfold lexL at h1
          rw [if_neg hbig] at h1
          rw [h1, lexS_next hbd hn, addT_add, ← List.drop_drop, HDR.out])
        have HP : Hid (nextOut (d :: r) = .tuple #[.agg (tokC sh 0), .int .i64 0]) := Lib.hid (nextOut_ok hn)
        have hts : (bs sh.text).size = sh.text.length := bs_size _
        have HL : Hid (lexL l = lexS l 0) := Lib.hid (by unfold lexL; rw [if_neg hbig])
        clear hn
        rw [HP.out]
        unfold tokC
        go_wp2_with (first
          | (at_builtin; refine wp_append_l rfl (.tmp 40) (.tmp 42) rfl slTok tokLay w.heap.size (xs := ts) (ys := [(⟨sh, m⟩ : Tok)]) rfl rfl ((HOn.out.alloc _).alloc _) rfl rfl (RdL.one (w'.alloc (.cells #[.int .i64 sh.kind, .string (bs sh.text), .int .i64 sh.n, .int .i64 m] 41)) (⟨sh, m⟩ : Tok) #[.int .i64 sh.kind, .string (bs sh.text), .int .i64 sh.n, .int .i64 m] 41 rfl (w'.heap.size + 1) (by simp)) (by simp; omega) (by have := HBn.out.size; simp; omega) ?_; intro A3 c3 w6 hown3 hg3 hb3 hat3; have HO3 := Lib.hid hown3; have HB3 := Lib.hid (((HBn.out.alloc HBn.out.size _).alloc (by have := HBn.out.size; simp; omega) _).trans hb3); have c1 : w6.cell? ⟨w'.heap.size, 1, none⟩ = some (.string (bs sh.text)) := (by rw [World.cell?_of_block (hg3.block w'.heap.size (by simp; omega) (fun e => by have := HOn.out.blk _ e.symm; omega))]; simp); clear hown3 hg3 hb3 hat3)
          | fail)
        go_roundw
        case rel => exact ⟨m + sh.text.length, A3, c3, ts ++ [⟨sh, m⟩], by omega, by go_num, by simp, by simpa using HO3.out, HB3.out, HE.out, by simp; omega⟩
        case measure => simp [intOf]; omega
end Go.Proofs.YtnaejabgkfhlbaaDoor
