/- Contracts and plain laws, joined: JnP, JnQ, JnT. -/
import Derived.Test.YtoicnokidlkjfaaDoorQax
import Derived.Test.YtoicnokidlkjfaaDoorQat
import Derived.Test.YtoicnokidlkjfaaDoorQav
import Derived.Test.YtoicnokidlkjfaaDoorQaw
/- States of a law over disks and journals; contracts of lingualaw03's small functions. -/
namespace Go.Proofs.YtoicnokidlkjfaaDoor
open Go.RowKit
set_option maxRecDepth 100000

/-! The list of the surviving sectors is not touched. -/
theorem sync_keep (S : DS) (f : Int) : (S.sync f).keep = S.keep := by
  have h1 := come_keep S
  unfold DS.sync DS.sync0
  split
  · exact h1
  · split
    · exact h1
    · exact h1
theorem trunc_keep (S : DS) (f n : Int) : (S.trunc f n).keep = S.keep := by
  have h1 := come_keep S
  unfold DS.trunc DS.trunc0
  split
  · exact h1
  · exact h1
theorem write_keep (S : DS) (f a : Int) (s : ByteArray) : (S.write f a s).keep = S.keep := by
  unfold DS.write
  split
  · rw [crash_keep, DS.wr_keep, DS.tick_keep]
  · rw [DS.wr_keep, DS.tick_keep]
theorem openS_keep (S : DS) (f : Int) : (openS S f).keep = S.keep := by
  unfold openS
  split
  · rfl
  · split
    · exact sync_keep S f
    · split
      · rw [trunc_keep]; exact sync_keep S f
      · exact sync_keep S f
theorem appS_keep (S : DS) (J : JS) (s : List UInt8) : (appS S J s).keep = S.keep := by
  unfold appS
  split
  · rfl
  · exact write_keep _ _ _ _
theorem synS_keep (S : DS) (J : JS) : (synS S J).keep = S.keep := by
  unfold synS
  split
  · rfl
  · exact sync_keep _ _
/-- What a law has at a time: objects of its own, above all that was there. -/
structure St (w : World) (O : Ob) (wr : World) : Prop where
  ok : O.ok wr
  bl : Below w.heap.size w wr
  own : ∀ i, O.own i → w.heap.size ≤ i
section
variable {w wr w' : World} {O O2 : Ob}
theorem St.upd (h : St w O wr) (u : OUpd O O2 wr w') : St w O2 w' := ⟨u.ok, h.bl.trans (u.to_below h.bl.size h.own), u.base h.bl.size h.own⟩
theorem St.on (h : St w O wr) (hb : Below wr.heap.size wr w') : St w O w' := ⟨Ob.below h.ok hb, h.bl.trans (hb.mono h.bl.size), h.own⟩
theorem St.assoc {a b c : Ob} (h : St w ((a.sep b).sep c) wr) : St w (a.sep (b.sep c)) wr := ⟨Ob.assoc h.ok, h.bl, fun i hi => h.own i (hi.elim (fun h => .inl (.inl h)) (fun h => h.elim (fun h => .inl (.inr h)) .inr))⟩
theorem St.assoc2 {a b c : Ob} (h : St w (a.sep (b.sep c)) wr) : St w ((a.sep b).sep c) wr := ⟨Ob.assoc2 h.ok, h.bl, fun i hi => h.own i (hi.elim (fun h => h.elim .inl (fun h => .inr (.inl h))) (fun h => .inr (.inr h)))⟩
theorem St.swap {a b : Ob} (h : St w (a.sep b) wr) : St w (b.sep a) wr := ⟨Ob.swap h.ok, h.bl, fun i hi => h.own i hi.symm⟩
theorem St.forget {a b : Ob} (h : St w (a.sep b) wr) : St w a wr := ⟨h.ok.1.1, h.bl, fun i hi => h.own i (.inl hi)⟩
theorem St.nil {a : Ob} (h : St w a wr) : St w (a.sep Ob.nil) wr := h.upd (OUpd.refl h.ok).with_nil
theorem St.more {c : Ob} (h : St w O wr) (hb : Below wr.heap.size wr w') (hc : c.ok w') (ho : ∀ i, c.own i → wr.heap.size ≤ i) (hs : ∀ i, c.see i → wr.heap.size ≤ i) : St w (O.sep c) w' := h.upd (OUpd.more h.ok hb hc ho hs)
theorem St.list {A : Option Addr} {c : Nat} {xs : List (List UInt8)} (h : St w O wr) (hb : Below wr.heap.size wr w') (ho : OwnL w' wr.heap.size 9 1 strE A c xs) : St w (O.sep (slOb A c xs)) w' :=
  h.more hb (show OwnL w' 0 9 1 strE A c xs from ho.mono (Nat.zero_le _)) (fun i hi => (ho.blk_lt hi).1) (fun _ h => h.elim)
theorem slOb.rd {A : Option Addr} {c : Nat} {xs : List (List UInt8)} (h : (slOb A c xs).ok w) : RdL 1 strE w w.heap.size A xs := (show OwnL w 0 9 1 strE A c xs from h).rd strLayJ
theorem St.vs (h : St w O wr) (hV : Vs w.heap.size w) : Vs w.heap.size wr := hV.on h.bl
end
theorem disky_any (e : Int) (w : World) : Calls Tryd.prog 32 #[.int .i64 e] w fun x w' => x = .returned (.bool (decide (e = 8) || decide (e = 9))) ∧ w = w' := by
  go_enter Tryd.func32, Tryd.ntmps32
  by_cases h8 : e = 8
  · subst h8
    go_wp2_with fail
    go_ret
    exact ⟨rfl, rfl⟩
  · have d8 : (e == 8) = false := by simpa using h8
    by_cases h9 : e = 9
    · subst h9
      go_wp2_with fail
      go_ret
      exact ⟨rfl, rfl⟩
    · have d9 : (e == 9) = false := by simpa using h9
      have HE : Hid ((decide (e = 8) || decide (e = 9)) = false) := Lib.hid (by simp [h8, h9])
      clear h8 h9
      go_wp2_with fail
      go_ret
      exact ⟨by rw [HE.out]; rfl, rfl⟩
def beginsB (l a : List (List UInt8)) : Bool := decide (a.length ≤ l.length) && (l.take a.length == a)
theorem begins_iff (l a : List (List UInt8)) : beginsB l a = true ↔ ∃ m, m ≤ l.length ∧ a = l.take m := by
  unfold beginsB
  rw [Bool.and_eq_true, decide_eq_true_eq, beq_iff_eq]
  constructor
  · rintro ⟨h1, h2⟩
    exact ⟨a.length, h1, h2.symm⟩
  · rintro ⟨m, hm, rfl⟩
    have e : (l.take m).length = m := by rw [List.length_take]; omega
    rw [e]
    exact ⟨hm, rfl⟩
theorem begins_any (xs ys : List (List UInt8)) (A B : Option Addr) (c d : Nat) (w : World) (hr : RdL 1 strE w w.heap.size A xs) (hs : RdL 1 strE w w.heap.size B ys) (hx : xs.length ≤ 9223372036854775807) (hc : xs.length ≤ c) (hc2 : c ≤ 9223372036854775807) (hy : ys.length ≤ 9223372036854775807) :
    Calls Tryd.prog 33 #[.slice A xs.length c, .slice B ys.length d] w fun e w' => e = .returned (.bool (beginsB xs ys)) ∧ Below w.heap.size w w' := by
  have HR := Lib.hid hr
  have HS := Lib.hid hs
  clear hr hs
  go_enter Tryd.func33, Tryd.ntmps33
  by_cases hl : ys.length ≤ xs.length
  · have d1 : decide (ys.length ≤ xs.length) = true := by simpa using hl
    have HT : Hid (RdL 1 strE w w.heap.size A (xs.take ys.length)) := Lib.hid (fun k x hk => by
      rw [List.getElem?_take] at hk
      split at hk
      · exact HR.out k x hk
      · cases hk)
    have hmin : min (ys.length : Int) (xs.length : Int) = ys.length := by omega
    have hmin2 : min ys.length xs.length = ys.length := by omega
    have hlen : (xs.take ys.length).length = ys.length := by rw [List.length_take]; omega
    have HL := Lib.hid hlen
    have HE : Hid (beginsB xs ys = (xs.take ys.length == ys)) := Lib.hid (by unfold beginsB; rw [d1, Bool.true_and])
    have HC := sameS_any (xs.take ys.length) ys A B c d w HT.out HS.out (by omega) hy
    rw [HL.out] at HC
    have HC := Lib.hid HC
    go_wp2_with fail
    refine HC.out.mono ?_
    rintro e w1 ⟨rfl, hb⟩
    have HB := Lib.hid hb
    clear hb
    generalize (xs.take ys.length == ys) = b at *
    go_wp2_with fail
    go_ret
    exact ⟨by rw [HE.out]; rfl, HB.out⟩
  · have d1 : decide (ys.length ≤ xs.length) = false := by simpa using hl
    have HE : Hid (beginsB xs ys = false) := Lib.hid (by unfold beginsB; rw [d1]; rfl)
    go_wp2_with fail
    go_ret
    exact ⟨by rw [HE.out]; rfl, Below.refl _ _⟩
theorem same_refl (xs : List (List UInt8)) (A B : Option Addr) (c d : Nat) (w : World) (hr : RdL 1 strE w w.heap.size A xs) (hs : RdL 1 strE w w.heap.size B xs) (hx : xs.length ≤ 9223372036854775807) :
    Calls Tryd.prog 15 #[.slice A xs.length c, .slice B xs.length d] w fun e w' => e = .returned (.bool true) ∧ Below w.heap.size w w' := by
  refine (sameS_any xs xs A B c d w hr hs hx hx).mono ?_
  rintro e w' ⟨rfl, hb⟩
  exact ⟨by simp, hb⟩
theorem all_as {w : World} {q p : Nat} {J : JS} {L : JL} {W : List (List UInt8)} (h : JK w q p J L) (hr : J.recs = W) (hn : W.length ≤ 1000000000000) :
    Calls Tryd.prog 16 #[.pointer (some ⟨q, 0, none⟩)] w fun e w' => ∃ A, e = .returned (.slice A W.length W.length) ∧ RdL 1 strE w' w'.heap.size A W ∧ OwnL w' w.heap.size 9 1 strE A W.length W ∧ Below w.heap.size w w' := by
  subst hr
  refine (jAll_any h hn).mono ?_
  rintro e w' ⟨A, rfl, ho, hb⟩
  exact ⟨A, rfl, (ho.mono (Nat.zero_le _)).rd strLayJ, ho, hb⟩
section
variable {w wr : World} {p q : Nat} {S : DS} {D : DL} {R : Ob} {f : Int} {J : JS} {M : JL}
theorem St.disk (h : St w ((dOb p S D).sep R) wr) : DK wr p S D := h.ok.1.1
theorem St.disk_own (h : St w ((dOb p S D).sep R) wr) : ∀ i, D.own p i → w.heap.size ≤ i := fun i hi => h.own i (.inl hi)
theorem St.dupd {S2 : DS} {w' : World} (h : St w ((dOb p S D).sep R) wr) (u : Upd p S2 D wr w') : ∃ D2, St w ((dOb p S2 D2).sep R) w' := by
  obtain ⟨D2, v⟩ := u.ob (S := S)
  exact ⟨D2, h.upd (OUpd.left h.ok v)⟩
/-- Opening a journal beside other objects. -/
theorem open_any2 (hV : Vs w.heap.size w) (h : St w ((dOb p S D).sep R) wr) (hf : inI64 f) (hk : S.keep.length ≤ 4194320) :
    Calls Tryd.prog 10 #[.pointer (some ⟨p, 0, none⟩), .int .i64 f] wr fun e w' => ∃ D' X v, e = .returned (.tuple #[v, .int .i64 (openC S f)]) ∧ St w (((dOb p (openS S f) D').sep X).sep R) w' ∧ IsJ p v X (openO S f) := by
  refine (jOpen_any p S D f wr (h.vs hV) h.disk_own hf hk h.disk).mono ?_
  rintro e w' ⟨D', X, v, rfl, hu, hj⟩
  exact ⟨D', X, v, rfl, h.upd (OUpd.left h.ok hu), hj⟩
theorem open_some (h : openC S f = 0) : openO S f = some (openJ S f) := by unfold openO; rw [if_pos h]
theorem open_none (h : openC S f ≠ 0) : openO S f = none := by unfold openO; rw [if_neg h]
theorem St.jour (h : St w ((jBoth p q S D J M).sep R) wr) : JK wr q p J M := h.ok.1.1.1.2
theorem app_any2 (hV : Vs w.heap.size w) (h : St w ((jBoth p q S D J M).sep R) wr) (s : List UInt8) (hs : s.length ≤ 1000000000) (ha : J.at_ ≤ 1000000000000) (hf : inI64 J.file) (hk : S.keep.length ≤ 4194320) :
    Calls Tryd.prog 11 #[.pointer (some ⟨q, 0, none⟩), .string (bs s)] wr fun e w' => ∃ D' M', e = .returned (.int .i64 (appC S J s)) ∧ St w ((jBoth p q (appS S J s) D' (appJ S J s) M').sep R) w' := by
  refine (jAppend_any p q S D J M s wr (h.vs hV) hs ha hf hk h.ok.1.1).mono ?_
  rintro e w' ⟨rfl, D', M', hu⟩
  exact ⟨D', M', rfl, h.upd (OUpd.left h.ok hu)⟩
theorem sync_any2 (h : St w ((jBoth p q S D J M).sep R) wr) (hf : inI64 J.file) (hk : S.keep.length ≤ 4194320) :
    Calls Tryd.prog 27 #[.pointer (some ⟨q, 0, none⟩)] wr fun e w' => ∃ D' M', e = .returned (.int .i64 (synC S J)) ∧ St w ((jBoth p q (synS S J) D' (synJ S J) M').sep R) w' := by
  refine (jSync_any p q S D J M wr hf hk h.ok.1.1).mono ?_
  rintro e w' ⟨rfl, D', M', hu⟩
  exact ⟨D', M', rfl, h.upd (OUpd.left h.ok hu)⟩
end
end Go.Proofs.YtoicnokidlkjfaaDoor
/- Contract of lingualaw03.small: the examples of the documentation. -/
namespace Go.Proofs.YtoicnokidlkjfaaDoor
open Go.RowKit
set_option maxRecDepth 100000

theorem sm_forms2 : formsF [[97, 98], []] = [50, 58, 97, 98, 44, 50, 57, 51, 59, 48, 58, 44, 48, 59] := by
  simp [formsF, formF, encT, encI, sumF, sumL, Lib.itoa, Lib.decDigits]
theorem sm_forms1 : formsF [[97, 98]] = [50, 58, 97, 98, 44, 50, 57, 51, 59] := by
  simp [formsF, formF, encT, encI, sumF, sumL, Lib.itoa, Lib.decDigits]
theorem sm_recs : recs [50, 58, 97, 98, 44, 50, 57, 51, 59, 49, 58, 97, 44, 57, 56, 59] = [[97, 98]] := by
  have h := recs_app [49, 58, 97, 44, 57, 56, 59] [[97, 98]] (by simp)
  rw [sm_forms1] at h
  refine Eq.trans h ?_
  have e : encT [97] = [49, 58, 97, 44] := by simp [encT, Lib.itoa, Lib.decDigits]
  have e2 : encI 98 = [57, 56, 59] := by simp [encI, Lib.itoa, Lib.decDigits]
  have h1 := rText_back [97] (encI 98) ⟨by decide, by decide⟩
  have h2 := rInt_back (n := 98) ⟨by decide, by decide⟩ (by decide : (0 : Int) ≤ 98) []
  rw [List.append_nil] at h2
  have hn : nextJ [49, 58, 97, 44, 57, 56, 59] = none := by
    have e3 : ([49, 58, 97, 44, 57, 56, 59] : List UInt8) = encT [97] ++ encI 98 := by rw [e, e2]; rfl
    unfold nextJ
    rw [e3, h1]
    simp only [h2]
    rw [if_neg]
    rintro ⟨_, h, _⟩
    revert h
    decide
  rw [recs_none hn]
  rfl
theorem sm_sums : sumF [] = 0 ∧ sumF [97] = 97 ∧ sumF [97, 98] = 293 := by decide
theorem now_new (f : Int) : DS.new.now f = [] := rfl
set_option maxHeartbeats 4000000 in
theorem small_any (w : World) (hV : Vs w.heap.size w) : Calls Tryd.prog 7 #[] w fun e w' => e = .returned (.bool true) ∧ Below w.heap.size w w' := by
  have HV := Lib.hid hV
  have HS := Lib.hid sm_sums
  clear hV
  go_enter Tryd.func7, Tryd.ntmps7
  go_wp2_with fail
  refine (dNew_any w).mono ?_
  rintro e w1 ⟨rfl, hb1, D0, hd0, ho0, -⟩
  have H0 : Hid (St w (dOb (w.heap.size + 2) DS.new D0) w1) := Lib.hid ⟨hd0, hb1, ho0⟩
  generalize w.heap.size + 2 = p at *
  clear hb1 hd0 ho0
  obtain ⟨hc1, hj1, hU1, hn1, ho1⟩ := up_open Up.new (f := 3) ⟨by decide, by decide⟩
  have hk1 : (openS DS.new 3).keep.length = 0 := by rw [openS_keep]; rfl
  rw [now_new, recs_none nextJ_nil] at hj1 hn1
  have HO := open_some hc1
  have H0' : Hid (St w ((dOb p DS.new D0).sep Ob.nil) w1) := Lib.hid H0.out.nil
  clear H0
  go_wp2_with fail
  refine (open_any2 HV.out H0'.out (f := 3) (by unfold inI64; omega) (by decide)).mono ?_
  rintro e w2 ⟨D1, X, v, rfl, hst, hj⟩
  rw [HO, hj1] at hj
  rw [hc1]
  obtain ⟨q, M1, rfl, rfl⟩ := hj
  have H1 : Hid (St w ((jBoth p q (openS DS.new 3) D1 ⟨3, [], false⟩ M1).sep Ob.nil) w2) := Lib.hid hst
  have ho14 := ho1 4 (by decide)
  rw [now_new] at ho14
  clear hst HO H0' hj1 hc1 ho1
  generalize openS DS.new 3 = S1 at *
  obtain ⟨hc2, hj2, hU2, hn2, ho2⟩ := up_append hU1 (J := ⟨3, [], false⟩) rfl ⟨by decide, by decide⟩ hn1 [97, 98] (by decide) (by have := formF_len [97, 98] (by decide); simp only [List.length_cons, List.length_nil] at this; show (0 : Nat) + _ ≤ _; omega)
  have hk2 : (appS S1 ⟨3, [], false⟩ [97, 98]).keep.length = 0 := by rw [appS_keep]; exact hk1
  have ho24 := (ho2 4 (by decide)).trans ho14
  go_wp2_with fail
  refine (app_any2 HV.out H1.out [97, 98] (by decide) (by decide) (by unfold inI64; simp) (by omega)).mono ?_
  rintro e w3 ⟨D2, M2, rfl, hst⟩
  rw [hj2] at hst
  rw [hc2]
  have H2 := Lib.hid hst
  clear hst H1 hj2 hc2 ho2 ho14 hn1 hU1 hk1
  generalize appS S1 ⟨3, [], false⟩ [97, 98] = S2 at *
  obtain ⟨hc3, hj3, hU3, hn3, ho3⟩ := up_append hU2 (J := ⟨3, [[97, 98]], false⟩) rfl ⟨by decide, by decide⟩ hn2 [] (by decide) (by have := formF_len [] (by decide); simp only [List.length_nil] at this; show (formsF [[97, 98]]).length + _ ≤ _; rw [sm_forms1]; simp only [List.length_cons, List.length_nil]; omega)
  have hk3 : (appS S2 ⟨3, [[97, 98]], false⟩ []).keep.length = 0 := by rw [appS_keep]; exact hk2
  have ho34 := (ho3 4 (by decide)).trans ho24
  simp only [List.nil_append] at H2
  go_wp2_with fail
  refine (app_any2 HV.out H2.out [] (by decide) (by unfold JS.at_; simp only; rw [sm_forms1]; decide) (by unfold inI64; simp) (by omega)).mono ?_
  rintro e w4 ⟨D3, M3, rfl, hst⟩
  rw [hj3] at hst
  rw [hc3]
  have H3 := Lib.hid hst
  clear hst H2 hj3 hc3 ho3 ho24 hn2 hU2 hk2
  generalize appS S2 ⟨3, [[97, 98]], false⟩ [] = S3 at *
  simp only [List.cons_append, List.nil_append] at hn3 H3
  rw [sm_forms2] at hn3
  obtain ⟨hr1, hr2⟩ := up_read hU3 (f := 3) ⟨by decide, by decide⟩ 99 (by rw [hn3]; decide)
  rw [hn3] at hr2
  go_wp2_with fail
  refine (dRead_any p S3 D3 w4 3 0 99 (by unfold inI64; omega) H3.out.ok.1.1.1.1).mono ?_
  rintro e wx ⟨rfl, hw⟩
  obtain rfl := hw
  rw [hr1, hr2]
  clear hr1 hr2 hn3
  have hp := up_put hU3 (f := 4) ⟨by decide, by decide⟩ [50, 58, 97, 98, 44, 50, 57, 51, 59, 49, 58, 97, 44, 57, 56, 59] (by rw [ho34]; decide)
  rw [ho34] at hp
  obtain ⟨hc4, hU4, hn4, -⟩ := hp
  have e0 : ((([] : List UInt8).length : Nat) : Int) = 0 := rfl
  rw [e0, List.nil_append] at hn4
  rw [e0] at hc4 hU4
  have hk4 : (S3.write 4 0 (bs [50, 58, 97, 98, 44, 50, 57, 51, 59, 49, 58, 97, 44, 57, 56, 59])).keep.length = 0 := by rw [write_keep]; exact hk3
  go_wp2_with fail
  refine (dWrite_any p S3 D3 _ 4 0 (bs [50, 58, 97, 98, 44, 50, 57, 51, 59, 49, 58, 97, 44, 57, 56, 59]) (by unfold inI64; omega) (by unfold inI64; omega) (by decide) (by omega) H3.out.ok.1.1.1.1).mono ?_
  rintro e w5 ⟨rfl, hu⟩
  obtain ⟨D4, hst⟩ := (St.assoc H3.out).dupd hu
  have H4 := Lib.hid hst
  clear hu hst H3 hU3 hk3 ho34
  generalize S3.write 4 0 (bs [50, 58, 97, 98, 44, 50, 57, 51, 59, 49, 58, 97, 44, 57, 56, 59]) = S4 at *
  obtain ⟨hc5, hj5, hU5, hn5, -⟩ := up_open hU4 (f := 4) ⟨by decide, by decide⟩
  rw [hn4, sm_recs] at hj5 hn5
  rw [sm_forms1] at hn5
  have HO := open_some hc5
  have hsz5 : ((openS S4 4).files 4).1.size = 9 := by rw [← now_len, hn5]; rfl
  go_wp2_with fail
  refine (open_any2 HV.out H4.out (f := 4) (by unfold inI64; omega) (by omega)).mono ?_
  rintro e w6 ⟨D5, X, v, rfl, hst, hj⟩
  rw [HO, hj5] at hj
  rw [hc5]
  obtain ⟨q2, M5, rfl, rfl⟩ := hj
  have H5 := Lib.hid hst
  clear hst HO H4 hj5 hc5 hn5 hU5 hn4 hU4 hk4
  generalize openS S4 4 = S5 at *
  have H6 := Lib.hid (show JK w6 q p ⟨3, [[97, 98], []], false⟩ M3 from H5.out.ok.1.2.1.1)
  have H7 := Lib.hid (show JK w6 q2 p ⟨4, [[97, 98]], false⟩ M5 from H5.out.ok.1.1.1.2)
  have H8 := Lib.hid (show DK w6 p S5 D5 from H5.out.ok.1.1.1.1)
  have HB := Lib.hid H5.out.bl
  clear H5
  have d1 : ((bs [97, 98]).toList == [97, 98]) = true := by rw [bs_toList]; rfl
  have d0 : ((bs [50, 58, 97, 98, 44, 50, 57, 51, 59, 48, 58, 44, 48, 59]).toList == [50, 58, 97, 98, 44, 50, 57, 51, 59, 48, 58, 44, 48, 59]) = true := by rw [bs_toList]; rfl
  go_wp2_with fail
  refine (jSum_any [] _ (by decide)).mono ?_
  rintro e wx ⟨rfl, hw⟩
  obtain rfl := hw
  rw [HS.out.1]
  go_wp2_with fail
  refine (jSum_any [97] _ (by decide)).mono ?_
  rintro e wx ⟨rfl, hw⟩
  obtain rfl := hw
  rw [HS.out.2.1]
  go_wp2_with fail
  refine (jSum_any [97, 98] _ (by decide)).mono ?_
  rintro e wx ⟨rfl, hw⟩
  obtain rfl := hw
  rw [HS.out.2.2]
  go_wp2_with fail
  refine (jLen_any H6.out).mono ?_
  rintro e wx ⟨rfl, hw⟩
  obtain rfl := hw
  go_wp2_with fail
  refine (jGet_any H6.out 0).mono ?_
  rintro e w7 ⟨rfl, hb7⟩
  have hg : (JS.mk 3 [[97, 98], []] false).get 0 = [97, 98] := rfl
  rw [hg]
  have HB7 := Lib.hid hb7
  clear hb7 hg
  have H7' := Lib.hid (show JK w7 q2 p ⟨4, [[97, 98]], false⟩ M5 from (jOb q2 p _ M5).below H7.out HB7.out)
  have H8' := Lib.hid (H8.out.below HB7.out)
  have HAll := Lib.hid (show Calls Tryd.prog 16 #[.pointer (some ⟨q2, 0, none⟩)] w7 fun e w' => ∃ A, e = .returned (.slice A 1 1) ∧ OwnL w' w7.heap.size 9 1 strE A 1 [[97, 98]] ∧ Below w7.heap.size w7 w' from jAll_any H7'.out (by decide))
  go_wp2_with fail
  refine HAll.out.mono ?_
  rintro e w8 ⟨A, rfl, ho8, hb8⟩
  have HB8 := Lib.hid hb8
  have HO8 := Lib.hid ho8
  clear hb8 ho8
  go_wp2_with fail
  have HBa := Lib.hid ((Below.refl w8.heap.size w8).alloc (Nat.le_refl _) (.cells #[.string ⟨#[97, 98]⟩] 9))
  have HSm := Lib.hid (sameS_any [[97, 98]] [[97, 98]] A (some ⟨w8.heap.size, 0, none⟩) 1 1 (w8.alloc (.cells #[.string ⟨#[97, 98]⟩] 9)) (((HO8.out.mono (Nat.zero_le _)).rd strLayJ).now HBa.out) ((RdL.one w8 [97, 98] _ _ rfl _ rfl).more (by simp)) (by decide) (by decide))
  refine HSm.out.mono ?_
  rintro e w9 ⟨rfl, hb9⟩
  have HB9 := Lib.hid ((HB7.out.trans (HB8.out.mono HB7.out.size)).trans ((HBa.out.trans (hb9.mono HBa.out.size)).mono (Nat.le_trans HB7.out.size HB8.out.size)))
  have H9 := Lib.hid (H8.out.below HB9.out)
  clear hb9
  have hbt : ([[97, 98]] == ([[97, 98]] : List (List UInt8))) = true := by decide
  rw [hbt]
  go_wp2_with fail
  refine (dSize_any p S5 D5 w9 4 (by unfold inI64; omega) H9.out).mono ?_
  rintro e wx ⟨rfl, hw⟩
  obtain rfl := hw
  rw [hsz5]
  go_wp2_with fail
  go_ret
  exact ⟨rfl, HB.out.trans (HB9.out.mono HB.out.size)⟩
end Go.Proofs.YtoicnokidlkjfaaDoor
/- The walk of JournalStays. -/
namespace Go.Proofs.YtoicnokidlkjfaaDoor
open Go.RowKit
set_option maxRecDepth 100000

theorem rd_low {T : Type} {sz : Nat} {enc : T → List Value} {w : World} {B : Nat} {A : Option Addr} {xs : List T} (h : RdL sz enc w B A xs) (hne : xs ≠ []) {i : Nat} (hi : slBlk A = some i) : i < B := by
  have hl : 0 < xs.length := List.length_pos_iff.2 hne
  obtain ⟨b, off, e, hb, _⟩ := h.at_ hl
  rw [e] at hi
  have := Option.some.inj hi
  simp only at this
  omega
theorem stays_new : SInv DS.new none 0 := ⟨DS.new_wf, Inv.new, rfl, rfl, by rw [now_new]; simp, fun _ e => by cases e⟩
theorem stays_openO {S : DS} {J : Option JS} {n : Nat} (h : SInv S J n) : SInv (openS S 0) (openO S 0) (n + 1) := by
  rcases stays_open h with ⟨hc, hi⟩ | ⟨hc, hi⟩
  · rw [open_some hc]; exact hi
  · rw [open_none hc]; exact hi
theorem start_keep (S : DS) : S.start.keep = S.keep := rfl
theorem sinv_up {S : DS} {J : Option JS} {n m : Nat} (h : SInv S J n) (hm : n ≤ m) : SInv S J m := by
  induction hm with
  | refl => exact h
  | step _ ih => exact ih.more
/-- The file 0 is x, durably; nothing is lost, no crash is scheduled. -/
structure FirmR (x : ByteArray) (S : DS) : Prop where
  firm : Firm 0 x S
  up : S.down = false
  lost : S.lost = 0
  arm : S.armed = 0
  keep : S.keep.length = 0
theorem FirmR.step {x : ByteArray} {S : DS} {W : List (List UInt8)} (h : FirmR x S) (hx : x.data.toList = formsF W) (hl : ∀ t ∈ W, t.length ≤ 20000) (keep : List Int) :
    openC (S.crash keep).start 0 = 0 ∧ (openJ (S.crash keep).start 0).recs = W ∧ FirmR x (openS (S.crash keep).start 0) := by
  have hc : (S.crash keep).start.lost = S.lost ∧ (S.crash keep).start.armed = 0 := by
    unfold DS.crash
    rw [if_neg (by rw [h.up]; decide)]
    exact ⟨rfl, rfl⟩
  have hf : Firm 0 x (S.crash keep).start := h.firm.crash keep
  obtain ⟨a1, a2, a3, a4, a5, a6⟩ := firm_open hf hx hl rfl (by rw [hc.1]; exact h.lost) hc.2
  exact ⟨a1, a2, a3, a4, a5, a6, by rw [openS_keep, start_keep, crash_keep]; exact h.keep⟩
/-- Between two operations. -/
structure StaysR (w : World) (p : Nat) (v : Value) (k : Nat) (S : DS) (D : DL) (J : Option JS) (X : Ob) (wr : World) : Prop where
  isj : IsJ p v X J
  st : St w ((dOb p S D).sep X) wr
  inv : SInv S J (k + 1)
  keep : S.keep.length = 0
section
variable {w wr w' : World} {p : Nat} {v : Value} {k : Nat} {S : DS} {D : DL} {J : Option JS} {X : Ob}
theorem StaysR.more (h : StaysR w p v k S D J X wr) : StaysR w p v (k + 1) S D J X wr := ⟨h.isj, h.st, h.inv.more, h.keep⟩
end
set_option maxHeartbeats 8000000 in
theorem stays_any (l : List OpM) (A : Option Addr) (c : Nat) (s : List (List UInt8)) (sA : Option Addr) (sc : Nat) (one : List Int) (oA : Option Addr) (oc : Nat) (two : List Int) (tA : Option Addr) (tc : Nat) (w : World) (hV : Vs w.heap.size w)
    (hr : RdL 4 opC w w.heap.size A l) (hl : ∀ a ∈ l, OpOk w a) (hm : l.length ≤ 9223372036854775807) (hsr : RdL 1 strE w w.heap.size sA s) (hsl : ∀ t ∈ s, t.length ≤ 9223372036854775807) (hsm : s.length ≤ 9223372036854775807)
    (ho : RdL 1 intC w w.heap.size oA one) (hom : one.length ≤ 9223372036854775807) (ht : RdL 1 intC w w.heap.size tA two) (htm : two.length ≤ 9223372036854775807) :
    Calls Tryd.prog 5 #[.slice A l.length c, .slice sA s.length sc, .slice oA one.length oc, .slice tA two.length tc] w fun e w' => e = .returned (.bool true) ∧ Below w.heap.size w w' := by
  have HV := Lib.hid hV
  have HR := Lib.hid hr
  have HL := Lib.hid hl
  have HSr := Lib.hid hsr
  have HSl := Lib.hid hsl
  have HOn := Lib.hid ho
  have HTw := Lib.hid ht
  clear hV hr hl hsr hsl ho ht
  go_enter Tryd.func5, Tryd.ntmps5
  go_wp2_with fail
  refine (small_any w HV.out).mono ?_
  rintro e w1 ⟨rfl, hb1⟩
  have HB1 := Lib.hid hb1
  have HF1 := Lib.hid (lFewO_any l A c w1 (HR.out.now hb1) hm (fun a ha => (HL.out a ha).now hb1))
  have HT1 := Lib.hid (lTexts_any s sA sc w1 (HSr.out.now hb1) hsm HSl.out)
  clear hb1
  cases hf1 : fewO l with
  | false =>
    rw [hf1] at HF1
    go_wp2_with fail
    refine HF1.out.mono ?_
    rintro e wx ⟨rfl, hw⟩
    obtain rfl := hw
    go_wp2_with fail
    go_ret
    exact ⟨rfl, HB1.out⟩
  | true =>
  rw [hf1] at HF1
  have HFew := Lib.hid (fewO_ok hf1)
  clear hf1
  cases ht1 : textsB s with
  | false =>
    rw [ht1] at HT1
    go_wp2_with fail
    refine HF1.out.mono ?_
    rintro e wx ⟨rfl, hw⟩
    obtain rfl := hw
    go_wp2_with fail
    refine HT1.out.mono ?_
    rintro e wx ⟨rfl, hw⟩
    obtain rfl := hw
    go_wp2_with fail
    go_ret
    exact ⟨rfl, HB1.out⟩
  | true =>
  rw [ht1] at HT1
  have HTx := Lib.hid (texts_ok ht1)
  have h8 := HTx.out.1
  have h25 := HFew.out.1
  clear ht1
  go_wp2_with fail
  refine HF1.out.mono ?_
  rintro e wx ⟨rfl, hw⟩
  obtain rfl := hw
  go_wp2_with fail
  refine HT1.out.mono ?_
  rintro e wx ⟨rfl, hw⟩
  obtain rfl := hw
  clear HF1 HT1
  by_cases h1 : (50 : Int) < one.length
  · have d1 : decide ((50 : Int) < one.length) = true := by simpa using h1
    clear h1
    go_wp2_with fail
    go_ret
    exact ⟨rfl, HB1.out⟩
  have d1 : decide ((50 : Int) < one.length) = false := by simpa using h1
  by_cases h2 : (50 : Int) < two.length
  · have d2 : decide ((50 : Int) < two.length) = true := by simpa using h2
    clear h2
    go_wp2_with fail
    go_ret
    exact ⟨rfl, HB1.out⟩
  have d2 : decide ((50 : Int) < two.length) = false := by simpa using h2
  go_wp2_with fail
  refine (dNew_any w1).mono ?_
  rintro e w2 ⟨rfl, hb2, D0, hd0, ho0, -⟩
  have hz1 := HB1.out.size
  have H0 : Hid (St w ((dOb (w1.heap.size + 2) DS.new D0).sep Ob.nil) w2) := Lib.hid (St.nil ⟨hd0, HB1.out.trans (hb2.mono hz1), fun i hi => Nat.le_trans hz1 (ho0 i hi)⟩)
  generalize w1.heap.size + 2 = p at *
  clear hb2 hd0 ho0 HB1 hz1
  have hk1 : (openS DS.new 0).keep.length = 0 := by rw [openS_keep]; rfl
  have HI1 := Lib.hid (stays_openO stays_new)
  go_wp2_with fail
  refine (open_any2 HV.out H0.out (f := 0) (by unfold inI64; omega) (by decide)).mono ?_
  rintro e w3 ⟨D1, X, v, rfl, hst, hj⟩
  have HR1 : Hid (StaysR w p v 0 (openS DS.new 0) D1 (openO DS.new 0) X w3) := Lib.hid ⟨hj, hst.forget, HI1.out, hk1⟩
  clear hst hj HI1 hk1 H0
  generalize openS DS.new 0 = S1 at *
  generalize openO DS.new 0 = J1 at *
  generalize openC DS.new 0 = C1 at *
  go_upto_block 0 with fail
  go_cut [11] (fun v wr => ∃ (k : Nat) (S : DS) (D : DL) (J : Option JS) (X : Ob), k ≤ 25 ∧ StaysR w p v k S D J X wr)
  case first =>
    go_wp2_with fail
    go_loopw [11, 13] (fun v i wr => ∃ (k : Nat) (S : DS) (D : DL) (J : Option JS) (X : Ob), k ≤ l.length ∧ i = .int .i64 k ∧ StaysR w p v k S D J X wr) (fun _ i _ => l.length - (intOf i).toNat)
    case atStart => exact ⟨0, S1, D1, J1, X, Nat.zero_le _, rfl, HR1.out⟩
    case round =>
      clear HR1
      obtain ⟨k, S, D, J, X, hk, rfl, hst⟩ := hrel
      have HSt := Lib.hid hst
      by_cases hlt : k < l.length
      rotate_left
      · go_wp2_with fail
        go_meet
        case rel => exact ⟨k, S, D, J, X, by omega, HSt.out⟩
      obtain ⟨b, off, hA, hb, c0, c1, c2, c3⟩ := (HR.out.now HSt.out.st.bl).op hlt
      have hok := HL.out l[k] (List.getElem_mem hlt)
      have hfew := HFew.out.2 l[k] (List.getElem_mem hlt)
      subst hA
      have HOk := Lib.hid (hok.now HSt.out.st.bl)
      have HKl : Hid (l[k].keep ≠ [] → ∀ i, slBlk l[k].kA = some i → i < w.heap.size) := Lib.hid (fun hne i hi => rd_low hok.rd hne hi)
      have hi0 : (0 : Int) ≤ (k : Int) := by omega
      have hi1 : (k : Int) < (l.length : Int) := by omega
      have hsz : (bs l[k].s).size = l[k].s.length := bs_size _
      have hfs := hfew.s
      have hfk := hfew.k
      clear hst hok hfew
      generalize l[k] = a at *
      by_cases k0 : a.kind = 0
      · have e0 : (a.kind == 0) = true := by simpa using k0
        cases J with
        | none =>
          have hv := HSt.out.isj.1
          subst hv
          go_wp2_with fail
          go_roundw
          case rel => exact ⟨k + 1, S, D, none, X, by omega, by go_num, HSt.out.more⟩
          case measure => simp [intOf]; omega
        | some j =>
          obtain ⟨q, M, hv, hX⟩ := HSt.out.isj
          subst hv hX
          obtain ⟨hfile, _, hat, _⟩ := HSt.out.inv.jr j rfl
          have HA := Lib.hid (stays_append HSt.out.inv (by omega) a.s hfs)
          have HApp := Lib.hid (app_any2 HV.out (show St w ((jBoth p q S D j M).sep Ob.nil) wr from HSt.out.st.nil) a.s (by omega) (by show (formsF j.recs).length ≤ _; omega) (by rw [hfile]; unfold inI64; omega) (by have := HSt.out.keep; omega))
          have HKe : Hid ((appS S j a.s).keep.length = 0) := Lib.hid (by rw [appS_keep]; exact HSt.out.keep)
          clear HSt hat hfile
          go_wp2_with fail
          refine HApp.out.mono ?_
          rintro e w4 ⟨D', M', rfl, hst⟩
          have HS4 := Lib.hid hst
          have HI4 : Hid (SInv (appS S j a.s) (some (appJ S j a.s)) (k + 1 + 1)) := Lib.hid (by rcases HA.out with ⟨_, _, h⟩ | ⟨_, _, h⟩ <;> exact h)
          clear hst HA HApp
          go_wp2_with fail
          go_roundw
          case rel => exact ⟨k + 1, _, D', some _, _, by omega, by go_num, ⟨q, M', rfl, rfl⟩, HS4.out.forget, HI4.out, HKe.out⟩
          case measure => simp [intOf]; omega
      have e0 : (a.kind == 0) = false := by simpa using k0
      by_cases k1 : a.kind = 1
      · have e1 : (a.kind == 1) = true := by simpa using k1
        cases J with
        | none =>
          have hv := HSt.out.isj.1
          subst hv
          go_wp2_with fail
          go_roundw
          case rel => exact ⟨k + 1, S, D, none, X, by omega, by go_num, HSt.out.more⟩
          case measure => simp [intOf]; omega
        | some j =>
          obtain ⟨q, M, hv, hX⟩ := HSt.out.isj
          subst hv hX
          obtain ⟨hfile, _, hat, _⟩ := HSt.out.inv.jr j rfl
          have HA := Lib.hid (stays_sync HSt.out.inv)
          have HApp := Lib.hid (sync_any2 (show St w ((jBoth p q S D j M).sep Ob.nil) wr from HSt.out.st.nil) (by rw [hfile]; unfold inI64; omega) (by have := HSt.out.keep; omega))
          have HKe : Hid ((synS S j).keep.length = 0) := Lib.hid (by rw [synS_keep]; exact HSt.out.keep)
          clear HSt hat hfile
          go_wp2_with fail
          refine HApp.out.mono ?_
          rintro e w4 ⟨D', M', rfl, hst⟩
          have HS4 := Lib.hid hst
          clear hst HApp
          go_wp2_with fail
          go_roundw
          case rel => exact ⟨k + 1, _, D', some _, _, by omega, by go_num, ⟨q, M', rfl, rfl⟩, HS4.out.forget, HA.out.2.1, HKe.out⟩
          case measure => simp [intOf]; omega
      have e1 : (a.kind == 1) = false := by simpa using k1
      by_cases k2 : a.kind = 2
      · have e2 : (a.kind == 2) = true := by simpa using k2
        go_wp2_with fail
        refine (dLose_any p S D wr a.n HOk.out.n HSt.out.st.disk).mono ?_
        rintro e w4 ⟨rfl, hu⟩
        obtain ⟨D', hst⟩ := HSt.out.st.dupd hu
        have HS4 := Lib.hid hst
        have HI4 : Hid (SInv (S.lose a.n) J (k + 1 + 1)) := Lib.hid (stays_same HSt.out.inv (DS.lose_wf HSt.out.inv.wf _ HOk.out.n) rfl rfl rfl rfl)
        have HIs := Lib.hid HSt.out.isj
        have HKe : Hid ((S.lose a.n).keep.length = 0) := Lib.hid HSt.out.keep
        clear hst hu HSt
        go_wp2_with fail
        go_roundw
        case rel => exact ⟨k + 1, _, D', J, X, by omega, by go_num, HIs.out, HS4.out, HI4.out, HKe.out⟩
        case measure => simp [intOf]; omega
      have e2 : (a.kind == 2) = false := by simpa using k2
      by_cases k4 : a.kind = 4
      · have e4 : (a.kind == 4) = true := by simpa using k4
        have HI4 := Lib.hid (stays_openO (stays_crash HSt.out.inv a.keep))
        have HKe : Hid ((S.crash a.keep).start.keep.length = 0) := Lib.hid (by rw [start_keep, crash_keep]; exact HSt.out.keep)
        go_wp2_with fail
        refine (dCrash_any p S D wr a.keep a.kA a.kc HOk.out.rd (by omega) (fun hne i hi ho => by have := HKl.out hne i hi; have := HSt.out.st.disk_own i ho; omega) HSt.out.st.disk).mono ?_
        rintro e w4 ⟨rfl, hu⟩
        obtain ⟨D4, hst4⟩ := HSt.out.st.dupd hu
        have HS4 := Lib.hid hst4
        clear hu hst4 HSt
        go_wp2_with fail
        refine (dStart_any p _ D4 w4 HS4.out.disk).mono ?_
        rintro e w5 ⟨rfl, hu⟩
        obtain ⟨D5, hst5⟩ := HS4.out.dupd hu
        have HS5 := Lib.hid hst5.forget
        clear hu hst5 HS4
        generalize (S.crash a.keep).start = S5 at *
        go_wp2_with fail
        refine (open_any2 HV.out HS5.out.nil (f := 0) (by unfold inI64; omega) (by have := HKe.out; omega)).mono ?_
        rintro e w6 ⟨D6, X6, v6, rfl, hst, hj⟩
        have HS6 := Lib.hid hst.forget
        have HJ6 := Lib.hid hj
        have HK6 : Hid ((openS S5 0).keep.length = 0) := Lib.hid (by rw [openS_keep]; exact HKe.out)
        clear hst hj HS5
        generalize openS S5 0 = S6 at *
        generalize openO S5 0 = J6 at *
        generalize openC S5 0 = C6 at *
        go_wp2_with fail
        go_roundw
        case rel => exact ⟨k + 1, S6, D6, J6, X6, by omega, by go_num, HJ6.out, HS6.out, HI4.out, HK6.out⟩
        case measure => simp [intOf]; omega
      have e4 : (a.kind == 4) = false := by simpa using k4
      go_wp2_with fail
      go_roundw
      case rel => exact ⟨k + 1, S, D, J, X, by omega, by go_num, HSt.out.more⟩
      case measure => simp [intOf]; omega
  case rest =>
    obtain ⟨k, S, D, J, X, hk, hst⟩ := hcut
    have HSt := Lib.hid hst
    clear hst HR1
    cases J with
    | none =>
      have hv := HSt.out.isj.1
      subst hv
      go_wp2_with fail
      go_ret
      exact ⟨rfl, HSt.out.st.bl⟩
    | some j =>
      obtain ⟨q, M, hv, hX⟩ := HSt.out.isj
      subst hv hX
      have hrj : j.recs.length ≤ 100000 := by
        obtain ⟨_, _, hat, _⟩ := HSt.out.inv.jr j rfl
        have := enc_len formF formF_pos j.recs
        have h3 : (formsF j.recs).length = (j.recs.flatMap formF).length := rfl
        omega
      go_wp2_with fail
      refine (jAll_any (show JK wc q p j M from HSt.out.st.ok.1.2) (by omega)).mono ?_
      rintro e w4 ⟨WA, rfl, ho4, hb4⟩
      have HS4 : Hid (St w ((jBoth p q S D j M).sep (lsOb 9 1 strE WA j.recs.length j.recs)) w4) := Lib.hid (HSt.out.st.list hb4 ho4)
      have HI := Lib.hid HSt.out.inv
      have HKe := Lib.hid HSt.out.keep
      clear ho4 hb4 HSt
      go_wp2_with fail
      go_loopw [14, 15] (fun W i wr => ∃ (k : Nat) (S : DS) (D : DL) (j : JS) (M : JL) (WA : Option Addr) (wc : Nat), k ≤ s.length ∧ W = .slice WA j.recs.length wc ∧ i = .int .i64 k ∧ j.recs.length ≤ 100000 + k ∧ St w ((jBoth p q S D j M).sep (lsOb 9 1 strE WA wc j.recs)) wr ∧ SInv S (some j) (26 + k) ∧ S.keep.length = 0) (fun _ i _ => s.length - (intOf i).toNat)
      case atStart => exact ⟨0, S, D, j, M, WA, j.recs.length, Nat.zero_le _, rfl, rfl, hrj, HS4.out, sinv_up HI.out (by omega), HKe.out⟩
      case round =>
        clear HS4 HI HKe hrj
        obtain ⟨k, S, D, j, M, WA, wc, hk, rfl, rfl, hrj, hst, hiv, hke⟩ := hrel
        have HSt := Lib.hid hst
        have HI := Lib.hid hiv
        have HKe := Lib.hid hke
        clear hst hiv hke
        obtain ⟨hfile, hsm, hat, _⟩ := HI.out.jr j rfl
        by_cases hlt : k < s.length
        · obtain ⟨b, off, hA, hb0, hcl⟩ := HSr.out.at_ hlt
          have HC : Hid (∀ wq, Below w.heap.size w wq → wq.cell? ⟨b, off + k, none⟩ = some (.string (bs s[k]))) := Lib.hid (fun wq hq => (hq.cell (p := ⟨b, off + k, none⟩) hb0).trans (by simpa using hcl 0 _ rfl))
          have c0 := HC.out _ HSt.out.bl
          subst hA
          clear hcl
          have hs := HTx.out.2 s[k] (List.getElem_mem hlt)
          have hi0 : (0 : Int) ≤ (k : Int) := by omega
          have hi1 : (k : Int) < (s.length : Int) := by omega
          generalize s[k] = t at *
          have HA := Lib.hid (stays_append HI.out (by omega) t hs)
          have HApp := Lib.hid (app_any2 HV.out HSt.out t (by omega) (by show (formsF j.recs).length ≤ _; omega) (by rw [hfile]; unfold inI64; omega) (by have := HKe.out; omega))
          have HKe2 : Hid ((appS S j t).keep.length = 0) := Lib.hid (by rw [appS_keep]; exact HKe.out)
          clear hat hfile hsm
          go_wp2_with fail
          refine HApp.out.mono ?_
          rintro e w5 ⟨D', M', rfl, hst⟩
          rcases HA.out with ⟨hc, hr, hi⟩ | ⟨hc, hj, hi⟩
          · rw [hc]
            have HR5 := Lib.hid hr
            have HI5 := Lib.hid hi
            have HS5 := Lib.hid hst
            clear hc hr hi hst HA HApp HI
            generalize appJ S j t = j2 at *
            generalize appS S j t = S2 at *
            have c0' := HC.out _ HS5.out.bl
            have HO5 := Lib.hid (show OwnL w5 0 9 1 strE WA wc j.recs from HS5.out.ok.1.2)
            go_wp2_with (first
              | (at_builtin; refine wp_append_l rfl (.tmp 125) (.tmp 130) rfl slStrJ strLayJ 0 (xs := j.recs) (ys := [t]) rfl rfl (HO5.out.alloc _) rfl rfl (RdL.one w5 t _ _ rfl _ rfl) (by simp; omega) (Nat.zero_le _) ?_; intro A7 c7 w7 hown7 hg7 hb7 hat7; have HO7 := Lib.hid hown7; have HG7 := Lib.hid hg7; have HA7 := Lib.hid hat7; clear hown7 hg7 hb7 hat7)
              | fail)
            have HU7 : Hid (St w ((jBoth p q S2 D' j2 M').sep (lsOb 9 1 strE A7 c7 j2.recs)) w7) := Lib.hid (by
              rw [HR5.out]
              refine HS5.out.upd (OUpd.right HS5.out.ok (OUpd.append (.cells #[.string (bs t)] 9) HO7.out ?_ ?_))
              · have h := HG7.out
                rw [own_blk] at h
                exact h
              · have h := HA7.out
                rw [own_blk, own_blk] at h
                exact h)
            have HL2 : Hid (j2.recs.length = j.recs.length + 1) := Lib.hid (by rw [HR5.out]; simp)
            go_roundw
            case rel => exact ⟨k + 1, S2, D', j2, M', A7, c7, by omega, by rw [HL2.out], by go_num, by rw [HL2.out]; omega, HU7.out, HI5.out, HKe2.out⟩
            case measure => simp [intOf]; omega
          · rw [hc]
            have HI5 := Lib.hid hi
            rw [hj] at hst HI5
            have HS5 := Lib.hid hst
            clear hc hj hi hst HA HApp HI
            generalize appS S j t = S2 at *
            go_wp2_with fail
            go_roundw
            case rel => exact ⟨k + 1, S2, D', j, M', WA, wc, by omega, rfl, by go_num, by omega, HS5.out, HI5.out, HKe2.out⟩
            case measure => simp [intOf]; omega
        · have HA := Lib.hid (stays_sync HI.out)
          have HApp := Lib.hid (sync_any2 HSt.out (by rw [hfile]; unfold inI64; omega) (by have := HKe.out; omega))
          have HKe2 : Hid ((synS S j).keep.length = 0) := Lib.hid (by rw [synS_keep]; exact HKe.out)
          have HSm := Lib.hid hsm
          clear hat hfile hsm HSt HKe
          go_wp2_with fail
          refine HApp.out.mono ?_
          rintro e w5 ⟨D', M', rfl, hst⟩
          have HS5 := Lib.hid hst
          have HRc := Lib.hid HA.out.1
          have HI5 := Lib.hid HA.out.2.1
          have HFi := Lib.hid HA.out.2.2
          clear hst HA HApp
          generalize synJ S j = j2 at *
          generalize hS2 : synS S j = S2 at *
          generalize synC S j = cc at *
          clear hS2
          by_cases hcc : cc = 0
          rotate_left
          · have d3 : (cc != 0) = true := by simpa using hcc
            clear hcc
            have HJ5 := Lib.hid (show JK w5 q p j2 M' from HS5.out.ok.1.1.1.2)
            have HW5 := Lib.hid (show OwnL w5 0 9 1 strE WA wc j.recs from HS5.out.ok.1.2)
            have HBl := Lib.hid HS5.out.bl
            have HAll := Lib.hid (all_as HJ5.out HRc.out (by omega))
            clear HS5 HI5 HFi
            go_wp2_with fail
            refine HAll.out.mono ?_
            rintro e w6 ⟨A6, rfl, hr6, -, hb6⟩
            have HB6 := Lib.hid (HBl.out.trans (hb6.mono HBl.out.size))
            have HSm6 := Lib.hid (same_refl j.recs A6 WA j.recs.length wc w6 hr6 ((HW5.out.rd strLayJ).now hb6) (by omega))
            clear hr6 hb6 HAll
            go_wp2_with fail
            refine HSm6.out.mono ?_
            rintro e w7 ⟨rfl, hb7⟩
            have HB7 := Lib.hid (HB6.out.trans (hb7.mono HB6.out.size))
            clear hb7
            go_wp2_with fail
            go_ret
            exact ⟨rfl, HB7.out⟩
          · have d3 : (cc != 0) = false := by simpa using hcc
            have HFi2 := Lib.hid (HFi.out hcc)
            have HFr : Hid (FirmR (S.files 0).1 (S2.lose 0)) := Lib.hid ⟨HFi2.out.1, HI5.out.up, rfl, HI5.out.arm, HKe2.out⟩
            have HX : Hid ((S.files 0).1.data.toList = formsF j.recs) := Lib.hid HFi2.out.2
            clear hcc HFi HFi2
            generalize (S.files 0).1 = x at *
            go_wp2_with fail
            refine (dLose_any p S2 D' w5 0 (by unfold inI64; omega) HS5.out.ok.1.1.1.1).mono ?_
            rintro e w6 ⟨rfl, hu⟩
            obtain ⟨D6, hst⟩ := (St.assoc HS5.out).dupd hu
            have HS6 : Hid (St w ((jBoth p q (S2.lose 0) D6 j2 M').sep (lsOb 9 1 strE WA wc j.recs)) w6) := Lib.hid hst.assoc2
            clear hu hst HS5 HI5 HI HKe2
            generalize S2.lose 0 = S3 at *
            generalize j.recs = W at *
            go_wp2_with fail
            go_loopw [11, 17] (fun v i wr => ∃ (k q : Nat) (S : DS) (D : DL) (j : JS) (M : JL), k ≤ 2 ∧ v = .pointer (some ⟨q, 0, none⟩) ∧ i = .int .i64 k ∧ St w ((jBoth p q S D j M).sep (lsOb 9 1 strE WA wc W)) wr ∧ j.recs = W ∧ FirmR x S) (fun _ i _ => 2 - (intOf i).toNat)
            case atStart => exact ⟨0, q, S3, D6, j2, M', by omega, rfl, rfl, HS6.out, HRc.out, HFr.out⟩
            case round =>
              clear HS6 HRc HFr
              obtain ⟨k, q, S, D, j, M, hk, rfl, rfl, hst, hjr, hfr⟩ := hrel
              have HS := Lib.hid hst
              have HJr := Lib.hid hjr
              have HFr := Lib.hid hfr
              clear hst hjr hfr
              have HJ5 := Lib.hid (show JK wr q p j M from HS.out.ok.1.1.1.2)
              have HAll := Lib.hid (all_as HJ5.out HJr.out (by omega))
              have HSm6 : Hid (∀ (w6 : World) (A6 : Option Addr), Below wr.heap.size wr w6 → RdL 1 strE w6 w6.heap.size A6 W → Calls Tryd.prog 15 #[.slice A6 W.length W.length, .slice WA W.length wc] w6 fun e w' => e = .returned (.bool true) ∧ Below w6.heap.size w6 w') :=
                Lib.hid (fun w6 A6 hb h6 => same_refl W A6 WA W.length wc w6 h6 (((show OwnL wr 0 9 1 strE WA wc W from HS.out.ok.1.2).rd strLayJ).now hb) (by omega))
              by_cases hlt : k < 2
              rotate_left
              · have hk2 : k = 2 := by omega
                subst hk2
                go_wp2_with fail
                refine HAll.out.mono ?_
                rintro e w6 ⟨A6, rfl, hr6, -, hb6⟩
                have HB6 := Lib.hid (HS.out.bl.trans (hb6.mono HS.out.bl.size))
                have HSm7 := Lib.hid (HSm6.out w6 A6 hb6 hr6)
                clear hr6 hb6 HAll HSm6
                go_wp2_with fail
                refine HSm7.out.mono ?_
                rintro e w7 ⟨rfl, hb7⟩
                have HB7 := Lib.hid (HB6.out.trans (hb7.mono HB6.out.size))
                clear hb7
                go_wp2_with fail
                go_ret
                exact ⟨rfl, HB7.out⟩
              have hk2 : k = 0 ∨ k = 1 := by omega
              clear hlt
              rcases hk2 with rfl | rfl
              · skip
                go_wp2_with fail
                refine HAll.out.mono ?_
                rintro e w6 ⟨A6, rfl, hr6, -, hb6⟩
                have HS6 := Lib.hid (HS.out.on hb6)
                have HSm7 := Lib.hid (HSm6.out w6 A6 hb6 hr6)
                clear hr6 hb6 HAll HSm6 HS
                go_wp2_with fail
                refine HSm7.out.mono ?_
                rintro e w7 ⟨rfl, hb7⟩
                have HS7 := Lib.hid (HS6.out.on hb7)
                clear hb7 HS6 HSm7
                have HStep := Lib.hid (HFr.out.step HX.out HSm.out one)
                have HKe : Hid ((S.crash one).start.keep.length = 0) := Lib.hid (by rw [start_keep, crash_keep]; exact HFr.out.keep)
                go_wp2_with fail
                refine (dCrash_any p S D w7 one oA oc (HOn.out.now HS7.out.bl) (by omega) (fun hne i hi ho => by have := rd_low HOn.out hne hi; have := HS7.out.own i (.inl (.inl ho)); omega) HS7.out.ok.1.1.1.1).mono ?_
                rintro e w8 ⟨rfl, hu⟩
                obtain ⟨D8, hst8⟩ := (St.assoc HS7.out).dupd hu
                have HS8 := Lib.hid hst8
                clear hu hst8 HS7
                go_wp2_with fail
                refine (dStart_any p _ D8 w8 HS8.out.disk).mono ?_
                rintro e w9 ⟨rfl, hu⟩
                obtain ⟨D9, hst9⟩ := HS8.out.dupd hu
                have HS9 := Lib.hid hst9
                clear hu hst9 HS8
                generalize (S.crash one).start = S9 at *
                have HOp := Lib.hid (open_some HStep.out.1)
                go_wp2_with fail
                refine (open_any2 HV.out HS9.out (f := 0) (by unfold inI64; omega) (by have := HKe.out; omega)).mono ?_
                rintro e w10 ⟨D10, X10, v10, rfl, hst, hj⟩
                rw [HOp.out] at hj
                rw [HStep.out.1]
                obtain ⟨q10, M10, rfl, rfl⟩ := hj
                have HS10 : Hid (St w ((jBoth p q10 (openS S9 0) D10 (openJ S9 0) M10).sep (lsOb 9 1 strE WA wc W)) w10) := Lib.hid (St.forget (St.assoc2 (show St w ((jBoth p q10 (openS S9 0) D10 (openJ S9 0) M10).sep ((lsOb 9 1 strE WA wc W).sep (jOb q p j M))) w10 from ⟨⟨⟨hst.ok.1.1, Ob.swap hst.ok.1.2⟩, fun i hi ho => hst.ok.2.1 i hi ho.symm, fun i hi ho => hst.ok.2.2.1 i hi ho.symm, fun i hi ho => hst.ok.2.2.2 i hi.symm ho⟩, hst.bl, fun i hi => hst.own i (hi.imp id Or.symm)⟩)))
                clear hst HS9
                go_wp2_with fail
                go_roundw
                case rel => exact ⟨1, q10, _, D10, _, M10, by omega, rfl, by first | rfl | go_num, HS10.out, HStep.out.2.1, HStep.out.2.2⟩
                case measure => simp [intOf]
              · skip
                go_wp2_with fail
                refine HAll.out.mono ?_
                rintro e w6 ⟨A6, rfl, hr6, -, hb6⟩
                have HS6 := Lib.hid (HS.out.on hb6)
                have HSm7 := Lib.hid (HSm6.out w6 A6 hb6 hr6)
                clear hr6 hb6 HAll HSm6 HS
                go_wp2_with fail
                refine HSm7.out.mono ?_
                rintro e w7 ⟨rfl, hb7⟩
                have HS7 := Lib.hid (HS6.out.on hb7)
                clear hb7 HS6 HSm7
                have HStep := Lib.hid (HFr.out.step HX.out HSm.out two)
                have HKe : Hid ((S.crash two).start.keep.length = 0) := Lib.hid (by rw [start_keep, crash_keep]; exact HFr.out.keep)
                go_wp2_with fail
                refine (dCrash_any p S D w7 two tA tc (HTw.out.now HS7.out.bl) (by omega) (fun hne i hi ho => by have := rd_low HTw.out hne hi; have := HS7.out.own i (.inl (.inl ho)); omega) HS7.out.ok.1.1.1.1).mono ?_
                rintro e w8 ⟨rfl, hu⟩
                obtain ⟨D8, hst8⟩ := (St.assoc HS7.out).dupd hu
                have HS8 := Lib.hid hst8
                clear hu hst8 HS7
                go_wp2_with fail
                refine (dStart_any p _ D8 w8 HS8.out.disk).mono ?_
                rintro e w9 ⟨rfl, hu⟩
                obtain ⟨D9, hst9⟩ := HS8.out.dupd hu
                have HS9 := Lib.hid hst9
                clear hu hst9 HS8
                generalize (S.crash two).start = S9 at *
                have HOp := Lib.hid (open_some HStep.out.1)
                go_wp2_with fail
                refine (open_any2 HV.out HS9.out (f := 0) (by unfold inI64; omega) (by have := HKe.out; omega)).mono ?_
                rintro e w10 ⟨D10, X10, v10, rfl, hst, hj⟩
                rw [HOp.out] at hj
                rw [HStep.out.1]
                obtain ⟨q10, M10, rfl, rfl⟩ := hj
                have HS10 : Hid (St w ((jBoth p q10 (openS S9 0) D10 (openJ S9 0) M10).sep (lsOb 9 1 strE WA wc W)) w10) := Lib.hid (St.forget (St.assoc2 (show St w ((jBoth p q10 (openS S9 0) D10 (openJ S9 0) M10).sep ((lsOb 9 1 strE WA wc W).sep (jOb q p j M))) w10 from ⟨⟨⟨hst.ok.1.1, Ob.swap hst.ok.1.2⟩, fun i hi ho => hst.ok.2.1 i hi ho.symm, fun i hi ho => hst.ok.2.2.1 i hi ho.symm, fun i hi ho => hst.ok.2.2.2 i hi.symm ho⟩, hst.bl, fun i hi => hst.own i (hi.imp id Or.symm)⟩)))
                clear hst HS9
                go_wp2_with fail
                go_roundw
                case rel => exact ⟨2, q10, _, D10, _, M10, by omega, rfl, by first | rfl | go_num, HS10.out, HStep.out.2.1, HStep.out.2.2⟩
                case measure => simp [intOf]
end Go.Proofs.YtoicnokidlkjfaaDoor
