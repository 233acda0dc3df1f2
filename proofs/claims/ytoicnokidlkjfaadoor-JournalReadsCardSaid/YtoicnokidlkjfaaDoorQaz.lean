/- Contracts and plain laws, joined: JnP, JnQ, JnR. -/
import Derived.Test.YtoicnokidlkjfaaDoorQax
import Derived.Test.YtoicnokidlkjfaaDoorQat
import Derived.Test.YtoicnokidlkjfaaDoorQav
import Derived.Test.YtoicnokidlkjfaaDoorQaw
import Derived.Deep.CutBlock
/- States of a law over disks and journals; contracts of lingualaw03's small functions. -/
namespace Go.Proofs.YtoicnokidlkjfaaDoor
open Go.RowKit
set_option maxRecDepth 100000

/-! The list of the surviving sectors is not touched. -/
theorem sync_keep (S : DS) (f : Int) : (S.sync f).keep = S.keep := by
  have h1 := come_keep S
  unfold DS.sync DS.sync0
  split
  · exact h1
  · split
    · exact h1
    · exact h1
theorem trunc_keep (S : DS) (f n : Int) : (S.trunc f n).keep = S.keep := by
  have h1 := come_keep S
  unfold DS.trunc DS.trunc0
  split
  · exact h1
  · exact h1
theorem write_keep (S : DS) (f a : Int) (s : ByteArray) : (S.write f a s).keep = S.keep := by
  unfold DS.write
  split
  · rw [crash_keep, DS.wr_keep, DS.tick_keep]
  · rw [DS.wr_keep, DS.tick_keep]
theorem openS_keep (S : DS) (f : Int) : (openS S f).keep = S.keep := by
  unfold openS
  split
  · rfl
  · split
    · exact sync_keep S f
    · split
      · rw [trunc_keep]; exact sync_keep S f
      · exact sync_keep S f
theorem appS_keep (S : DS) (J : JS) (s : List UInt8) : (appS S J s).keep = S.keep := by
  unfold appS
  split
  · rfl
  · exact write_keep _ _ _ _
theorem synS_keep (S : DS) (J : JS) : (synS S J).keep = S.keep := by
  unfold synS
  split
  · rfl
  · exact sync_keep _ _
/-- What a law has at a time: objects of its own, above all that was there. -/
structure St (w : World) (O : Ob) (wr : World) : Prop where
  ok : O.ok wr
  bl : Below w.heap.size w wr
  own : ∀ i, O.own i → w.heap.size ≤ i
section
variable {w wr w' : World} {O O2 : Ob}
theorem St.upd (h : St w O wr) (u : OUpd O O2 wr w') : St w O2 w' := ⟨u.ok, h.bl.trans (u.to_below h.bl.size h.own), u.base h.bl.size h.own⟩
theorem St.on (h : St w O wr) (hb : Below wr.heap.size wr w') : St w O w' := ⟨Ob.below h.ok hb, h.bl.trans (hb.mono h.bl.size), h.own⟩
theorem St.assoc {a b c : Ob} (h : St w ((a.sep b).sep c) wr) : St w (a.sep (b.sep c)) wr := ⟨Ob.assoc h.ok, h.bl, fun i hi => h.own i (hi.elim (fun h => .inl (.inl h)) (fun h => h.elim (fun h => .inl (.inr h)) .inr))⟩
theorem St.assoc2 {a b c : Ob} (h : St w (a.sep (b.sep c)) wr) : St w ((a.sep b).sep c) wr := ⟨Ob.assoc2 h.ok, h.bl, fun i hi => h.own i (hi.elim (fun h => h.elim .inl (fun h => .inr (.inl h))) (fun h => .inr (.inr h)))⟩
theorem St.swap {a b : Ob} (h : St w (a.sep b) wr) : St w (b.sep a) wr := ⟨Ob.swap h.ok, h.bl, fun i hi => h.own i hi.symm⟩
theorem St.forget {a b : Ob} (h : St w (a.sep b) wr) : St w a wr := ⟨h.ok.1.1, h.bl, fun i hi => h.own i (.inl hi)⟩
theorem St.nil {a : Ob} (h : St w a wr) : St w (a.sep Ob.nil) wr := h.upd (OUpd.refl h.ok).with_nil
theorem St.more {c : Ob} (h : St w O wr) (hb : Below wr.heap.size wr w') (hc : c.ok w') (ho : ∀ i, c.own i → wr.heap.size ≤ i) (hs : ∀ i, c.see i → wr.heap.size ≤ i) : St w (O.sep c) w' := h.upd (OUpd.more h.ok hb hc ho hs)
theorem St.list {A : Option Addr} {c : Nat} {xs : List (List UInt8)} (h : St w O wr) (hb : Below wr.heap.size wr w') (ho : OwnL w' wr.heap.size 9 1 strE A c xs) : St w (O.sep (slOb A c xs)) w' :=
  h.more hb (show OwnL w' 0 9 1 strE A c xs from ho.mono (Nat.zero_le _)) (fun i hi => (ho.blk_lt hi).1) (fun _ h => h.elim)
theorem slOb.rd {A : Option Addr} {c : Nat} {xs : List (List UInt8)} (h : (slOb A c xs).ok w) : RdL 1 strE w w.heap.size A xs := (show OwnL w 0 9 1 strE A c xs from h).rd strLayJ
theorem St.vs (h : St w O wr) (hV : Vs w.heap.size w) : Vs w.heap.size wr := hV.on h.bl
end
theorem disky_any (e : Int) (w : World) : Calls Tryd.prog 32 #[.int .i64 e] w fun x w' => x = .returned (.bool (decide (e = 8) || decide (e = 9))) ∧ w = w' := by
  go_enter Tryd.func32, Tryd.ntmps32
  by_cases h8 : e = 8
  · subst h8
    go_wp2_with fail
    go_ret
    exact ⟨rfl, rfl⟩
  · have d8 : (e == 8) = false := by simpa using h8
    by_cases h9 : e = 9
    · subst h9
      go_wp2_with fail
      go_ret
      exact ⟨rfl, rfl⟩
    · have d9 : (e == 9) = false := by simpa using h9
      have HE : Hid ((decide (e = 8) || decide (e = 9)) = false) := Lib.hid (by simp [h8, h9])
      clear h8 h9
      go_wp2_with fail
      go_ret
      exact ⟨by rw [HE.out]; rfl, rfl⟩
def beginsB (l a : List (List UInt8)) : Bool := decide (a.length ≤ l.length) && (l.take a.length == a)
theorem begins_iff (l a : List (List UInt8)) : beginsB l a = true ↔ ∃ m, m ≤ l.length ∧ a = l.take m := by
  unfold beginsB
  rw [Bool.and_eq_true, decide_eq_true_eq, beq_iff_eq]
  constructor
  · rintro ⟨h1, h2⟩
    exact ⟨a.length, h1, h2.symm⟩
  · rintro ⟨m, hm, rfl⟩
    have e : (l.take m).length = m := by rw [List.length_take]; omega
    rw [e]
    exact ⟨hm, rfl⟩
theorem begins_any (xs ys : List (List UInt8)) (A B : Option Addr) (c d : Nat) (w : World) (hr : RdL 1 strE w w.heap.size A xs) (hs : RdL 1 strE w w.heap.size B ys) (hx : xs.length ≤ 9223372036854775807) (hc : xs.length ≤ c) (hc2 : c ≤ 9223372036854775807) (hy : ys.length ≤ 9223372036854775807) :
    Calls Tryd.prog 33 #[.slice A xs.length c, .slice B ys.length d] w fun e w' => e = .returned (.bool (beginsB xs ys)) ∧ Below w.heap.size w w' := by
  have HR := Lib.hid hr
  have HS := Lib.hid hs
  clear hr hs
  go_enter Tryd.func33, Tryd.ntmps33
  by_cases hl : ys.length ≤ xs.length
  · have d1 : decide (ys.length ≤ xs.length) = true := by simpa using hl
    have HT : Hid (RdL 1 strE w w.heap.size A (xs.take ys.length)) := Lib.hid (fun k x hk => by
      rw [List.getElem?_take] at hk
      split at hk
      · exact HR.out k x hk
      · cases hk)
    have hmin : min (ys.length : Int) (xs.length : Int) = ys.length := by omega
    have hmin2 : min ys.length xs.length = ys.length := by omega
    have hlen : (xs.take ys.length).length = ys.length := by rw [List.length_take]; omega
    have HL := Lib.hid hlen
    have HE : Hid (beginsB xs ys = (xs.take ys.length == ys)) := Lib.hid (by unfold beginsB; rw [d1, Bool.true_and])
    have HC := sameS_any (xs.take ys.length) ys A B c d w HT.out HS.out (by omega) hy
    rw [HL.out] at HC
    have HC := Lib.hid HC
    go_wp2_with fail
    refine HC.out.mono ?_
    rintro e w1 ⟨rfl, hb⟩
    have HB := Lib.hid hb
    clear hb
    generalize (xs.take ys.length == ys) = b at *
    go_wp2_with fail
    go_ret
    exact ⟨by rw [HE.out]; rfl, HB.out⟩
  · have d1 : decide (ys.length ≤ xs.length) = false := by simpa using hl
    have HE : Hid (beginsB xs ys = false) := Lib.hid (by unfold beginsB; rw [d1]; rfl)
    go_wp2_with fail
    go_ret
    exact ⟨by rw [HE.out]; rfl, Below.refl _ _⟩
section
variable {w wr : World} {p q : Nat} {S : DS} {D : DL} {R : Ob} {f : Int} {J : JS} {M : JL}
theorem St.disk (h : St w ((dOb p S D).sep R) wr) : DK wr p S D := h.ok.1.1
theorem St.disk_own (h : St w ((dOb p S D).sep R) wr) : ∀ i, D.own p i → w.heap.size ≤ i := fun i hi => h.own i (.inl hi)
theorem St.dupd {S2 : DS} {w' : World} (h : St w ((dOb p S D).sep R) wr) (u : Upd p S2 D wr w') : ∃ D2, St w ((dOb p S2 D2).sep R) w' := by
  obtain ⟨D2, v⟩ := u.ob (S := S)
  exact ⟨D2, h.upd (OUpd.left h.ok v)⟩
/-- Opening a journal beside other objects. -/
theorem open_any2 (hV : Vs w.heap.size w) (h : St w ((dOb p S D).sep R) wr) (hf : inI64 f) (hk : S.keep.length ≤ 4194320) :
    Calls Tryd.prog 10 #[.pointer (some ⟨p, 0, none⟩), .int .i64 f] wr fun e w' => ∃ D' X v, e = .returned (.tuple #[v, .int .i64 (openC S f)]) ∧ St w (((dOb p (openS S f) D').sep X).sep R) w' ∧ IsJ p v X (openO S f) := by
  refine (jOpen_any p S D f wr (h.vs hV) h.disk_own hf hk h.disk).mono ?_
  rintro e w' ⟨D', X, v, rfl, hu, hj⟩
  exact ⟨D', X, v, rfl, h.upd (OUpd.left h.ok hu), hj⟩
theorem open_some (h : openC S f = 0) : openO S f = some (openJ S f) := by unfold openO; rw [if_pos h]
theorem open_none (h : openC S f ≠ 0) : openO S f = none := by unfold openO; rw [if_neg h]
theorem St.jour (h : St w ((jBoth p q S D J M).sep R) wr) : JK wr q p J M := h.ok.1.1.1.2
theorem app_any2 (hV : Vs w.heap.size w) (h : St w ((jBoth p q S D J M).sep R) wr) (s : List UInt8) (hs : s.length ≤ 1000000000) (ha : J.at_ ≤ 1000000000000) (hf : inI64 J.file) (hk : S.keep.length ≤ 4194320) :
    Calls Tryd.prog 11 #[.pointer (some ⟨q, 0, none⟩), .string (bs s)] wr fun e w' => ∃ D' M', e = .returned (.int .i64 (appC S J s)) ∧ St w ((jBoth p q (appS S J s) D' (appJ S J s) M').sep R) w' := by
  refine (jAppend_any p q S D J M s wr (h.vs hV) hs ha hf hk h.ok.1.1).mono ?_
  rintro e w' ⟨rfl, D', M', hu⟩
  exact ⟨D', M', rfl, h.upd (OUpd.left h.ok hu)⟩
theorem sync_any2 (h : St w ((jBoth p q S D J M).sep R) wr) (hf : inI64 J.file) (hk : S.keep.length ≤ 4194320) :
    Calls Tryd.prog 27 #[.pointer (some ⟨q, 0, none⟩)] wr fun e w' => ∃ D' M', e = .returned (.int .i64 (synC S J)) ∧ St w ((jBoth p q (synS S J) D' (synJ S J) M').sep R) w' := by
  refine (jSync_any p q S D J M wr hf hk h.ok.1.1).mono ?_
  rintro e w' ⟨rfl, D', M', hu⟩
  exact ⟨D', M', rfl, h.upd (OUpd.left h.ok hu)⟩
end
end Go.Proofs.YtoicnokidlkjfaaDoor
/- Contract of lingualaw03.small: the examples of the documentation. -/
namespace Go.Proofs.YtoicnokidlkjfaaDoor
open Go.RowKit
set_option maxRecDepth 100000

theorem sm_forms2 : formsF [[97, 98], []] = [50, 58, 97, 98, 44, 50, 57, 51, 59, 48, 58, 44, 48, 59] := by
  simp [formsF, formF, encT, encI, sumF, sumL, Lib.itoa, Lib.decDigits]
theorem sm_forms1 : formsF [[97, 98]] = [50, 58, 97, 98, 44, 50, 57, 51, 59] := by
  simp [formsF, formF, encT, encI, sumF, sumL, Lib.itoa, Lib.decDigits]
theorem sm_recs : recs [50, 58, 97, 98, 44, 50, 57, 51, 59, 49, 58, 97, 44, 57, 56, 59] = [[97, 98]] := by
  have h := recs_app [49, 58, 97, 44, 57, 56, 59] [[97, 98]] (by simp)
  rw [sm_forms1] at h
  refine Eq.trans h ?_
  have e : encT [97] = [49, 58, 97, 44] := by simp [encT, Lib.itoa, Lib.decDigits]
  have e2 : encI 98 = [57, 56, 59] := by simp [encI, Lib.itoa, Lib.decDigits]
  have h1 := rText_back [97] (encI 98) ⟨by decide, by decide⟩
  have h2 := rInt_back (n := 98) ⟨by decide, by decide⟩ (by decide : (0 : Int) ≤ 98) []
  rw [List.append_nil] at h2
  have hn : nextJ [49, 58, 97, 44, 57, 56, 59] = none := by
    have e3 : ([49, 58, 97, 44, 57, 56, 59] : List UInt8) = encT [97] ++ encI 98 := by rw [e, e2]; rfl
    unfold nextJ
    rw [e3, h1]
    simp only [h2]
    rw [if_neg]
    rintro ⟨_, h, _⟩
    revert h
    decide
  rw [recs_none hn]
  rfl
theorem sm_sums : sumF [] = 0 ∧ sumF [97] = 97 ∧ sumF [97, 98] = 293 := by decide
theorem now_new (f : Int) : DS.new.now f = [] := rfl
set_option maxHeartbeats 4000000 in
theorem small_any (w : World) (hV : Vs w.heap.size w) : Calls Tryd.prog 7 #[] w fun e w' => e = .returned (.bool true) ∧ Below w.heap.size w w' := by
  have HV := Lib.hid hV
  have HS := Lib.hid sm_sums
  clear hV
  go_enter Tryd.func7, Tryd.ntmps7
  go_wp2_with fail
  refine (dNew_any w).mono ?_
  rintro e w1 ⟨rfl, hb1, D0, hd0, ho0, -⟩
  have H0 : Hid (St w (dOb (w.heap.size + 2) DS.new D0) w1) := Lib.hid ⟨hd0, hb1, ho0⟩
  generalize w.heap.size + 2 = p at *
  clear hb1 hd0 ho0
  obtain ⟨hc1, hj1, hU1, hn1, ho1⟩ := up_open Up.new (f := 3) ⟨by decide, by decide⟩
  have hk1 : (openS DS.new 3).keep.length = 0 := by rw [openS_keep]; rfl
  rw [now_new, recs_none nextJ_nil] at hj1 hn1
  have HO := open_some hc1
  have H0' : Hid (St w ((dOb p DS.new D0).sep Ob.nil) w1) := Lib.hid H0.out.nil
  clear H0
  go_wp2_with fail
  refine (open_any2 HV.out H0'.out (f := 3) (by unfold inI64; omega) (by decide)).mono ?_
  rintro e w2 ⟨D1, X, v, rfl, hst, hj⟩
  rw [HO, hj1] at hj
  rw [hc1]
  obtain ⟨q, M1, rfl, rfl⟩ := hj
  have H1 : Hid (St w ((jBoth p q (openS DS.new 3) D1 ⟨3, [], false⟩ M1).sep Ob.nil) w2) := Lib.hid hst
  have ho14 := ho1 4 (by decide)
  rw [now_new] at ho14
  clear hst HO H0' hj1 hc1 ho1
  generalize openS DS.new 3 = S1 at *
  obtain ⟨hc2, hj2, hU2, hn2, ho2⟩ := up_append hU1 (J := ⟨3, [], false⟩) rfl ⟨by decide, by decide⟩ hn1 [97, 98] (by decide) (by have := formF_len [97, 98] (by decide); simp only [List.length_cons, List.length_nil] at this; show (0 : Nat) + _ ≤ _; omega)
  have hk2 : (appS S1 ⟨3, [], false⟩ [97, 98]).keep.length = 0 := by rw [appS_keep]; exact hk1
  have ho24 := (ho2 4 (by decide)).trans ho14
  go_wp2_with fail
  refine (app_any2 HV.out H1.out [97, 98] (by decide) (by decide) (by unfold inI64; simp) (by omega)).mono ?_
  rintro e w3 ⟨D2, M2, rfl, hst⟩
  rw [hj2] at hst
  rw [hc2]
  have H2 := Lib.hid hst
  clear hst H1 hj2 hc2 ho2 ho14 hn1 hU1 hk1
  generalize appS S1 ⟨3, [], false⟩ [97, 98] = S2 at *
  obtain ⟨hc3, hj3, hU3, hn3, ho3⟩ := up_append hU2 (J := ⟨3, [[97, 98]], false⟩) rfl ⟨by decide, by decide⟩ hn2 [] (by decide) (by have := formF_len [] (by decide); simp only [List.length_nil] at this; show (formsF [[97, 98]]).length + _ ≤ _; rw [sm_forms1]; simp only [List.length_cons, List.length_nil]; omega)
  have hk3 : (appS S2 ⟨3, [[97, 98]], false⟩ []).keep.length = 0 := by rw [appS_keep]; exact hk2
  have ho34 := (ho3 4 (by decide)).trans ho24
  simp only [List.nil_append] at H2
  go_wp2_with fail
  refine (app_any2 HV.out H2.out [] (by decide) (by unfold JS.at_; simp only; rw [sm_forms1]; decide) (by unfold inI64; simp) (by omega)).mono ?_
  rintro e w4 ⟨D3, M3, rfl, hst⟩
  rw [hj3] at hst
  rw [hc3]
  have H3 := Lib.hid hst
  clear hst H2 hj3 hc3 ho3 ho24 hn2 hU2 hk2
  generalize appS S2 ⟨3, [[97, 98]], false⟩ [] = S3 at *
  simp only [List.cons_append, List.nil_append] at hn3 H3
  rw [sm_forms2] at hn3
  obtain ⟨hr1, hr2⟩ := up_read hU3 (f := 3) ⟨by decide, by decide⟩ 99 (by rw [hn3]; decide)
  rw [hn3] at hr2
  go_wp2_with fail
  refine (dRead_any p S3 D3 w4 3 0 99 (by unfold inI64; omega) H3.out.ok.1.1.1.1).mono ?_
  rintro e wx ⟨rfl, hw⟩
  obtain rfl := hw
  rw [hr1, hr2]
  clear hr1 hr2 hn3
  have hp := up_put hU3 (f := 4) ⟨by decide, by decide⟩ [50, 58, 97, 98, 44, 50, 57, 51, 59, 49, 58, 97, 44, 57, 56, 59] (by rw [ho34]; decide)
  rw [ho34] at hp
  obtain ⟨hc4, hU4, hn4, -⟩ := hp
  have e0 : ((([] : List UInt8).length : Nat) : Int) = 0 := rfl
  rw [e0, List.nil_append] at hn4
  rw [e0] at hc4 hU4
  have hk4 : (S3.write 4 0 (bs [50, 58, 97, 98, 44, 50, 57, 51, 59, 49, 58, 97, 44, 57, 56, 59])).keep.length = 0 := by rw [write_keep]; exact hk3
  go_wp2_with fail
  refine (dWrite_any p S3 D3 _ 4 0 (bs [50, 58, 97, 98, 44, 50, 57, 51, 59, 49, 58, 97, 44, 57, 56, 59]) (by unfold inI64; omega) (by unfold inI64; omega) (by decide) (by omega) H3.out.ok.1.1.1.1).mono ?_
  rintro e w5 ⟨rfl, hu⟩
  obtain ⟨D4, hst⟩ := (St.assoc H3.out).dupd hu
  have H4 := Lib.hid hst
  clear hu hst H3 hU3 hk3 ho34
  generalize S3.write 4 0 (bs [50, 58, 97, 98, 44, 50, 57, 51, 59, 49, 58, 97, 44, 57, 56, 59]) = S4 at *
  obtain ⟨hc5, hj5, hU5, hn5, -⟩ := up_open hU4 (f := 4) ⟨by decide, by decide⟩
  rw [hn4, sm_recs] at hj5 hn5
  rw [sm_forms1] at hn5
  have HO := open_some hc5
  have hsz5 : ((openS S4 4).files 4).1.size = 9 := by rw [← now_len, hn5]; rfl
  go_wp2_with fail
  refine (open_any2 HV.out H4.out (f := 4) (by unfold inI64; omega) (by omega)).mono ?_
  rintro e w6 ⟨D5, X, v, rfl, hst, hj⟩
  rw [HO, hj5] at hj
  rw [hc5]
  obtain ⟨q2, M5, rfl, rfl⟩ := hj
  have H5 := Lib.hid hst
  clear hst HO H4 hj5 hc5 hn5 hU5 hn4 hU4 hk4
  generalize openS S4 4 = S5 at *
  have H6 := Lib.hid (show JK w6 q p ⟨3, [[97, 98], []], false⟩ M3 from H5.out.ok.1.2.1.1)
  have H7 := Lib.hid (show JK w6 q2 p ⟨4, [[97, 98]], false⟩ M5 from H5.out.ok.1.1.1.2)
  have H8 := Lib.hid (show DK w6 p S5 D5 from H5.out.ok.1.1.1.1)
  have HB := Lib.hid H5.out.bl
  clear H5
  have d1 : ((bs [97, 98]).toList == [97, 98]) = true := by rw [bs_toList]; rfl
  have d0 : ((bs [50, 58, 97, 98, 44, 50, 57, 51, 59, 48, 58, 44, 48, 59]).toList == [50, 58, 97, 98, 44, 50, 57, 51, 59, 48, 58, 44, 48, 59]) = true := by rw [bs_toList]; rfl
  go_wp2_with fail
  refine (jSum_any [] _ (by decide)).mono ?_
  rintro e wx ⟨rfl, hw⟩
  obtain rfl := hw
  rw [HS.out.1]
  go_wp2_with fail
  refine (jSum_any [97] _ (by decide)).mono ?_
  rintro e wx ⟨rfl, hw⟩
  obtain rfl := hw
  rw [HS.out.2.1]
  go_wp2_with fail
  refine (jSum_any [97, 98] _ (by decide)).mono ?_
  rintro e wx ⟨rfl, hw⟩
  obtain rfl := hw
  rw [HS.out.2.2]
  go_wp2_with fail
  refine (jLen_any H6.out).mono ?_
  rintro e wx ⟨rfl, hw⟩
  obtain rfl := hw
  go_wp2_with fail
  refine (jGet_any H6.out 0).mono ?_
  rintro e w7 ⟨rfl, hb7⟩
  have hg : (JS.mk 3 [[97, 98], []] false).get 0 = [97, 98] := rfl
  rw [hg]
  have HB7 := Lib.hid hb7
  clear hb7 hg
  have H7' := Lib.hid (show JK w7 q2 p ⟨4, [[97, 98]], false⟩ M5 from (jOb q2 p _ M5).below H7.out HB7.out)
  have H8' := Lib.hid (H8.out.below HB7.out)
  have HAll := Lib.hid (show Calls Tryd.prog 16 #[.pointer (some ⟨q2, 0, none⟩)] w7 fun e w' => ∃ A, e = .returned (.slice A 1 1) ∧ OwnL w' w7.heap.size 9 1 strE A 1 [[97, 98]] ∧ Below w7.heap.size w7 w' from jAll_any H7'.out (by decide))
  go_wp2_with fail
  refine HAll.out.mono ?_
  rintro e w8 ⟨A, rfl, ho8, hb8⟩
  have HB8 := Lib.hid hb8
  have HO8 := Lib.hid ho8
  clear hb8 ho8
  go_wp2_with fail
  have HBa := Lib.hid ((Below.refl w8.heap.size w8).alloc (Nat.le_refl _) (.cells #[.string ⟨#[97, 98]⟩] 9))
  have HSm := Lib.hid (sameS_any [[97, 98]] [[97, 98]] A (some ⟨w8.heap.size, 0, none⟩) 1 1 (w8.alloc (.cells #[.string ⟨#[97, 98]⟩] 9)) (((HO8.out.mono (Nat.zero_le _)).rd strLayJ).now HBa.out) ((RdL.one w8 [97, 98] _ _ rfl _ rfl).more (by simp)) (by decide) (by decide))
  refine HSm.out.mono ?_
  rintro e w9 ⟨rfl, hb9⟩
  have HB9 := Lib.hid ((HB7.out.trans (HB8.out.mono HB7.out.size)).trans ((HBa.out.trans (hb9.mono HBa.out.size)).mono (Nat.le_trans HB7.out.size HB8.out.size)))
  have H9 := Lib.hid (H8.out.below HB9.out)
  clear hb9
  have hbt : ([[97, 98]] == ([[97, 98]] : List (List UInt8))) = true := by decide
  rw [hbt]
  go_wp2_with fail
  refine (dSize_any p S5 D5 w9 4 (by unfold inI64; omega) H9.out).mono ?_
  rintro e wx ⟨rfl, hw⟩
  obtain rfl := hw
  rw [hsz5]
  go_wp2_with fail
  go_ret
  exact ⟨rfl, HB.out.trans (HB9.out.mono HB.out.size)⟩
end Go.Proofs.YtoicnokidlkjfaaDoor
/- The walk of JournalReads. -/
namespace Go.Proofs.YtoicnokidlkjfaaDoor
open Go.RowKit
set_option maxRecDepth 100000

/-- The law's tests, one behind the other. -/
theorem next_law {rest t : List UInt8} {r2 : RS} {n : Int} (hl : rest.length ≤ 20000) (h : rText ⟨rest, false⟩ = (t, r2)) (hn : (rNum 59 0 r2).1 = n) :
    (n ≠ sumF t → nextJ rest = none) ∧ (n = sumF t → encT t ++ encN n = formF t ∧ (rest.length < (formF t).length → nextJ rest = none) ∧ (rest.take (formF t).length ≠ formF t → nextJ rest = none) ∧
      (¬ rest.length < (formF t).length → rest.take (formF t).length = formF t → nextJ rest = some t ∧ (rNum 59 0 r2).2 = ⟨rest.drop (formF t).length, false⟩)) := by
  have hts := text_small ⟨rest, false⟩
  rw [h] at hts
  have ht : t.length ≤ rest.length := hts
  have hx := nextJ_tests rest
  rw [h] at hx
  simp only at hx
  rw [hn, if_neg (by omega)] at hx
  refine ⟨fun hne => by rw [hx, if_pos hne], fun he => ⟨by rw [he, formF_num]; rfl, fun h1 => ?_, fun h1 => ?_, fun h1 h2 => ?_⟩⟩
  · rw [hx, if_neg (by simpa using he), if_pos h1]
  · rw [hx, if_neg (by simpa using he)]
    by_cases h0 : rest.length < (formF t).length
    · rw [if_pos h0]
    · rw [if_neg h0, if_pos h1]
  · have hs : nextJ rest = some t := by rw [hx, if_neg (by simpa using he), if_neg h1, if_neg (by simpa using h2)]
    refine ⟨hs, ?_⟩
    obtain ⟨_, tl, e⟩ := (nextJ_iff _ _).1 hs
    obtain ⟨k1, k2⟩ := form_read t tl (by omega)
    rw [e, h] at k1
    have k3 : r2 = ⟨encI (sumF t) ++ tl, false⟩ := (Prod.mk.inj k1).2
    rw [k3, k2, ← e, List.drop_left]
set_option maxHeartbeats 4000000 in
theorem reads_any (s : List UInt8) (w : World) (hV : Vs w.heap.size w) :
    Calls Tryd.prog 4 #[.string (bs s)] w fun e w' => e = .returned (.bool true) ∧ Below w.heap.size w w' := by
  have HV := Lib.hid hV
  have hsz : (bs s).size = s.length := bs_size s
  clear hV
  go_enter Tryd.func4, Tryd.ntmps4
  go_wp2_with fail
  refine (small_any w HV.out).mono ?_
  rintro e w1 ⟨rfl, hb1⟩
  have HB1 := Lib.hid hb1
  clear hb1
  by_cases h300 : 300 < s.length
  · have d1 : decide ((300 : Int) < s.length) = true := by simp; omega
    clear h300
    go_wp2_with fail
    go_ret
    exact ⟨rfl, HB1.out⟩
  have d1 : decide ((300 : Int) < s.length) = false := by simp; omega
  go_wp2_with fail
  refine (dNew_any w1).mono ?_
  rintro e w2 ⟨rfl, hb2, D0, hd0, ho0, -⟩
  have hz1 := HB1.out.size
  have H0 : Hid (St w ((dOb (w1.heap.size + 2) DS.new D0).sep Ob.nil) w2) := Lib.hid (St.nil ⟨hd0, HB1.out.trans (hb2.mono hz1), fun i hi => Nat.le_trans hz1 (ho0 i hi)⟩)
  generalize w1.heap.size + 2 = p at *
  clear hb2 hd0 ho0 HB1 hz1
  have hp := up_put Up.new (f := 7) ⟨by decide, by decide⟩ s (by rw [now_new]; simp; omega)
  rw [now_new] at hp
  have e0 : ((([] : List UInt8).length : Nat) : Int) = 0 := rfl
  rw [e0, List.nil_append] at hp
  obtain ⟨hc1, hU1, hn1, -⟩ := hp
  have hk1 : (DS.new.write 7 0 (bs s)).keep.length = 0 := by rw [write_keep]; rfl
  go_wp2_with fail
  refine (dWrite_any p DS.new D0 w2 7 0 (bs s) (by unfold inI64; omega) (by unfold inI64; omega) (by omega) (by decide) H0.out.disk).mono ?_
  rintro e w3 ⟨rfl, hu⟩
  obtain ⟨D1, hst⟩ := H0.out.dupd hu
  have H1 := Lib.hid hst
  clear hu hst H0 hc1
  generalize DS.new.write 7 0 (bs s) = S1 at *
  obtain ⟨hc2, hj2, hU2, hn2, -⟩ := up_open hU1 (f := 7) ⟨by decide, by decide⟩
  rw [hn1] at hj2 hn2
  have hk2 : (openS S1 7).keep.length = 0 := by rw [openS_keep]; exact hk1
  have HO := open_some hc2
  go_wp2_with fail
  refine (open_any2 HV.out H1.out (f := 7) (by unfold inI64; omega) (by omega)).mono ?_
  rintro e w4 ⟨D2, X, v, rfl, hst, hj⟩
  rw [HO, hj2] at hj
  rw [hc2]
  obtain ⟨q, M2, rfl, rfl⟩ := hj
  have H2 := Lib.hid hst
  have HJ := Lib.hid (show JK w4 q p ⟨7, recs s, false⟩ M2 from hst.ok.1.1.1.2)
  clear hst HO H1 hj2 hc2 hU1 hn1 hk1
  generalize openS S1 7 = S2 at *
  have hlen : (formsF (recs s)).length ≤ s.length := (recs_prefix s).length_le
  have hrl : (recs s).length ≤ (formsF (recs s)).length := enc_len formF formF_pos (recs s)
  go_wp2_with fail
  refine (jAll_any HJ.out (by show (recs s).length ≤ _; omega)).mono ?_
  rintro e w5 ⟨AG, rfl, ho5, hb5⟩
  have H5 := Lib.hid (H2.out.list hb5 ho5)
  clear ho5 hb5 H2 HJ
  go_wp2_with fail
  refine (open_any s w5).mono ?_
  rintro e w6 ⟨rfl, hr6, hb6⟩
  obtain ⟨b, hbe⟩ : ∃ b, b = w5.heap.size := ⟨_, rfl⟩
  rw [← hbe] at hr6 ⊢
  have HBe := Lib.hid hbe
  have HR6 := Lib.hid hr6
  have HB6 := Lib.hid hb6
  clear hbe hr6 hb6
  have HVb : Hid (Vs w.heap.size w5) := Lib.hid (H5.out.vs HV.out)
  go_upto_block 0 with fail
  go_cut [9, 10] (fun o n wx => ∃ (A : Option Addr) (c : Nat), o = .slice A (recs s).length c ∧ n = .int .i64 (formsF (recs s)).length ∧ OwnL wx w5.heap.size 9 1 strE A c (recs s) ∧ Below w5.heap.size w5 wx)
  case first =>
    go_wp2_with fail
    go_loopw [9, 10] (fun o n wr => ∃ (out : List (List UInt8)) (A : Option Addr) (c : Nat), o = .slice A out.length c ∧ n = .int .i64 (formsF out).length ∧ RdW s w5 wr out A c ∧ RdAt b ⟨s.drop (formsF out).length, false⟩ wr ∧ (∀ i, slBlk A = some i → i ≠ b)) (fun _ n _ => s.length - (intOf n).toNat)
    case atStart => exact ⟨[], none, 0, rfl, rfl, ⟨by simp [formsF], by simp [formsF], HB6.out, OwnL.nil_⟩, by simpa [formsF] using HR6.out, fun _ h => nomatch h⟩
    case round =>
      obtain ⟨out, A, c, rfl, rfl, hrw, hrd, hne⟩ := hrel
      have HW := Lib.hid hrw
      have HNe := Lib.hid hne
      obtain ⟨hb, hol⟩ := hrw.len
      have HN := Lib.hid (fun t h => hrw.next (t := t) h)
      have HRc := Lib.hid hrw.rc
      have HSn := Lib.hid (formsF_snoc out)
      obtain ⟨rest, hrest⟩ : ∃ r, r = s.drop (formsF out).length := ⟨_, rfl⟩
      have hrl2 : rest.length + (formsF out).length = s.length := by rw [hrest, List.length_drop]; omega
      have hxt : ∀ m, (bs s).extract (formsF out).length ((formsF out).length + m) = bs (rest.take m) := fun m => by
        rw [bs_extract, hrest, List.drop_take]
        congr 2
        omega
      rw [← hrest] at HRc HN hrd
      have HRd := Lib.hid hrd
      have HXt := Lib.hid hxt
      have HRest := Lib.hid hrest
      clear hrw hxt hrest hrd hne
      generalize hbn : (formsF out).length = bn at *
      have HBn := Lib.hid hbn
      clear hbn
      have HStop : Hid (nextJ rest = none → out = recs s) := Lib.hid (fun h => by
        have := HRc.out
        rwa [recs_none h, List.append_nil] at this)
      go_wp2_with fail
      refine (left_any b ⟨rest, false⟩ wr HRd.out).mono ?_
      rintro e wx ⟨rfl, hw⟩
      obtain rfl := hw
      simp only
      generalize hrn : rest.length = rl at *
      have HRn := Lib.hid hrn
      clear hrn
      by_cases hz : rl = 0
      · have d2 : decide (0 < rl) = false := by simp; omega
        have HE := Lib.hid (HStop.out (by rw [List.eq_nil_of_length_eq_zero (HRn.out.trans hz)]; exact nextJ_nil))
        clear hz
        go_wp2_with fail
        go_meet
        case rel => exact ⟨A, c, by rw [← HE.out], by rw [← HE.out, HBn.out], by rw [← HE.out]; exact HW.out.own, HW.out.b⟩
      have d2 : decide (0 < rl) = true := by simp; omega
      have hzb := Lib.hid HW.out.b.size
      have HZb : Hid (w.heap.size ≤ b) := Lib.hid (by rw [HBe.out]; exact H5.out.bl.size)
      have HVr := Lib.hid (HVb.out.now HW.out.b)
      go_wp2_with fail
      refine (rdText_any b ⟨rest, false⟩ wr HVr.out HZb.out HRd.out (by have := HRn.out; simp only; omega)).mono ?_
      rintro e w7 ⟨rfl, hr7, ht7⟩
      have HW7 := Lib.hid (HW.out.turn ht7 (by rw [HBe.out]; exact Nat.le_refl _) HNe.out)
      have HR7 := Lib.hid hr7
      have HTs := Lib.hid (text_small ⟨rest, false⟩)
      have HTr := Lib.hid (rText_rest ⟨rest, false⟩)
      clear hr7 ht7 HVr
      generalize htr : rText ⟨rest, false⟩ = tr at *
      obtain ⟨t, r2⟩ := tr
      have htl : t.length ≤ rl := by have := HRn.out; have : t.length ≤ rest.length := HTs.out; omega
      have hr2l : r2.rest.length ≤ rl := by have := HRn.out; have : r2.rest.length ≤ rest.length := HTr.out; omega
      have HTq := Lib.hid htr
      clear htr HTs HTr
      have HV7 := Lib.hid (HVb.out.now HW7.out.b)
      simp only at HR7 ⊢
      go_wp2_with fail
      refine (rdNum_any b r2 w7 HV7.out HZb.out HR7.out (by omega)).mono ?_
      rintro e w8 ⟨rfl, hr8, ht8⟩
      have HW8 := Lib.hid (HW7.out.turn ht8 (by rw [HBe.out]; exact Nat.le_refl _) HNe.out)
      have HR8 := Lib.hid hr8
      have HNi := Lib.hid (rNum_in 59 0 r2)
      have HLaw := Lib.hid (next_law (n := (rNum 59 0 r2).1) (by have := HRn.out; omega) HTq.out rfl)
      clear hr8 ht8 HV7
      generalize hnn : rNum 59 0 r2 = nr at *
      obtain ⟨n, r3⟩ := nr
      clear hnn
      simp only at HR8 HNi HLaw ⊢
      have HV8 := Lib.hid (HVb.out.now HW8.out.b)
      go_wp2_with fail
      refine (wText_any t w8 HV8.out (by omega)).mono ?_
      rintro e w9 ⟨rfl, hb9⟩
      have HW9 := Lib.hid (HW8.out.on hb9)
      have HR9 := Lib.hid (HR8.out.now hb9)
      clear hb9 HV8
      have HV9 := Lib.hid (HVb.out.now HW9.out.b)
      go_wp2_with fail
      refine (wNum_any n w9 HV9.out HNi.out).mono ?_
      rintro e w10 ⟨rfl, hb10⟩
      have HW10 := Lib.hid (HW9.out.on hb10)
      have HR10 := Lib.hid (HR9.out.now hb10)
      have hel := encT_len t ⟨by omega, by omega⟩
      have hen : (encN n).length ≤ 22 := by
        unfold encN
        split
        · simp
        · exact encI_len n HNi.out
      clear hb10 HV9 HW7 HR7 HW8 HR8 HW9 HR9
      generalize hx : encT t = x at *
      generalize hy : encN n = y at *
      clear hx hy
      go_wp2_with (first
        | ((with_reducible show wpList _ _ _ (Oper.mk _ (Op.binOp .add 9 _ _ _) _ _ _ _ :: _) _ _); refine wp_cat rfl rfl Tryd.underlying9 rfl rfl (by first | omega | (simp; done) | (simp; omega)) ?_)
        | fail)
      refine (jSum_any t w10 (by omega)).mono ?_
      rintro e wx ⟨rfl, hw⟩
      obtain rfl := hw
      have HBreak : Hid (nextJ rest = none → ∃ (A1 : Option Addr) (c' : Nat), Value.slice A out.length c = .slice A1 (recs s).length c' ∧ Value.int .i64 bn = .int .i64 (formsF (recs s)).length ∧ OwnL w10 w5.heap.size 9 1 strE A1 c' (recs s) ∧ Below w5.heap.size w5 w10) := Lib.hid (fun h => by
        have HE := HStop.out h
        exact ⟨A, c, by rw [← HE], by rw [← HE, HBn.out], by rw [← HE]; exact HW10.out.own, HW10.out.b⟩)
      have HJ1 := Lib.hid HLaw.out.1
      have HJ2 := Lib.hid HLaw.out.2
      clear HLaw
      by_cases g2 : n = sumF t
      rotate_left
      · have d3 : (n != sumF t) = true := by simpa using g2
        have HE := Lib.hid (HBreak.out (HJ1.out g2))
        clear g2
        go_wp2_with fail
        go_meet
        case rel => exact HE.out
      have d3 : (n != sumF t) = false := by simpa using g2
      have HJ := Lib.hid (HJ2.out g2)
      clear g2 HJ1 HJ2
      have hft := formF_len t (by omega)
      have HFp := Lib.hid (formF_pos t)
      have hxy : x ++ y = formF t := HJ.out.1
      rw [hxy]
      have hfs : (bs (formF t)).size = (formF t).length := bs_size _
      generalize hftn : formF t = ft at *
      have HFt := Lib.hid hftn
      clear hftn hxy
      have HRn' := HRn.out
      by_cases g3 : rl < ft.length
      · have d4 : decide (s.length < bn + ft.length) = true := by simp; omega
        have d4' : decide ((s.length : Int) < (bn : Int) + ft.length) = true := by simp; omega
        have HE := Lib.hid (HBreak.out (HJ.out.2.1 (by omega)))
        clear g3
        go_wp2_with fail
        go_meet
        case rel => exact HE.out
      have d4 : decide (s.length < bn + ft.length) = false := by simp; omega
      have d4' : decide ((s.length : Int) < (bn : Int) + ft.length) = false := by simp; omega
      have hx2 := HXt.out ft.length
      have hsb : bn + ft.length ≤ s.length := by omega
      have hsb2 : (bn : Int) + ft.length ≤ s.length := by omega
      by_cases g4 : rest.take ft.length = ft
      rotate_left
      · have d5 : ((bs (rest.take ft.length)).toList == (bs ft).toList) = false := by rw [bs_beq]; simpa using g4
        have d5' : ((bs (rest.take ft.length)).toList != (bs ft).toList) = true := by rw [bne, d5]; rfl
        have HE := Lib.hid (HBreak.out (HJ.out.2.2.1 g4))
        clear g4
        go_wp2_with fail
        go_meet
        case rel => exact HE.out
      have d5 : ((bs (rest.take ft.length)).toList == (bs ft).toList) = true := by rw [bs_beq]; simpa using g4
      have d5' : ((bs (rest.take ft.length)).toList != (bs ft).toList) = false := by rw [bne, d5]; rfl
      have HK := Lib.hid (HJ.out.2.2.2 (by omega) g4)
      have HNx := Lib.hid (HN.out t HK.out.1)
      have HLn : Hid ((formsF (out ++ [t])).length = bn + ft.length) := Lib.hid (by rw [HSn.out, List.length_append, HFt.out, HBn.out])
      have HFp2 := HFp.out
      clear g4 g3
      go_wp2_with (first
        | (at_builtin; refine wp_append_l rfl (.tmp 84) (.tmp 86) rfl slStrJ strLayJ w5.heap.size (xs := out) (ys := [t]) rfl rfl (HW10.out.own.alloc _) rfl rfl (RdL.one w10 t _ _ rfl _ rfl) (by simp; omega) (by have := HW10.out.b.size; simp; omega) ?_; intro A7 c7 w11 hown7 hg7 hb7 hat7; have HO7 := Lib.hid hown7; have HG7 := Lib.hid hg7; have HB7 := Lib.hid ((HW10.out.b.alloc HW10.out.b.size _).trans hb7); have HA7 := Lib.hid hat7; clear hown7 hg7 hb7 hat7)
        | fail)
      have HD : Hid (s.drop (formsF (out ++ [t])).length = rest.drop ft.length) := Lib.hid (by rw [HLn.out, HRest.out, List.drop_drop])
      have hlt := HR10.out.lt
      have HR11 : Hid (RdAt b r3 w11) := Lib.hid (((HG7.out.block b (by simp; omega) (fun e => by rw [own_blk] at e; exact HNe.out b e.symm rfl)).trans (Below.heap_alloc w10 _ b hlt)).trans HR10.out)
      have HNe7 : Hid (∀ i, slBlk A7 = some i → i ≠ b) := Lib.hid (fun i hi e => by
        have h := HA7.out
        rw [own_blk, own_blk, hi] at h
        rcases h with h | h
        · exact HNe.out i h.symm e
        · have := Option.some.inj h
          simp at this
          omega)
      go_roundw
      case rel => exact ⟨out ++ [t], A7, c7, by simp, by rw [HLn.out]; go_num, ⟨HNx.out.1, HNx.out.2, HB7.out, HO7.out⟩, by rw [HD.out, ← HK.out.2]; exact HR11.out, HNe7.out⟩
      case measure => simp [intOf]; omega
  case rest =>
    obtain ⟨A, c, rfl, rfl, how, hbw⟩ := hcut
    have H6 := Lib.hid (H5.out.list hbw how)
    have HRm := Lib.hid (recs_forms (recs s) (recs_small s))
    have HTk : Hid (s.take (formsF (recs s)).length = formsF (recs s)) := Lib.hid (List.prefix_iff_eq_take.1 (recs_prefix s)).symm
    have hxt : (bs s).extract 0 (formsF (recs s)).length = bs (formsF (recs s)) := by rw [bs_take, HTk.out]
    clear how hbw H5 HR6 HB6 HVb HBe
    generalize recs s = rs at *
    have HNow := Lib.hid hn2
    generalize hF : formsF rs = F at *
    have HF := Lib.hid hF
    clear hF hn2
    have hnl := now_len S2 7
    rw [HNow.out] at hnl
    obtain ⟨hr1, hr2⟩ := up_read hU2 (f := 7) ⟨by decide, by decide⟩ F.length (by rw [HNow.out]; exact Int.le_refl _)
    rw [HNow.out] at hr2
    have HRd := Lib.hid (And.intro hr1 hr2)
    have HNl := Lib.hid hnl
    have HXt := Lib.hid hxt
    have HK2 := Lib.hid hk2
    clear hr1 hr2 hnl hxt hk2
    go_wp2_with fail
    refine (dSize_any p S2 D2 wc 7 (by unfold inI64; omega) H6.out.ok.1.1.1.1.1.1.1.1).mono ?_
    rintro e wx ⟨rfl, hw⟩
    obtain rfl := hw
    rw [← HNl.out]
    go_wp2_with fail
    refine (dRead_any p S2 D2 _ 7 0 F.length (by unfold inI64; omega) H6.out.ok.1.1.1.1.1.1.1.1).mono ?_
    rintro e wx ⟨rfl, hw⟩
    obtain rfl := hw
    rw [HRd.out.1, HRd.out.2]
    obtain ⟨hc3, hj3, hU3, hn3, -⟩ := up_open hU2 (f := 7) ⟨by decide, by decide⟩
    rw [HNow.out, HRm.out] at hj3 hn3
    rw [HF.out] at hn3
    have hk3 : (openS S2 7).keep.length = 0 := by rw [openS_keep]; exact HK2.out
    have HO := Lib.hid (And.intro (open_some hc3) (And.intro hj3 (And.intro hc3 (And.intro hn3 hk3))))
    clear hj3 hc3 hn3 hk3
    go_wp2_with fail
    refine (open_any2 HV.out (St.assoc (St.assoc (St.assoc H6.out))) (f := 7) (by unfold inI64; omega) (by have := HK2.out; omega)).mono ?_
    rintro e w7 ⟨D3, X, v, rfl, hst, hj⟩
    rw [HO.out.1, HO.out.2.1] at hj
    rw [HO.out.2.2.1]
    obtain ⟨q2, M3, rfl, rfl⟩ := hj
    have H7 := Lib.hid hst
    have HNow3 := Lib.hid HO.out.2.2.2.1
    have HU3 := Lib.hid hU3
    clear hst HO H6 hU3
    generalize openS S2 7 = S3 at *
    have hnl := now_len S3 7
    rw [HNow3.out] at hnl
    have HNl3 := Lib.hid hnl
    obtain ⟨hr1, hr2⟩ := up_read HU3.out (f := 7) ⟨by decide, by decide⟩ F.length (by rw [HNow3.out]; exact Int.le_refl _)
    rw [HNow3.out] at hr2
    have HRd3 := Lib.hid (And.intro hr1 hr2)
    clear hr1 hr2 hnl
    go_wp2_with fail
    refine (dSize_any p S3 D3 w7 7 (by unfold inI64; omega) H7.out.ok.1.1.1.1).mono ?_
    rintro e wx ⟨rfl, hw⟩
    obtain rfl := hw
    rw [← HNl3.out]
    go_wp2_with fail
    refine (dRead_any p S3 D3 _ 7 0 F.length (by unfold inI64; omega) H7.out.ok.1.1.1.1).mono ?_
    rintro e wx ⟨rfl, hw⟩
    obtain rfl := hw
    rw [HRd3.out.1, HRd3.out.2]
    have hGr := slOb.rd (show (slOb AG rs.length rs).ok _ from H7.out.ok.1.2.1.2.1.2.1.1)
    have hAr := slOb.rd (show (slOb A c rs).ok _ from H7.out.ok.1.2.1.2.1.2.1.2)
    have HJ3 := Lib.hid (show JK _ q2 p ⟨7, rs, false⟩ M3 from H7.out.ok.1.1.1.2)
    have HAr := Lib.hid hAr
    have HBw := Lib.hid H7.out.bl
    have HS1 := Lib.hid (sameS_any rs rs AG A rs.length c _ hGr hAr (by omega) (by omega))
    have hxt := HXt.out
    have dF : ((bs F).toList == (bs F).toList) = true := by simp
    have hFs : F.length ≤ s.length := hlen
    clear hGr hAr H7 HRd3 HRd HU3
    go_wp2_with fail
    refine HS1.out.mono ?_
    rintro e w8 ⟨rfl, hb8⟩
    have HB8 := Lib.hid hb8
    have HJ8 := Lib.hid (show JK w8 q2 p ⟨7, rs, false⟩ M3 from (jOb q2 p _ M3).below HJ3.out hb8)
    have HA8 := Lib.hid (HAr.out.now hb8)
    have hrr : (rs == rs) = true := by simp
    rw [hrr]
    clear hb8 HJ3 HAr HS1
    go_wp2_with fail
    refine (jAll_any HJ8.out (by show rs.length ≤ _; omega)).mono ?_
    rintro e w9 ⟨A3, rfl, ho9, hb9⟩
    have HB9 := Lib.hid (HB8.out.trans (hb9.mono HB8.out.size))
    have HS2 := Lib.hid (sameS_any rs rs A3 A rs.length c w9 ((ho9.mono (Nat.zero_le _)).rd strLayJ) (HA8.out.now hb9) (by omega) (by omega))
    clear ho9 hb9 HA8 HJ8 HB8
    go_wp2_with fail
    refine HS2.out.mono ?_
    rintro e w10 ⟨rfl, hb10⟩
    rw [hrr]
    have HB10 := Lib.hid (HB9.out.trans (hb10.mono HB9.out.size))
    clear hb10
    go_wp2_with fail
    go_ret
    exact ⟨rfl, HBw.out.trans (HB10.out.mono HBw.out.size)⟩
end Go.Proofs.YtoicnokidlkjfaaDoor
