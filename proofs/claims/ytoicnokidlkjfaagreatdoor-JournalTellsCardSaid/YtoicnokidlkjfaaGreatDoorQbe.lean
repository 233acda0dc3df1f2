/- Contracts and plain laws, joined: JnP, JnQ, JnU. -/
import Derived.Test.YtoicnokidlkjfaaGreatDoorQbc
import Derived.Test.YtoicnokidlkjfaaGreatDoorQay
import Derived.Test.YtoicnokidlkjfaaGreatDoorQba
import Derived.Test.YtoicnokidlkjfaaGreatDoorQaz
import Derived.Deep.CutBlock
/- States of a law over disks and journals; contracts of lingualaw03's small functions. -/
namespace Go.Proofs.YtoicnokidlkjfaaGreatDoor
open Go.RowKit
set_option maxRecDepth 100000

/-! The list of the surviving sectors is not touched. -/
theorem sync_keep (S : DS) (f : Int) : (S.sync f).keep = S.keep := by
  have h1 := come_keep S
  unfold DS.sync DS.sync0
  split
  · exact h1
  · split
    · exact h1
    · exact h1
theorem trunc_keep (S : DS) (f n : Int) : (S.trunc f n).keep = S.keep := by
  have h1 := come_keep S
  unfold DS.trunc DS.trunc0
  split
  · exact h1
  · exact h1
theorem write_keep (S : DS) (f a : Int) (s : ByteArray) : (S.write f a s).keep = S.keep := by
  unfold DS.write
  split
  · rw [crash_keep, DS.wr_keep, DS.tick_keep]
  · rw [DS.wr_keep, DS.tick_keep]
theorem openS_keep (S : DS) (f : Int) : (openS S f).keep = S.keep := by
  unfold openS
  split
  · rfl
  · split
    · exact sync_keep S f
    · split
      · rw [trunc_keep]; exact sync_keep S f
      · exact sync_keep S f
theorem appS_keep (S : DS) (J : JS) (s : List UInt8) : (appS S J s).keep = S.keep := by
  unfold appS
  split
  · rfl
  · exact write_keep _ _ _ _
theorem synS_keep (S : DS) (J : JS) : (synS S J).keep = S.keep := by
  unfold synS
  split
  · rfl
  · exact sync_keep _ _
/-- What a law has at a time: objects of its own, above all that was there. -/
structure St (w : World) (O : Ob) (wr : World) : Prop where
  ok : O.ok wr
  bl : Below w.heap.size w wr
  own : ∀ i, O.own i → w.heap.size ≤ i
section
variable {w wr w' : World} {O O2 : Ob}
theorem St.upd (h : St w O wr) (u : OUpd O O2 wr w') : St w O2 w' := ⟨u.ok, h.bl.trans (u.to_below h.bl.size h.own), u.base h.bl.size h.own⟩
theorem St.on (h : St w O wr) (hb : Below wr.heap.size wr w') : St w O w' := ⟨Ob.below h.ok hb, h.bl.trans (hb.mono h.bl.size), h.own⟩
theorem St.assoc {a b c : Ob} (h : St w ((a.sep b).sep c) wr) : St w (a.sep (b.sep c)) wr := ⟨Ob.assoc h.ok, h.bl, fun i hi => h.own i (hi.elim (fun h => .inl (.inl h)) (fun h => h.elim (fun h => .inl (.inr h)) .inr))⟩
theorem St.assoc2 {a b c : Ob} (h : St w (a.sep (b.sep c)) wr) : St w ((a.sep b).sep c) wr := ⟨Ob.assoc2 h.ok, h.bl, fun i hi => h.own i (hi.elim (fun h => h.elim .inl (fun h => .inr (.inl h))) (fun h => .inr (.inr h)))⟩
theorem St.swap {a b : Ob} (h : St w (a.sep b) wr) : St w (b.sep a) wr := ⟨Ob.swap h.ok, h.bl, fun i hi => h.own i hi.symm⟩
theorem St.forget {a b : Ob} (h : St w (a.sep b) wr) : St w a wr := ⟨h.ok.1.1, h.bl, fun i hi => h.own i (.inl hi)⟩
theorem St.nil {a : Ob} (h : St w a wr) : St w (a.sep Ob.nil) wr := h.upd (OUpd.refl h.ok).with_nil
theorem St.more {c : Ob} (h : St w O wr) (hb : Below wr.heap.size wr w') (hc : c.ok w') (ho : ∀ i, c.own i → wr.heap.size ≤ i) (hs : ∀ i, c.see i → wr.heap.size ≤ i) : St w (O.sep c) w' := h.upd (OUpd.more h.ok hb hc ho hs)
theorem St.list {A : Option Addr} {c : Nat} {xs : List (List UInt8)} (h : St w O wr) (hb : Below wr.heap.size wr w') (ho : OwnL w' wr.heap.size 9 1 strE A c xs) : St w (O.sep (slOb A c xs)) w' :=
  h.more hb (show OwnL w' 0 9 1 strE A c xs from ho.mono (Nat.zero_le _)) (fun i hi => (ho.blk_lt hi).1) (fun _ h => h.elim)
theorem slOb.rd {A : Option Addr} {c : Nat} {xs : List (List UInt8)} (h : (slOb A c xs).ok w) : RdL 1 strE w w.heap.size A xs := (show OwnL w 0 9 1 strE A c xs from h).rd strLayJ
theorem St.vs (h : St w O wr) (hV : Vs w.heap.size w) : Vs w.heap.size wr := hV.on h.bl
end
def beginsB (l a : List (List UInt8)) : Bool := decide (a.length ≤ l.length) && (l.take a.length == a)
theorem begins_iff (l a : List (List UInt8)) : beginsB l a = true ↔ ∃ m, m ≤ l.length ∧ a = l.take m := by
  unfold beginsB
  rw [Bool.and_eq_true, decide_eq_true_eq, beq_iff_eq]
  constructor
  · rintro ⟨h1, h2⟩
    exact ⟨a.length, h1, h2.symm⟩
  · rintro ⟨m, hm, rfl⟩
    have e : (l.take m).length = m := by rw [List.length_take]; omega
    rw [e]
    exact ⟨hm, rfl⟩
theorem same_refl (xs : List (List UInt8)) (A B : Option Addr) (c d : Nat) (w : World) (hr : RdL 1 strE w w.heap.size A xs) (hs : RdL 1 strE w w.heap.size B xs) (hx : xs.length ≤ 9223372036854775807) :
    Calls Tryz.prog 24 #[.slice A xs.length c, .slice B xs.length d] w fun e w' => e = .returned (.bool true) ∧ Below w.heap.size w w' := by
  refine (sameS_any xs xs A B c d w hr hs hx hx).mono ?_
  rintro e w' ⟨rfl, hb⟩
  exact ⟨by simp, hb⟩
theorem all_as {w : World} {q p : Nat} {J : JS} {L : JL} {W : List (List UInt8)} (h : JK w q p J L) (hr : J.recs = W) (hn : W.length ≤ 1000000000000) :
    Calls Tryz.prog 25 #[.pointer (some ⟨q, 0, none⟩)] w fun e w' => ∃ A, e = .returned (.slice A W.length W.length) ∧ RdL 1 strE w' w'.heap.size A W ∧ OwnL w' w.heap.size 9 1 strE A W.length W ∧ Below w.heap.size w w' := by
  subst hr
  refine (jAll_any h hn).mono ?_
  rintro e w' ⟨A, rfl, ho, hb⟩
  exact ⟨A, rfl, (ho.mono (Nat.zero_le _)).rd strLayJ, ho, hb⟩
section
variable {w wr : World} {p q : Nat} {S : DS} {D : DL} {R : Ob} {f : Int} {J : JS} {M : JL}
theorem St.disk (h : St w ((dOb p S D).sep R) wr) : DK wr p S D := h.ok.1.1
theorem St.disk_own (h : St w ((dOb p S D).sep R) wr) : ∀ i, D.own p i → w.heap.size ≤ i := fun i hi => h.own i (.inl hi)
theorem St.dupd {S2 : DS} {w' : World} (h : St w ((dOb p S D).sep R) wr) (u : Upd p S2 D wr w') : ∃ D2, St w ((dOb p S2 D2).sep R) w' := by
  obtain ⟨D2, v⟩ := u.ob (S := S)
  exact ⟨D2, h.upd (OUpd.left h.ok v)⟩
/-- Opening a journal beside other objects. -/
theorem open_any2 (hV : Vs w.heap.size w) (h : St w ((dOb p S D).sep R) wr) (hf : inI64 f) (hk : S.keep.length ≤ 4194320) :
    Calls Tryz.prog 8 #[.pointer (some ⟨p, 0, none⟩), .int .i64 f] wr fun e w' => ∃ D' X v, e = .returned (.tuple #[v, .int .i64 (openC S f)]) ∧ St w (((dOb p (openS S f) D').sep X).sep R) w' ∧ IsJ p v X (openO S f) := by
  refine (jOpen_any p S D f wr (h.vs hV) h.disk_own hf hk h.disk).mono ?_
  rintro e w' ⟨D', X, v, rfl, hu, hj⟩
  exact ⟨D', X, v, rfl, h.upd (OUpd.left h.ok hu), hj⟩
theorem open_some (h : openC S f = 0) : openO S f = some (openJ S f) := by unfold openO; rw [if_pos h]
theorem open_none (h : openC S f ≠ 0) : openO S f = none := by unfold openO; rw [if_neg h]
theorem St.jour (h : St w ((jBoth p q S D J M).sep R) wr) : JK wr q p J M := h.ok.1.1.1.2
theorem app_any2 (hV : Vs w.heap.size w) (h : St w ((jBoth p q S D J M).sep R) wr) (s : List UInt8) (hs : s.length ≤ 1000000000) (ha : J.at_ ≤ 1000000000000) (hf : inI64 J.file) (hk : S.keep.length ≤ 4194320) :
    Calls Tryz.prog 12 #[.pointer (some ⟨q, 0, none⟩), .string (bs s)] wr fun e w' => ∃ D' M', e = .returned (.int .i64 (appC S J s)) ∧ St w ((jBoth p q (appS S J s) D' (appJ S J s) M').sep R) w' := by
  refine (jAppend_any p q S D J M s wr (h.vs hV) hs ha hf hk h.ok.1.1).mono ?_
  rintro e w' ⟨rfl, D', M', hu⟩
  exact ⟨D', M', rfl, h.upd (OUpd.left h.ok hu)⟩
theorem sync_any2 (h : St w ((jBoth p q S D J M).sep R) wr) (hf : inI64 J.file) (hk : S.keep.length ≤ 4194320) :
    Calls Tryz.prog 14 #[.pointer (some ⟨q, 0, none⟩)] wr fun e w' => ∃ D' M', e = .returned (.int .i64 (synC S J)) ∧ St w ((jBoth p q (synS S J) D' (synJ S J) M').sep R) w' := by
  refine (jSync_any p q S D J M wr hf hk h.ok.1.1).mono ?_
  rintro e w' ⟨rfl, D', M', hu⟩
  exact ⟨D', M', rfl, h.upd (OUpd.left h.ok hu)⟩
end
end Go.Proofs.YtoicnokidlkjfaaGreatDoor
/- Contract of lingualaw03.small: the examples of the documentation. -/
namespace Go.Proofs.YtoicnokidlkjfaaGreatDoor
open Go.RowKit
set_option maxRecDepth 100000

theorem sm_forms2 : formsF [[97, 98], []] = [50, 58, 97, 98, 44, 50, 57, 51, 59, 48, 58, 44, 48, 59] := by
  simp [formsF, formF, encT, encI, sumF, sumL, Lib.itoa, Lib.decDigits]
theorem sm_forms1 : formsF [[97, 98]] = [50, 58, 97, 98, 44, 50, 57, 51, 59] := by
  simp [formsF, formF, encT, encI, sumF, sumL, Lib.itoa, Lib.decDigits]
theorem sm_recs : recs [50, 58, 97, 98, 44, 50, 57, 51, 59, 49, 58, 97, 44, 57, 56, 59] = [[97, 98]] := by
  have h := recs_app [49, 58, 97, 44, 57, 56, 59] [[97, 98]] (by simp)
  rw [sm_forms1] at h
  refine Eq.trans h ?_
  have e : encT [97] = [49, 58, 97, 44] := by simp [encT, Lib.itoa, Lib.decDigits]
  have e2 : encI 98 = [57, 56, 59] := by simp [encI, Lib.itoa, Lib.decDigits]
  have h1 := rText_back [97] (encI 98) ⟨by decide, by decide⟩
  have h2 := rInt_back (n := 98) ⟨by decide, by decide⟩ (by decide : (0 : Int) ≤ 98) []
  rw [List.append_nil] at h2
  have hn : nextJ [49, 58, 97, 44, 57, 56, 59] = none := by
    have e3 : ([49, 58, 97, 44, 57, 56, 59] : List UInt8) = encT [97] ++ encI 98 := by rw [e, e2]; rfl
    unfold nextJ
    rw [e3, h1]
    simp only [h2]
    rw [if_neg]
    rintro ⟨_, h, _⟩
    revert h
    decide
  rw [recs_none hn]
  rfl
theorem sm_sums : sumF [] = 0 ∧ sumF [97] = 97 ∧ sumF [97, 98] = 293 := by decide
theorem now_new (f : Int) : DS.new.now f = [] := rfl
set_option maxHeartbeats 4000000 in
theorem small_any (w : World) (hV : Vs w.heap.size w) : Calls Tryz.prog 4 #[] w fun e w' => e = .returned (.bool true) ∧ Below w.heap.size w w' := by
  have HV := Lib.hid hV
  have HS := Lib.hid sm_sums
  clear hV
  go_enter Tryz.func4, Tryz.ntmps4
  go_wp2_with fail
  refine (dNew_any w).mono ?_
  rintro e w1 ⟨rfl, hb1, D0, hd0, ho0, -⟩
  have H0 : Hid (St w (dOb (w.heap.size + 2) DS.new D0) w1) := Lib.hid ⟨hd0, hb1, ho0⟩
  generalize w.heap.size + 2 = p at *
  clear hb1 hd0 ho0
  obtain ⟨hc1, hj1, hU1, hn1, ho1⟩ := up_open Up.new (f := 3) ⟨by decide, by decide⟩
  have hk1 : (openS DS.new 3).keep.length = 0 := by rw [openS_keep]; rfl
  rw [now_new, recs_none nextJ_nil] at hj1 hn1
  have HO := open_some hc1
  have H0' : Hid (St w ((dOb p DS.new D0).sep Ob.nil) w1) := Lib.hid H0.out.nil
  clear H0
  go_wp2_with fail
  refine (open_any2 HV.out H0'.out (f := 3) (by unfold inI64; omega) (by decide)).mono ?_
  rintro e w2 ⟨D1, X, v, rfl, hst, hj⟩
  rw [HO, hj1] at hj
  rw [hc1]
  obtain ⟨q, M1, rfl, rfl⟩ := hj
  have H1 : Hid (St w ((jBoth p q (openS DS.new 3) D1 ⟨3, [], false⟩ M1).sep Ob.nil) w2) := Lib.hid hst
  have ho14 := ho1 4 (by decide)
  rw [now_new] at ho14
  clear hst HO H0' hj1 hc1 ho1
  generalize openS DS.new 3 = S1 at *
  obtain ⟨hc2, hj2, hU2, hn2, ho2⟩ := up_append hU1 (J := ⟨3, [], false⟩) rfl ⟨by decide, by decide⟩ hn1 [97, 98] (by decide) (by have := formF_len [97, 98] (by decide); simp only [List.length_cons, List.length_nil] at this; show (0 : Nat) + _ ≤ _; omega)
  have hk2 : (appS S1 ⟨3, [], false⟩ [97, 98]).keep.length = 0 := by rw [appS_keep]; exact hk1
  have ho24 := (ho2 4 (by decide)).trans ho14
  go_wp2_with fail
  refine (app_any2 HV.out H1.out [97, 98] (by decide) (by decide) (by unfold inI64; simp) (by omega)).mono ?_
  rintro e w3 ⟨D2, M2, rfl, hst⟩
  rw [hj2] at hst
  rw [hc2]
  have H2 := Lib.hid hst
  clear hst H1 hj2 hc2 ho2 ho14 hn1 hU1 hk1
  generalize appS S1 ⟨3, [], false⟩ [97, 98] = S2 at *
  obtain ⟨hc3, hj3, hU3, hn3, ho3⟩ := up_append hU2 (J := ⟨3, [[97, 98]], false⟩) rfl ⟨by decide, by decide⟩ hn2 [] (by decide) (by have := formF_len [] (by decide); simp only [List.length_nil] at this; show (formsF [[97, 98]]).length + _ ≤ _; rw [sm_forms1]; simp only [List.length_cons, List.length_nil]; omega)
  have hk3 : (appS S2 ⟨3, [[97, 98]], false⟩ []).keep.length = 0 := by rw [appS_keep]; exact hk2
  have ho34 := (ho3 4 (by decide)).trans ho24
  simp only [List.nil_append] at H2
  go_wp2_with fail
  refine (app_any2 HV.out H2.out [] (by decide) (by unfold JS.at_; simp only; rw [sm_forms1]; decide) (by unfold inI64; simp) (by omega)).mono ?_
  rintro e w4 ⟨D3, M3, rfl, hst⟩
  rw [hj3] at hst
  rw [hc3]
  have H3 := Lib.hid hst
  clear hst H2 hj3 hc3 ho3 ho24 hn2 hU2 hk2
  generalize appS S2 ⟨3, [[97, 98]], false⟩ [] = S3 at *
  simp only [List.cons_append, List.nil_append] at hn3 H3
  rw [sm_forms2] at hn3
  obtain ⟨hr1, hr2⟩ := up_read hU3 (f := 3) ⟨by decide, by decide⟩ 99 (by rw [hn3]; decide)
  rw [hn3] at hr2
  go_wp2_with fail
  refine (dRead_any p S3 D3 w4 3 0 99 (by unfold inI64; omega) H3.out.ok.1.1.1.1).mono ?_
  rintro e wx ⟨rfl, hw⟩
  obtain rfl := hw
  rw [hr1, hr2]
  clear hr1 hr2 hn3
  have hp := up_put hU3 (f := 4) ⟨by decide, by decide⟩ [50, 58, 97, 98, 44, 50, 57, 51, 59, 49, 58, 97, 44, 57, 56, 59] (by rw [ho34]; decide)
  rw [ho34] at hp
  obtain ⟨hc4, hU4, hn4, -⟩ := hp
  have e0 : ((([] : List UInt8).length : Nat) : Int) = 0 := rfl
  rw [e0, List.nil_append] at hn4
  rw [e0] at hc4 hU4
  have hk4 : (S3.write 4 0 (bs [50, 58, 97, 98, 44, 50, 57, 51, 59, 49, 58, 97, 44, 57, 56, 59])).keep.length = 0 := by rw [write_keep]; exact hk3
  go_wp2_with fail
  refine (dWrite_any p S3 D3 _ 4 0 (bs [50, 58, 97, 98, 44, 50, 57, 51, 59, 49, 58, 97, 44, 57, 56, 59]) (by unfold inI64; omega) (by unfold inI64; omega) (by decide) (by omega) H3.out.ok.1.1.1.1).mono ?_
  rintro e w5 ⟨rfl, hu⟩
  obtain ⟨D4, hst⟩ := (St.assoc H3.out).dupd hu
  have H4 := Lib.hid hst
  clear hu hst H3 hU3 hk3 ho34
  generalize S3.write 4 0 (bs [50, 58, 97, 98, 44, 50, 57, 51, 59, 49, 58, 97, 44, 57, 56, 59]) = S4 at *
  obtain ⟨hc5, hj5, hU5, hn5, -⟩ := up_open hU4 (f := 4) ⟨by decide, by decide⟩
  rw [hn4, sm_recs] at hj5 hn5
  rw [sm_forms1] at hn5
  have HO := open_some hc5
  have hsz5 : ((openS S4 4).files 4).1.size = 9 := by rw [← now_len, hn5]; rfl
  go_wp2_with fail
  refine (open_any2 HV.out H4.out (f := 4) (by unfold inI64; omega) (by omega)).mono ?_
  rintro e w6 ⟨D5, X, v, rfl, hst, hj⟩
  rw [HO, hj5] at hj
  rw [hc5]
  obtain ⟨q2, M5, rfl, rfl⟩ := hj
  have H5 := Lib.hid hst
  clear hst HO H4 hj5 hc5 hn5 hU5 hn4 hU4 hk4
  generalize openS S4 4 = S5 at *
  have H6 := Lib.hid (show JK w6 q p ⟨3, [[97, 98], []], false⟩ M3 from H5.out.ok.1.2.1.1)
  have H7 := Lib.hid (show JK w6 q2 p ⟨4, [[97, 98]], false⟩ M5 from H5.out.ok.1.1.1.2)
  have H8 := Lib.hid (show DK w6 p S5 D5 from H5.out.ok.1.1.1.1)
  have HB := Lib.hid H5.out.bl
  clear H5
  have d1 : ((bs [97, 98]).toList == [97, 98]) = true := by rw [bs_toList]; rfl
  have d0 : ((bs [50, 58, 97, 98, 44, 50, 57, 51, 59, 48, 58, 44, 48, 59]).toList == [50, 58, 97, 98, 44, 50, 57, 51, 59, 48, 58, 44, 48, 59]) = true := by rw [bs_toList]; rfl
  go_wp2_with fail
  refine (jSum_any [] _ (by decide)).mono ?_
  rintro e wx ⟨rfl, hw⟩
  obtain rfl := hw
  rw [HS.out.1]
  go_wp2_with fail
  refine (jSum_any [97] _ (by decide)).mono ?_
  rintro e wx ⟨rfl, hw⟩
  obtain rfl := hw
  rw [HS.out.2.1]
  go_wp2_with fail
  refine (jSum_any [97, 98] _ (by decide)).mono ?_
  rintro e wx ⟨rfl, hw⟩
  obtain rfl := hw
  rw [HS.out.2.2]
  go_wp2_with fail
  refine (jLen_any H6.out).mono ?_
  rintro e wx ⟨rfl, hw⟩
  obtain rfl := hw
  go_wp2_with fail
  refine (jGet_any H6.out 0).mono ?_
  rintro e w7 ⟨rfl, hb7⟩
  have hg : (JS.mk 3 [[97, 98], []] false).get 0 = [97, 98] := rfl
  rw [hg]
  have HB7 := Lib.hid hb7
  clear hb7 hg
  have H7' := Lib.hid (show JK w7 q2 p ⟨4, [[97, 98]], false⟩ M5 from (jOb q2 p _ M5).below H7.out HB7.out)
  have H8' := Lib.hid (H8.out.below HB7.out)
  have HAll := Lib.hid (show Calls Tryz.prog 25 #[.pointer (some ⟨q2, 0, none⟩)] w7 fun e w' => ∃ A, e = .returned (.slice A 1 1) ∧ OwnL w' w7.heap.size 9 1 strE A 1 [[97, 98]] ∧ Below w7.heap.size w7 w' from jAll_any H7'.out (by decide))
  go_wp2_with fail
  refine HAll.out.mono ?_
  rintro e w8 ⟨A, rfl, ho8, hb8⟩
  have HB8 := Lib.hid hb8
  have HO8 := Lib.hid ho8
  clear hb8 ho8
  go_wp2_with fail
  have HBa := Lib.hid ((Below.refl w8.heap.size w8).alloc (Nat.le_refl _) (.cells #[.string ⟨#[97, 98]⟩] 9))
  have HSm := Lib.hid (sameS_any [[97, 98]] [[97, 98]] A (some ⟨w8.heap.size, 0, none⟩) 1 1 (w8.alloc (.cells #[.string ⟨#[97, 98]⟩] 9)) (((HO8.out.mono (Nat.zero_le _)).rd strLayJ).now HBa.out) ((RdL.one w8 [97, 98] _ _ rfl _ rfl).more (by simp)) (by decide) (by decide))
  refine HSm.out.mono ?_
  rintro e w9 ⟨rfl, hb9⟩
  have HB9 := Lib.hid ((HB7.out.trans (HB8.out.mono HB7.out.size)).trans ((HBa.out.trans (hb9.mono HBa.out.size)).mono (Nat.le_trans HB7.out.size HB8.out.size)))
  have H9 := Lib.hid (H8.out.below HB9.out)
  clear hb9
  have hbt : ([[97, 98]] == ([[97, 98]] : List (List UInt8))) = true := by decide
  rw [hbt]
  go_wp2_with fail
  refine (dSize_any p S5 D5 w9 4 (by unfold inI64; omega) H9.out).mono ?_
  rintro e wx ⟨rfl, hw⟩
  obtain rfl := hw
  rw [hsz5]
  go_wp2_with fail
  go_ret
  exact ⟨rfl, HB.out.trans (HB9.out.mono HB.out.size)⟩
end Go.Proofs.YtoicnokidlkjfaaGreatDoor
/- The walk of JournalLasts: states, and the parts of a round. -/
namespace Go.Proofs.YtoicnokidlkjfaaGreatDoor
open Go.RowKit
set_option maxRecDepth 100000

/-- A box with an operation, that the objects do not own. -/
structure BoxK (D : Ob) (w : World) (b : Nat) (a : OpM) : Prop where
  c : ∀ j v, (opC a)[j]? = some v → w.cell? ⟨b, j, none⟩ = some v
  lt : b < w.heap.size
  ap : ¬ D.own b
section
variable {D D2 : Ob} {w w' : World} {b : Nat} {a : OpM}
theorem BoxK.c0 (h : BoxK D w b a) : w.cell? ⟨b, 0, none⟩ = some (.int .i64 a.kind) := h.c 0 _ rfl
theorem BoxK.c1 (h : BoxK D w b a) : w.cell? ⟨b, 1, none⟩ = some (.string (bs a.s)) := h.c 1 _ rfl
theorem BoxK.c2 (h : BoxK D w b a) : w.cell? ⟨b, 2, none⟩ = some (.int .i64 a.n) := h.c 2 _ rfl
theorem BoxK.c3 (h : BoxK D w b a) : w.cell? ⟨b, 3, none⟩ = some (.slice a.kA a.keep.length a.kc) := h.c 3 _ rfl
theorem BoxK.upd (h : BoxK D w b a) (u : OUpd D D2 w w') : BoxK D2 w' b a :=
  ⟨fun j v hj => (World.cell?_of_block (u.turn.block b h.lt h.ap)).trans (h.c j v hj), Nat.lt_of_lt_of_le h.lt u.turn.size, fun ho => by
    rcases u.own b ho with h1 | h1
    · exact h.ap h1
    · have := h.lt; omega⟩
theorem BoxK.on (h : BoxK D w b a) (hb : Below w.heap.size w w') : BoxK D w' b a := ⟨fun j v hj => (hb.cell (p := ⟨b, j, none⟩) h.lt).trans (h.c j v hj), Nat.lt_of_lt_of_le h.lt hb.size, h.ap⟩
theorem BoxK.less (h : BoxK D w b a) (hD : ∀ i, D2.own i → D.own i) : BoxK D2 w b a := ⟨h.c, h.lt, fun ho => h.ap (hD b ho)⟩
end
theorem rd_low2 {T : Type} {sz : Nat} {enc : T → List Value} {w : World} {B : Nat} {A : Option Addr} {xs : List T} (h : RdL sz enc w B A xs) (hne : xs ≠ []) {i : Nat} (hi : slBlk A = some i) : i < B := by
  have hl : 0 < xs.length := List.length_pos_iff.2 hne
  obtain ⟨b, off, e, hb, _⟩ := h.at_ hl
  rw [e] at hi
  have := Option.some.inj hi
  simp only at this
  omega
theorem OwnL.caps {T : Type} {sz : Nat} {enc : T → List Value} {w : World} {base : Nat} {e : TypeId} {A : Option Addr} {c : Nat} {xs : List T} (h : OwnL w base e sz enc A c xs) : xs.length ≤ c ∧ c ≤ 9223372036854775807 := by
  rcases h.2 with ⟨hv, hn⟩ | ⟨g', cap, cur, hv, hb, hg, hn, hc, _⟩
  · injection hv with _ e2 e3
    subst e3
    omega
  · injection hv with _ _ e3
    subst e3
    simp only [maxLen] at hc
    exact ⟨hn, hc⟩
/-- A slice: where it lies, its list, its capacity. -/
structure SlM where
  A : Option Addr
  xs : List (List UInt8)
  c : Nat
def SlM.v (s : SlM) : Value := .slice s.A s.xs.length s.c
structure SlM.Ok (s : SlM) (O : Ob) (w : World) : Prop where
  rd : RdK O w s.A s.xs
  le : s.xs.length ≤ s.c
  max : s.c ≤ 9223372036854775807
/-- Between two operations. -/
structure LastR (w : World) (p : Nat) (v : Value) (k : Nat) (S : DS) (D : DL) (J : Option JS) (X : Ob) (al su : SlM) (wr : World) : Prop where
  isj : IsJ p v X J
  st : St w ((dOb p S D).sep X) wr
  inv : LInv S J al.xs su.xs k
  keep : S.keep.length ≤ 50
  all : al.Ok ((dOb p S D).sep X) wr
  sure : su.Ok ((dOb p S D).sep X) wr
section
variable {w wr w' : World} {p : Nat} {v : Value} {k : Nat} {S : DS} {D : DL} {J : Option JS} {X : Ob} {al su : SlM} {O O2 : Ob}
theorem SlM.Ok.upd {s : SlM} (h : s.Ok O wr) (u : OUpd O O2 wr w') : s.Ok O2 w' := ⟨h.rd.upd u, h.le, h.max⟩
theorem SlM.Ok.on {s : SlM} (h : s.Ok O wr) (hb : Below wr.heap.size wr w') : s.Ok O w' := ⟨h.rd.now hb, h.le, h.max⟩
theorem SlM.Ok.less {s : SlM} (h : s.Ok O wr) (hD : ∀ i, O2.own i → O.own i) : s.Ok O2 wr := ⟨h.rd.less hD, h.le, h.max⟩
theorem LastR.more (h : LastR w p v k S D J X al su wr) : LastR w p v (k + 1) S D J X al su wr := ⟨h.isj, h.st, lasts_skip h.inv, h.keep, h.all, h.sure⟩
theorem LastR.on (h : LastR w p v k S D J X al su wr) (hb : Below wr.heap.size wr w') : LastR w p v k S D J X al su w' := ⟨h.isj, h.st.on hb, h.inv, h.keep, h.all.on hb, h.sure.on hb⟩
/-- The disk alone changes. -/
theorem LastR.disk {S2 : DS} {n : Nat} (h : LastR w p v k S D J X al su wr) (u : Upd p S2 D wr w') (hi : LInv S2 J al.xs su.xs n) (hk : S2.keep.length ≤ 50) {b : Nat} {a : OpM} (hb : BoxK ((dOb p S D).sep X) wr b a) :
    ∃ D2, LastR w p v n S2 D2 J X al su w' ∧ BoxK ((dOb p S2 D2).sep X) w' b a := by
  obtain ⟨D2, u1⟩ := u.ob (S := S)
  have u2 := OUpd.left h.st.ok u1
  exact ⟨D2, ⟨h.isj, h.st.upd u2, hi, hk, h.all.upd u2, h.sure.upd u2⟩, hb.upd u2⟩
/-- The journal is forgotten. -/
theorem LastR.gone {n : Nat} (h : LastR w p v k S D J X al su wr) (hi : LInv S none al.xs su.xs n) : LastR w p (.pointer none) n S D none Ob.nil al su wr :=
  ⟨⟨rfl, rfl⟩, h.st.forget.nil, hi, h.keep, h.all.less (fun i hi => hi.elim .inl (fun h => h.elim)), h.sure.less (fun i hi => hi.elim .inl (fun h => h.elim))⟩
end
theorem lasts_arm {S : DS} {J : Option JS} {all sure : List (List UInt8)} {n : Nat} (h : LInv S J all sure n) (m : Int) (keep : List Int) (hm : inI64 m) (hk : ∀ x ∈ keep, inI64 x) : LInv (S.arm m keep) J all sure (n + 1) :=
  lasts_same h (DS.arm_wf h.two.wf m keep hm hk) rfl rfl
theorem lasts_lose {S : DS} {J : Option JS} {all sure : List (List UInt8)} {n : Nat} (h : LInv S J all sure n) (m : Int) (hm : inI64 m) : LInv (S.lose m) J all sure (n + 1) :=
  lasts_same h (DS.lose_wf h.two.wf m hm) rfl rfl
theorem linv_up {S : DS} {J : Option JS} {all sure : List (List UInt8)} {n m : Nat} (h : LInv S J all sure n) (hm : n ≤ m) : LInv S J all sure m := by
  induction hm with
  | refl => exact h
  | step _ ih => exact lasts_skip ih
theorem linv_at {S : DS} {J : Option JS} {all sure : List (List UInt8)} {n m : Nat} (h : LInv S J all sure n) (hm : all.length ≤ m) : LInv S J all sure m := ⟨h.two, h.sm, hm, h.sub, h.jr⟩
section
variable {w wr w' : World} {p q : Nat} {v v2 : Value} {k n : Nat} {S S2 : DS} {D D2 : DL} {J J2 : Option JS} {j j2 : JS} {M M2 : JL} {X X2 : Ob} {al su : SlM} {b : Nat} {a : OpM}
theorem LastR.jour (h : LastR w p v k S D (some j) (jOb q p j M) al su wr) (u : OUpd (jBoth p q S D j M) (jBoth p q S2 D2 j2 M2) wr w') (hi : LInv S2 (some j2) al.xs su.xs n) (hk : S2.keep.length ≤ 50) :
    LastR w p (.pointer (some ⟨q, 0, none⟩)) n S2 D2 (some j2) (jOb q p j2 M2) al su w' :=
  ⟨⟨q, M2, rfl, rfl⟩, h.st.upd u, hi, hk, h.all.upd u, h.sure.upd u⟩
theorem LastR.opened (h : LastR w p v k S D none Ob.nil al su wr) (u : OUpd (dOb p S D) ((dOb p S2 D2).sep X2) wr w') (hj : IsJ p v2 X2 J2) (hi : LInv S2 J2 al.xs su.xs n) (hk : S2.keep.length ≤ 50) :
    LastR w p v2 n S2 D2 J2 X2 al su w' :=
  ⟨hj, h.st.forget.upd u, hi, hk, (h.all.less (O2 := dOb p S D) (fun _ hi => .inl hi)).upd u, (h.sure.less (O2 := dOb p S D) (fun _ hi => .inl hi)).upd u⟩
/-- New lists. -/
theorem LastR.lists {al2 su2 : SlM} (h : LastR w p v k S D J X al su wr) (hi : LInv S J al2.xs su2.xs n) (ha : al2.Ok ((dOb p S D).sep X) wr) (hs : su2.Ok ((dOb p S D).sep X) wr) : LastR w p v n S D J X al2 su2 wr := ⟨h.isj, h.st, hi, h.keep, ha, hs⟩
/-- A list that is new. -/
theorem SlM.fresh {O : Ob} {A : Option Addr} {c : Nat} {xs : List (List UInt8)} (h : O.ok wr) (hr : RdL 1 strE w' w'.heap.size A xs) (ho : OwnL w' wr.heap.size 9 1 strE A c xs) (hl : xs.length ≤ c) (hc : c ≤ 9223372036854775807) : (SlM.mk A xs c).Ok O w' :=
  ⟨RdK.fresh h hr (fun i hi => (ho.blk_lt hi).1), hl, hc⟩
end
/-- What is done in a round. -/
structure RoundR (w : World) (p b : Nat) (a : OpM) (last : Prop) (v : Value) (k : Nat) (S : DS) (D : DL) (J : Option JS) (X : Ob) (al su : SlM) (wr : World) : Prop where
  st : LastR w p v k S D J X al su wr
  box : BoxK ((dOb p S D).sep X) wr b a
  few : OpFew a
  ok : OpOk wr a
  low : a.keep ≠ [] → ∀ i, slBlk a.kA = some i → i < w.heap.size
  last : last → a.kind = 4 ∧ S.lost = 0 ∧ S.armed = 0
/-- Objects, lists that are read, and the box, at a time in a round. -/
structure LSt (w : World) (O : Ob) (al su : SlM) (b : Nat) (a : OpM) (wr : World) : Prop where
  st : St w O wr
  all : al.Ok O wr
  sure : su.Ok O wr
  box : BoxK O wr b a
section
variable {w wr w' : World} {O O2 c : Ob} {al su al2 : SlM} {b : Nat} {a : OpM}
theorem RdK.more {A : Option Addr} {xs : List (List UInt8)} (h : RdK O wr A xs) (hb : Below wr.heap.size wr w') (hc : ∀ i, c.own i → wr.heap.size ≤ i) : RdK (O.sep c) w' A xs :=
  ⟨h.rd.now hb, fun hne i hi ho => ho.elim (h.ap hne i hi) (fun ho => by have := rd_low2 h.rd hne hi; have := hc i ho; omega)⟩
theorem LSt.upd (h : LSt w O al su b a wr) (u : OUpd O O2 wr w') : LSt w O2 al su b a w' := ⟨h.st.upd u, h.all.upd u, h.sure.upd u, h.box.upd u⟩
theorem LSt.on (h : LSt w O al su b a wr) (hb : Below wr.heap.size wr w') : LSt w O al su b a w' := ⟨h.st.on hb, h.all.on hb, h.sure.on hb, h.box.on hb⟩
theorem LSt.list {A : Option Addr} {k : Nat} {xs : List (List UInt8)} (h : LSt w O al su b a wr) (hb : Below wr.heap.size wr w') (ho : OwnL w' wr.heap.size 9 1 strE A k xs) : LSt w (O.sep (lsOb 9 1 strE A k xs)) al su b a w' :=
  ⟨h.st.list hb ho, ⟨h.all.rd.more hb (fun i hi => (ho.blk_lt hi).1), h.all.le, h.all.max⟩, ⟨h.sure.rd.more hb (fun i hi => (ho.blk_lt hi).1), h.sure.le, h.sure.max⟩,
    ⟨(h.box.on hb).c, (h.box.on hb).lt, fun hi => hi.elim h.box.ap (fun hi => by have := (ho.blk_lt hi).1; have := h.box.lt; omega)⟩⟩
theorem LSt.all2 {A : Option Addr} {k : Nat} {xs : List (List UInt8)} (h : LSt w O al su b a wr) (hb : Below wr.heap.size wr w') (ho : OwnL w' wr.heap.size 9 1 strE A k xs) (hl : xs.length ≤ k) (hk : k ≤ 9223372036854775807) : LSt w O ⟨A, xs, k⟩ su b a w' :=
  ⟨h.st.on hb, SlM.fresh h.st.ok ((ho.mono (Nat.zero_le _)).rd strLayJ) ho hl hk, h.sure.on hb, h.box.on hb⟩
theorem LSt.toLast {p q n : Nat} {S : DS} {D : DL} {j : JS} {M : JL} {c1 c2 : Ob} (h : LSt w (((jBoth p q S D j M).sep c1).sep c2) al su b a wr) (hi : LInv S (some j) al.xs su.xs n) (hk : S.keep.length ≤ 50) :
    LastR w p (.pointer (some ⟨q, 0, none⟩)) n S D (some j) (jOb q p j M) al su wr :=
  ⟨⟨q, M, rfl, rfl⟩, h.st.forget.forget, hi, hk, h.all.less (fun _ hi => .inl (.inl hi)), h.sure.less (fun _ hi => .inl (.inl hi))⟩
end
end Go.Proofs.YtoicnokidlkjfaaGreatDoor
