/- Contracts and plain laws, joined: ErXa, ErXb, ErXc, ErRf, ErMy. -/
import Derived.Test.YtjmkodkechahdaaGreatDoorQbh
import Derived.Test.YtjmkodkechahdaaGreatDoorQap
import Derived.Test.YtjmkodkechahdaaGreatDoorQaw
import Derived.Test.YtjmkodkechahdaaGreatDoorQam
import Derived.Test.YtjmkodkechahdaaGreatDoorQbc
import Derived.Test.YtjmkodkechahdaaGreatDoorQaq
import Derived.Test.YtjmkodkechahdaaGreatDoorQao
/- The reference's disk as an object; contracts of linguaref43.other, pointer, Right. -/
set_option linter.unusedSimpArgs false
set_option linter.unusedVariables false
namespace Go.Proofs.YtjmkodkechahdaaGreatDoor
open Go.RowKit
set_option maxRecDepth 100000

/-- The reference's disk at p, S, that lies at L. -/
def fOb (p : Nat) (S : DS) (L : RL) : Ob where
  own := L.own p
  see i := slBlk L.kA = some i
  ok w := RK w p S L
  lt w h i hi := hi.elim (h.lt i) (h.kl i)
  frame w w' h hb hs := h.turn hb hs
theorem RUpd.fob {p : Nat} {S S' : DS} {L : RL} {w w' : World} (u : RUpd p S' L w w') : ∃ L', OUpd (fOb p S L) (fOb p S' L') w w' := by
  obtain ⟨L', d, t, o, k⟩ := u
  exact ⟨L', d, t, o, k⟩
def sideN (p : List UInt8) : Int := if p = [48] then 0 else if p = [49] then 1 else -1
theorem rOther_any (n : Int) (w : World) : Calls Tryz.prog 71 #[.int .i64 n] w fun e w' => e = .returned (.int .i64 (if n = 0 then 1 else 0)) ∧ w = w' := by
  go_enter Tryz.func71, Tryz.ntmps71
  by_cases h : n = 0
  · subst h
    go_wp2_with fail
    go_ret
    exact ⟨rfl, rfl⟩
  · have q : (n == 0) = false := by simpa using h
    have H := Lib.hid h
    clear h
    go_wp2_with fail
    go_ret
    exact ⟨by first | rfl | (rw [if_neg H.out]; rfl), rfl⟩
def PtrOut (S : DS) (f : Int) (w : World) (e : Ending) (w' : World) : Prop := ∃ n, e = .returned (.tuple #[.int .i64 n, .int .i64 (openE S f)]) ∧ (openE S f = 0 → n = sideN (sideE S f) ∧ PtrOk (sideE S f)) ∧ Below w.heap.size w w'
theorem rPtr_any (p : Nat) (S : DS) (L : RL) (f : Int) (w : World) (hf : 0 ≤ f ∧ f ≤ 13) (h : RK w p S L) : Calls Tryz.prog 69 #[.pointer (some ⟨p, 0, none⟩), .int .i64 f] w (PtrOut S f w) := by
  have H := Lib.hid h
  have hsd : S.readS f 0 1 = bs (sideE S f) := (bs_eta _).symm
  have HSd := Lib.hid hsd
  have HC : Hid (openE S f = if S.readC f 0 1 ≠ 0 then S.readC f 0 1 else if sideE S f = [] ∨ sideE S f = [48] ∨ sideE S f = [49] then 0 else 22) := Lib.hid (by unfold openE; rw [if_neg (by omega)])
  clear h hsd
  go_enter Tryz.func69, Tryz.ntmps69
  go_wp2_with fail
  refine (rRead_any p S L w f 0 1 H.out (by unfold inI64; omega) (by unfold inI64; omega)).mono ?_
  rintro e w1 ⟨rfl, hb⟩
  have HB := Lib.hid hb
  clear hb
  rw [HSd.out]
  by_cases g2 : S.readC f 0 1 = 0
  rotate_left
  · have d3 : (S.readC f 0 1 != 0) = true := by simpa using g2
    have HQ : Hid (PtrOut S f w (.returned (.tuple #[.int .i64 (-1), .int .i64 (S.readC f 0 1)])) w1) := Lib.hid ⟨-1, by rw [HC.out, if_pos g2], fun h => absurd h (by rw [HC.out, if_pos g2]; exact g2), HB.out⟩
    generalize S.readC f 0 1 = rc at *
    clear g2
    go_wp2_with fail
    go_ret2
    exact HQ.out
  · rw [if_neg (by simpa using g2)] at HC
    rw [g2]
    obtain ⟨sd, hs⟩ : ∃ x, x = sideE S f := ⟨_, rfl⟩
    have HQ0 : Hid (∀ n, sideE S f = sd → PtrOk sd → n = sideN sd → PtrOut S f w (.returned (.tuple #[.int .i64 n, .int .i64 0])) w1) := Lib.hid fun n h1 h2 h3 => by
      have hc : openE S f = 0 := by rw [HC.out, h1]; exact if_pos h2
      exact ⟨n, by rw [hc], fun _ => ⟨by rw [h1]; exact h3, by rw [h1]; exact h2⟩, HB.out⟩
    rw [← hs] at HC ⊢
    have HS := Lib.hid hs
    clear hs g2
    by_cases g3 : PtrOk sd
    · rcases g3 with rfl | rfl | rfl
      · have HQ := Lib.hid (HQ0.out (-1) HS.out.symm (.inl rfl) rfl)
        clear HQ0
        rw [show bs [] = ⟨#[]⟩ from rfl]
        go_wp2_with fail
        go_ret2
        exact HQ.out
      · have HQ := Lib.hid (HQ0.out 0 HS.out.symm (.inr (.inl rfl)) rfl)
        clear HQ0
        rw [show bs [48] = ⟨#[48]⟩ from rfl]
        go_wp2_with fail
        go_ret2
        exact HQ.out
      · have HQ := Lib.hid (HQ0.out 1 HS.out.symm (.inr (.inr rfl)) rfl)
        clear HQ0
        rw [show bs [49] = ⟨#[49]⟩ from rfl]
        go_wp2_with fail
        go_ret2
        exact HQ.out
    · have hc : openE S f = 22 := by rw [HC.out]; exact if_neg g3
      have HQ : Hid (PtrOut S f w (.returned (.tuple #[.int .i64 (-1), .int .i64 22])) w1) := Lib.hid ⟨-1, by rw [hc], fun h => absurd h (by rw [hc]; decide), HB.out⟩
      have q0 : ¬ (bs sd).toList = [] := by rw [bs_toList]; exact fun e => g3 (.inl e)
      have q1 : ¬ (bs sd).toList = [48] := by rw [bs_toList]; exact fun e => g3 (.inr (.inl e))
      have q2 : ¬ (bs sd).toList = [49] := by rw [bs_toList]; exact fun e => g3 (.inr (.inr e))
      have b0 : (bs sd).toList.isEmpty = false := by simpa using q0
      have b1 : ((bs sd).toList == [48]) = false := by simpa using q1
      have b2 : ((bs sd).toList == [49]) = false := by simpa using q2
      clear hc HC g3 HQ0
      go_wp2_with fail
      go_ret2
      exact HQ.out
theorem rRight43_any {B : Nat} (l : List (List UInt8)) (A : Option Addr) (c : Nat) (w : World) (hV : Vs B w) (hr : RdL 1 strE w w.heap.size A l) (hl : FewL l) : Calls Tryz.prog 68 #[.slice A l.length c] w fun e w' => e = .returned (.bool true) ∧ Below w.heap.size w w' := by
  have HR := Lib.hid hr
  have HF := Lib.hid hl
  have hln := hl.1
  have HT : Hid ((textsL l).length ≤ 1048576) := Lib.hid (by
    have h := few_fits hl
    unfold fitsE at h
    simp only [Bool.and_eq_true, decide_eq_true_eq] at h
    exact h.2.2)
  clear hr hl hV
  go_enter Tryz.func68, Tryz.ntmps68
  go_wp2_with fail
  go_loopw [3, 4] (fun n i wr => ∃ (k m : Nat), k ≤ l.length ∧ n = .int .i64 m ∧ i = .int .i64 k ∧ m ≤ 200 * k ∧ w = wr) (fun _ i _ => l.length - (intOf i).toNat)
  case atStart => exact ⟨0, 0, Nat.zero_le _, rfl, rfl, Nat.le_refl _, rfl⟩
  case round =>
    obtain ⟨k, m, hk, rfl, rfl, hm, rfl⟩ := hrel
    by_cases hlt : k < l.length
    · have d1 : decide ((k : Int) < (l.length : Int)) = true := by simp; omega
      obtain ⟨b, off, rfl, hc⟩ := rd_str HR.out hlt
      have hs := HF.out.2 l[k] (List.getElem_mem hlt)
      have hz : (bs l[k]).size = l[k].length := bs_size _
      generalize l[k] = s at *
      have d2 : decide ((20000 : Int) < (s.length : Int)) = false := by simp; omega
      have hw : IntKind.i64.wrap ((m : Int) + s.length) = ((m + s.length : Nat) : Int) := by rw [IntKind.wrap_i64]; omega
      go_wp2_with fail
      go_roundw
      case rel => exact ⟨k + 1, m + s.length, by omega, by first | rfl | go_num, by go_num, by omega, by trivial⟩
      case measure => simp [intOf]; omega
    · obtain rfl : k = l.length := by omega
      have d1 : decide ((l.length : Int) < (l.length : Int)) = false := by simp
      have d2 : decide ((l.length : Int) ≤ 1000) = true := by simp; omega
      have d3 : decide ((m : Int) ≤ 1048576) = true := by simp; omega
      have hfl : (l.flatMap encT).length ≤ 1000000000000 := by
        have := HT.out
        simp only [textsL, encL, List.length_append, List.length_cons, List.length_nil] at this
        omega
      have hz : (bs (encL encT l)).size = (encL encT l).length := bs_size _
      have d4 : decide (((encL encT l).length : Int) ≤ 1048576) = true := by
        have := HT.out
        unfold textsL at this
        simp; omega
      have HX := Lib.hid (fun x hx => show List.length x ≤ 1000000000000 by have := HF.out.2 x hx; omega)
      have HL := Lib.hid hfl
      clear hfl
      generalize ht : encL encT l = t at *
      go_wp2_with fail
      refine (rListS_any l A c w HR.out HL.out HX.out (by omega)).mono ?_
      rintro e w1 ⟨rfl, hb⟩
      rw [ht]
      have HB := Lib.hid hb
      clear hb
      go_wp2_with fail
      go_ret
      exact ⟨rfl, HB.out⟩
end Go.Proofs.YtjmkodkechahdaaGreatDoor
/- Contract of linguaref43.Rewrite. -/
set_option linter.unusedSimpArgs false
set_option linter.unusedVariables false
namespace Go.Proofs.YtjmkodkechahdaaGreatDoor
open Go.RowKit
set_option maxRecDepth 100000

def FRwPost (p : Nat) (S : DS) (L : RL) (f : Int) (l : List (List UInt8)) (w : World) (e : Ending) (w' : World) : Prop := e = .returned (.int .i64 (rewE S f l).1) ∧ ∃ L', OUpd (fOb p S L) (fOb p (rewE S f l).2 L') w w'
/-- What Rewrite has at a time: the steps that are left. -/
structure FW (p : Nat) (S : DS) (L : RL) (f : Int) (l : List (List UInt8)) (w : World) (ks : List (DS → Res)) (T : DS) (Li : RL) (wi : World) : Prop where
  run : rewE S f l = runL ks T
  keep : T.keep = S.keep
  upd : OUpd (fOb p S L) (fOb p T Li) w wi
section
variable {p : Nat} {S T : DS} {L Li : RL} {f : Int} {l : List (List UInt8)} {w wi w' : World} {k : DS → Res} {r : List (DS → Res)}
theorem FW.rk (h : FW p S L f l w r T Li wi) : RK wi p T Li := h.upd.ok
theorem FW.step (h : FW p S L f l w (k :: r) T Li wi) {cd : Int} (u : RUpd p (k T).2 Li wi w') (hk : (k T).2.keep = T.keep) (hc : cd = (k T).1) :
    (cd = 0 ∧ ∃ T' L', FW p S L f l w r T' L' w') ∨ (cd ≠ 0 ∧ FRwPost p S L f l w (.returned (.int .i64 cd)) w') := by
  obtain ⟨L', u2⟩ := u.fob (S := T)
  by_cases hz : cd = 0
  · refine .inl ⟨hz, (k T).2, L', ?_, hk.trans h.keep, h.upd.trans u2⟩
    rw [h.run, runL, if_pos (hc.symm.trans hz)]
  · refine .inr ⟨hz, ?_, L', ?_⟩
    · rw [h.run, runL, if_neg (fun e => hz (hc.trans e)), hc]
    · rw [h.run, runL, if_neg (fun e => hz (hc.trans e))]
      exact h.upd.trans u2
theorem FW.skip (h : FW p S L f l w (k :: r) T Li wi) (hk : k T = (0, T)) : FW p S L f l w r T Li wi := ⟨by rw [h.run, runL, hk, if_pos rfl], h.keep, h.upd⟩
theorem FW.on (h : FW p S L f l w r T Li wi) (hb : Below wi.heap.size wi w') : FW p S L f l w r T Li w' := ⟨h.run, h.keep, h.upd.below hb⟩
theorem FW.done (h : FW p S L f l w [] T Li wi) : FRwPost p S L f l w (.returned (.int .i64 0)) wi := ⟨by rw [h.run]; rfl, Li, by rw [h.run]; exact h.upd⟩
end
-- fStage contract | k | keep | code : one call of the disk; HW : what is there
-- fStageO contract | k | keep | code | other : the first call of the disk; HW : what is there
theorem rOther_m (w : World) : Calls Tryz.prog 71 #[.int .i64 (-1)] w fun e w' => e = .returned (.int .i64 0) ∧ w = w' := (rOther_any (-1) w).mono (fun e w' h => ⟨h.1, h.2⟩)
theorem rOther_0 (w : World) : Calls Tryz.prog 71 #[.int .i64 0] w fun e w' => e = .returned (.int .i64 1) ∧ w = w' := (rOther_any 0 w).mono (fun e w' h => ⟨h.1, h.2⟩)
theorem rOther_1 (w : World) : Calls Tryz.prog 71 #[.int .i64 1] w fun e w' => e = .returned (.int .i64 0) ∧ w = w' := (rOther_any 1 w).mono (fun e w' h => ⟨h.1, h.2⟩)
-- fAll other | oth | next : the steps from the name of the other side on, up to the last Sync
set_option maxHeartbeats 4000000 in
theorem rRew43_any {B : Nat} (p : Nat) (S : DS) (L : RL) (f : Int) (l : List (List UInt8)) (A : Option Addr) (c : Nat) (w : World) (hV : Vs B w) (hr : RdK (fOb p S L) w A l) (hfew : FewL l) (hf : inI64 f) (hk : S.keep.length ≤ 4194320) (hd : RK w p S L) :
    Calls Tryz.prog 30 #[.pointer (some ⟨p, 0, none⟩), .int .i64 f, .slice A l.length c] w (FRwPost p S L f l w) := by
  have HR := Lib.hid hr
  have HV := Lib.hid hV
  have HD := Lib.hid hd
  have HFw := Lib.hid hfew
  have hll := hfew.1
  clear hr hV hd hfew
  go_enter Tryz.func30, Tryz.ntmps30
  by_cases g1 : f < 0 ∨ 13 < f
  · have hc : rewE S f l = (1, S) := by unfold rewE; rw [if_pos g1]
    by_cases g2 : f < 0
    · have d1 : decide (f < 0) = true := by simpa using g2
      clear g1 g2
      go_wp2_with fail
      go_ret
      exact ⟨by rw [hc]; rfl, L, by rw [hc]; exact OUpd.refl (a := fOb p S L) HD.out⟩
    · have d1 : decide (f < 0) = false := by simpa using g2
      have d2 : decide (13 < f) = true := by simp; omega
      clear g1 g2
      go_wp2_with fail
      go_ret
      exact ⟨by rw [hc]; rfl, L, by rw [hc]; exact OUpd.refl (a := fOb p S L) HD.out⟩
  have hf13 : 0 ≤ f ∧ f ≤ 13 := by omega
  have d1 : decide (f < 0) = false := by simp; omega
  have d2 : decide (13 < f) = false := by simp; omega
  have HE : Hid (rewE S f l = if openE S f ≠ 0 then (openE S f, S) else runL (rewL f (sideE S f) (textsL l)) S) := Lib.hid (by unfold rewE; rw [if_neg g1, few_fits HFw.out, if_neg (by decide)])
  have HF := Lib.hid hf13
  clear g1
  go_wp2_with fail
  refine (rRight43_any l A c w HV.out HR.out.rd HFw.out).mono ?_
  rintro e w1 ⟨rfl, hb1⟩
  have HB1 := Lib.hid hb1
  have HD1 := Lib.hid (Ob.below (a := fOb p S L) HD.out hb1)
  clear hb1
  go_wp2_with fail
  refine (rPtr_any p S L f w1 HF.out HD1.out).mono ?_
  rintro e w2 ⟨n, rfl, hp, hb2⟩
  have HU2 := Lib.hid ((OUpd.of_below (a := fOb p S L) HD.out HB1.out).below hb2)
  clear hb2 HB1 HD1
  by_cases hc : openE S f = 0
  rotate_left
  · have HC : Hid (rewE S f l = (openE S f, S)) := Lib.hid (by rw [HE.out, if_pos hc])
    have d5 : (openE S f != 0) = true := by simpa using hc
    generalize openE S f = oc at *
    clear hc hp
    go_wp2_with fail
    go_ret
    exact ⟨by rw [HC.out]; rfl, L, by rw [HC.out]; exact HU2.out⟩
  obtain ⟨rfl, hpo⟩ := hp hc
  have hW0 : FW p S L f l w (rewL f (sideE S f) (textsL l)) S L w2 := ⟨by rw [HE.out, if_neg (by simpa using hc)], rfl, HU2.out⟩
  rw [hc]
  have htl : (textsL l).length ≤ 1048576 := (fits_parts (few_fits HFw.out)).2.2
  have HX : Hid (∀ x ∈ l, x.length ≤ 1000000000000) := Lib.hid (fun x hx => by have := HFw.out.2 x hx; omega)
  have HL : Hid ((l.flatMap encT).length ≤ 1000000000000) := Lib.hid (by
    have := htl
    simp only [textsL, encL, List.length_append, List.length_cons, List.length_nil] at this
    omega)
  obtain ⟨t, ht⟩ : ∃ t, t = textsL l := ⟨_, rfl⟩
  rw [← ht] at htl hW0
  have HT : Hid (encL encT l = t) := Lib.hid ht.symm
  have hz : (bs t).size = t.length := bs_size t
  clear HE hc HU2 ht
  generalize sideE S f = sd at *
  obtain ⟨T, Li, hW0, hkT⟩ : ∃ T Li, FW p S L f l w (rewL f sd t) T Li w2 ∧ T.keep.length ≤ 4194320 := ⟨S, L, hW0, hk⟩
  have HKz := Lib.hid hkT
  have w1 : IntKind.i64.wrap (f + 1) = f + 1 := by rw [IntKind.wrap_i64]; omega
  have w2' : IntKind.i64.wrap (f + 2) = f + 2 := by rw [IntKind.wrap_i64]; omega
  have w3 : IntKind.i64.wrap (f + 1 + 1) = f + 2 := by rw [IntKind.wrap_i64]; omega
  have w5 : IntKind.i64.wrap (f + 1 + 0) = f + 1 := by rw [IntKind.wrap_i64]; omega
  clear hkT
  rcases hpo with rfl | rfl | rfl
  · rw [show sideN [] = -1 from rfl]
    have HW : Hid (FW p S L f l w [trR (f + 1), wrR (f + 1) t, syR (f + 1), wrR f [48], syR f, endR f []] T Li w2) := Lib.hid (FW.skip (k := setR f []) hW0 rfl)
    clear hW0
    go_wp2_with fail
    refine (rOther_m _).mono ?_
    rintro e wx ⟨rfl, hw⟩
    obtain rfl := hw
    go_wp2_with fail
    refine (rTrunc_any p T Li _ (f + 1) 0 (by unfold inI64; omega) HKz.out HW.out.rk).mono ?_
    rintro e wz ⟨rfl, hu⟩
    obtain ⟨cd, hcd⟩ : ∃ x, x = T.truncC (f + 1) 0 := ⟨_, rfl⟩
    rw [← hcd]
    rcases HW.out.step (k := trR (f + 1)) hu (trunc_keep _ _ _) hcd with ⟨hz, T, Li, hw⟩ | ⟨hz, hq⟩
    rotate_left
    · have HQ := Lib.hid hq
      have e1 : (cd == 0) = false := by simpa using hz
      clear HW hu hcd hz hq
      go_wp2_with fail
      go_ret
      exact HQ.out
    subst hz
    clear HW hu hcd
    have HW := Lib.hid hw
    have hkz := hw.keep
    have HKz := Lib.hid (show T.keep.length ≤ 4194320 by rw [hkz]; exact hk)
    clear hw hkz
    go_wp2_with fail
    have hrd := HR.out.upd HW.out.upd
    refine (rListS_any l A c _ hrd.rd HL.out HX.out (by omega)).mono ?_
    rintro e wx ⟨rfl, hb⟩
    rw [HT.out]
    have HW2 := Lib.hid (HW.out.on hb)
    clear hb hrd HW
    have HW := HW2
    clear HW2
    go_wp2_with fail
    refine (rWrite_any p T Li _ (f + 1) 0 (bs t) (by unfold inI64; omega) (by omega) HKz.out HW.out.rk).mono ?_
    rintro e wz ⟨rfl, hu⟩
    obtain ⟨cd, hcd⟩ : ∃ x, x = T.writeC (f + 1) 0 (bs t) := ⟨_, rfl⟩
    rw [← hcd]
    rcases HW.out.step (k := wrR (f + 1) t) hu (write_keep _ _ _ _) hcd with ⟨hz, T, Li, hw⟩ | ⟨hz, hq⟩
    rotate_left
    · have HQ := Lib.hid hq
      have e1 : (cd == 0) = false := by simpa using hz
      clear HW hu hcd hz hq
      go_wp2_with fail
      go_ret
      exact HQ.out
    subst hz
    clear HW hu hcd
    have HW := Lib.hid hw
    have hkz := hw.keep
    have HKz := Lib.hid (show T.keep.length ≤ 4194320 by rw [hkz]; exact hk)
    clear hw hkz
    go_wp2_with fail
    refine (rSync_any p T Li _ (f + 1) HKz.out HW.out.rk).mono ?_
    rintro e wz ⟨rfl, hu⟩
    obtain ⟨cd, hcd⟩ : ∃ x, x = T.syncC (f + 1) := ⟨_, rfl⟩
    rw [← hcd]
    rcases HW.out.step (k := syR (f + 1)) hu (sync_keep _ _) hcd with ⟨hz, T, Li, hw⟩ | ⟨hz, hq⟩
    rotate_left
    · have HQ := Lib.hid hq
      have e1 : (cd == 0) = false := by simpa using hz
      clear HW hu hcd hz hq
      go_wp2_with fail
      go_ret
      exact HQ.out
    subst hz
    clear HW hu hcd
    have HW := Lib.hid hw
    have hkz := hw.keep
    have HKz := Lib.hid (show T.keep.length ≤ 4194320 by rw [hkz]; exact hk)
    clear hw hkz
    go_wp2_with fail
    refine (rOther_m _).mono ?_
    rintro e wx ⟨rfl, hw⟩
    obtain rfl := hw
    have HW2 := Lib.hid (HW.out.on ((Below.refl _ _).alloc (Nat.le_refl _) (.cells #[.string ⟨#[48]⟩, .string ⟨#[49]⟩] 9)))
    clear HW
    have HW := HW2
    clear HW2
    go_wp2_with fail
    refine (rWrite_any p T Li _ f 0 (bs [48]) (by unfold inI64; omega) (by decide) HKz.out HW.out.rk).mono ?_
    rintro e wz ⟨rfl, hu⟩
    obtain ⟨cd, hcd⟩ : ∃ x, x = T.writeC f 0 (bs [48]) := ⟨_, rfl⟩
    rw [← hcd]
    rcases HW.out.step (k := wrR f [48]) hu (write_keep _ _ _ _) hcd with ⟨hz, T, Li, hw⟩ | ⟨hz, hq⟩
    rotate_left
    · have HQ := Lib.hid hq
      have e1 : (cd == 0) = false := by simpa using hz
      clear HW hu hcd hz hq
      go_wp2_with fail
      go_ret
      exact HQ.out
    subst hz
    clear HW hu hcd
    have HW := Lib.hid hw
    have hkz := hw.keep
    have HKz := Lib.hid (show T.keep.length ≤ 4194320 by rw [hkz]; exact hk)
    clear hw hkz
    go_wp2_with fail
    refine (rSync_any p T Li _ f HKz.out HW.out.rk).mono ?_
    rintro e wz ⟨rfl, hu⟩
    obtain ⟨cd, hcd⟩ : ∃ x, x = T.syncC f := ⟨_, rfl⟩
    rw [← hcd]
    rcases HW.out.step (k := syR f) hu (sync_keep _ _) hcd with ⟨hz, T, Li, hw⟩ | ⟨hz, hq⟩
    rotate_left
    · have HQ := Lib.hid hq
      have e1 : (cd == 0) = false := by simpa using hz
      clear HW hu hcd hz hq
      go_wp2_with fail
      go_ret
      exact HQ.out
    subst hz
    clear HW hu hcd
    have HW := Lib.hid hw
    have hkz := hw.keep
    have HKz := Lib.hid (show T.keep.length ≤ 4194320 by rw [hkz]; exact hk)
    clear hw hkz
    go_wp2_with fail
    go_ret
    exact (FW.skip (k := endR f []) HW.out rfl).done
  · rw [show sideN [48] = 0 from rfl]
    have HW : Hid (FW p S L f l w [syR f, trR (f + 2), wrR (f + 2) t, syR (f + 2), wrR f [49], syR f, trR (f + 1)] T Li w2) := Lib.hid hW0
    clear hW0
    go_wp2_with fail
    refine (rSync_any p T Li _ f HKz.out HW.out.rk).mono ?_
    rintro e wz ⟨rfl, hu⟩
    obtain ⟨cd, hcd⟩ : ∃ x, x = T.syncC f := ⟨_, rfl⟩
    rw [← hcd]
    rcases HW.out.step (k := syR f) hu (sync_keep _ _) hcd with ⟨hz, T, Li, hw⟩ | ⟨hz, hq⟩
    rotate_left
    · have HQ := Lib.hid hq
      have e1 : (cd == 0) = false := by simpa using hz
      clear HW hu hcd hz hq
      go_wp2_with fail
      refine (rOther_0 _).mono ?_
      rintro e wx ⟨rfl, hw⟩
      obtain rfl := hw
      go_wp2_with fail
      go_ret
      exact HQ.out
    subst hz
    clear HW hu hcd
    have HW := Lib.hid hw
    have hkz := hw.keep
    have HKz := Lib.hid (show T.keep.length ≤ 4194320 by rw [hkz]; exact hk)
    clear hw hkz
    go_wp2_with fail
    refine (rOther_0 _).mono ?_
    rintro e wx ⟨rfl, hw⟩
    obtain rfl := hw
    go_wp2_with fail
    refine (rTrunc_any p T Li _ (f + 2) 0 (by unfold inI64; omega) HKz.out HW.out.rk).mono ?_
    rintro e wz ⟨rfl, hu⟩
    obtain ⟨cd, hcd⟩ : ∃ x, x = T.truncC (f + 2) 0 := ⟨_, rfl⟩
    rw [← hcd]
    rcases HW.out.step (k := trR (f + 2)) hu (trunc_keep _ _ _) hcd with ⟨hz, T, Li, hw⟩ | ⟨hz, hq⟩
    rotate_left
    · have HQ := Lib.hid hq
      have e1 : (cd == 0) = false := by simpa using hz
      clear HW hu hcd hz hq
      go_wp2_with fail
      go_ret
      exact HQ.out
    subst hz
    clear HW hu hcd
    have HW := Lib.hid hw
    have hkz := hw.keep
    have HKz := Lib.hid (show T.keep.length ≤ 4194320 by rw [hkz]; exact hk)
    clear hw hkz
    go_wp2_with fail
    have hrd := HR.out.upd HW.out.upd
    refine (rListS_any l A c _ hrd.rd HL.out HX.out (by omega)).mono ?_
    rintro e wx ⟨rfl, hb⟩
    rw [HT.out]
    have HW2 := Lib.hid (HW.out.on hb)
    clear hb hrd HW
    have HW := HW2
    clear HW2
    go_wp2_with fail
    refine (rWrite_any p T Li _ (f + 2) 0 (bs t) (by unfold inI64; omega) (by omega) HKz.out HW.out.rk).mono ?_
    rintro e wz ⟨rfl, hu⟩
    obtain ⟨cd, hcd⟩ : ∃ x, x = T.writeC (f + 2) 0 (bs t) := ⟨_, rfl⟩
    rw [← hcd]
    rcases HW.out.step (k := wrR (f + 2) t) hu (write_keep _ _ _ _) hcd with ⟨hz, T, Li, hw⟩ | ⟨hz, hq⟩
    rotate_left
    · have HQ := Lib.hid hq
      have e1 : (cd == 0) = false := by simpa using hz
      clear HW hu hcd hz hq
      go_wp2_with fail
      go_ret
      exact HQ.out
    subst hz
    clear HW hu hcd
    have HW := Lib.hid hw
    have hkz := hw.keep
    have HKz := Lib.hid (show T.keep.length ≤ 4194320 by rw [hkz]; exact hk)
    clear hw hkz
    go_wp2_with fail
    refine (rSync_any p T Li _ (f + 2) HKz.out HW.out.rk).mono ?_
    rintro e wz ⟨rfl, hu⟩
    obtain ⟨cd, hcd⟩ : ∃ x, x = T.syncC (f + 2) := ⟨_, rfl⟩
    rw [← hcd]
    rcases HW.out.step (k := syR (f + 2)) hu (sync_keep _ _) hcd with ⟨hz, T, Li, hw⟩ | ⟨hz, hq⟩
    rotate_left
    · have HQ := Lib.hid hq
      have e1 : (cd == 0) = false := by simpa using hz
      clear HW hu hcd hz hq
      go_wp2_with fail
      go_ret
      exact HQ.out
    subst hz
    clear HW hu hcd
    have HW := Lib.hid hw
    have hkz := hw.keep
    have HKz := Lib.hid (show T.keep.length ≤ 4194320 by rw [hkz]; exact hk)
    clear hw hkz
    go_wp2_with fail
    refine (rOther_0 _).mono ?_
    rintro e wx ⟨rfl, hw⟩
    obtain rfl := hw
    have HW2 := Lib.hid (HW.out.on ((Below.refl _ _).alloc (Nat.le_refl _) (.cells #[.string ⟨#[48]⟩, .string ⟨#[49]⟩] 9)))
    clear HW
    have HW := HW2
    clear HW2
    go_wp2_with fail
    refine (rWrite_any p T Li _ f 0 (bs [49]) (by unfold inI64; omega) (by decide) HKz.out HW.out.rk).mono ?_
    rintro e wz ⟨rfl, hu⟩
    obtain ⟨cd, hcd⟩ : ∃ x, x = T.writeC f 0 (bs [49]) := ⟨_, rfl⟩
    rw [← hcd]
    rcases HW.out.step (k := wrR f [49]) hu (write_keep _ _ _ _) hcd with ⟨hz, T, Li, hw⟩ | ⟨hz, hq⟩
    rotate_left
    · have HQ := Lib.hid hq
      have e1 : (cd == 0) = false := by simpa using hz
      clear HW hu hcd hz hq
      go_wp2_with fail
      go_ret
      exact HQ.out
    subst hz
    clear HW hu hcd
    have HW := Lib.hid hw
    have hkz := hw.keep
    have HKz := Lib.hid (show T.keep.length ≤ 4194320 by rw [hkz]; exact hk)
    clear hw hkz
    go_wp2_with fail
    refine (rSync_any p T Li _ f HKz.out HW.out.rk).mono ?_
    rintro e wz ⟨rfl, hu⟩
    obtain ⟨cd, hcd⟩ : ∃ x, x = T.syncC f := ⟨_, rfl⟩
    rw [← hcd]
    rcases HW.out.step (k := syR f) hu (sync_keep _ _) hcd with ⟨hz, T, Li, hw⟩ | ⟨hz, hq⟩
    rotate_left
    · have HQ := Lib.hid hq
      have e1 : (cd == 0) = false := by simpa using hz
      clear HW hu hcd hz hq
      go_wp2_with fail
      go_ret
      exact HQ.out
    subst hz
    clear HW hu hcd
    have HW := Lib.hid hw
    have hkz := hw.keep
    have HKz := Lib.hid (show T.keep.length ≤ 4194320 by rw [hkz]; exact hk)
    clear hw hkz
    go_wp2_with fail
    refine (rTrunc_any p T Li _ (f + 1) 0 (by unfold inI64; omega) HKz.out HW.out.rk).mono ?_
    rintro e wz ⟨rfl, hu⟩
    obtain ⟨cd, hcd⟩ : ∃ x, x = T.truncC (f + 1) 0 := ⟨_, rfl⟩
    rw [← hcd]
    rcases HW.out.step (k := trR (f + 1)) hu (trunc_keep _ _ _) hcd with ⟨hz, T, Li, hw⟩ | ⟨hz, hq⟩
    rotate_left
    · have HQ := Lib.hid hq
      have e1 : (cd == 0) = false := by simpa using hz
      clear HW hu hcd hz hq
      go_wp2_with fail
      go_ret
      exact HQ.out
    subst hz
    clear HW hu hcd
    have HW := Lib.hid hw
    have hkz := hw.keep
    have HKz := Lib.hid (show T.keep.length ≤ 4194320 by rw [hkz]; exact hk)
    clear hw hkz
    go_wp2_with fail
    go_ret
    exact HW.out.done
  · rw [show sideN [49] = 1 from rfl]
    have HW : Hid (FW p S L f l w [syR f, trR (f + 1), wrR (f + 1) t, syR (f + 1), wrR f [48], syR f, trR (f + 2)] T Li w2) := Lib.hid hW0
    clear hW0
    go_wp2_with fail
    refine (rSync_any p T Li _ f HKz.out HW.out.rk).mono ?_
    rintro e wz ⟨rfl, hu⟩
    obtain ⟨cd, hcd⟩ : ∃ x, x = T.syncC f := ⟨_, rfl⟩
    rw [← hcd]
    rcases HW.out.step (k := syR f) hu (sync_keep _ _) hcd with ⟨hz, T, Li, hw⟩ | ⟨hz, hq⟩
    rotate_left
    · have HQ := Lib.hid hq
      have e1 : (cd == 0) = false := by simpa using hz
      clear HW hu hcd hz hq
      go_wp2_with fail
      refine (rOther_1 _).mono ?_
      rintro e wx ⟨rfl, hw⟩
      obtain rfl := hw
      go_wp2_with fail
      go_ret
      exact HQ.out
    subst hz
    clear HW hu hcd
    have HW := Lib.hid hw
    have hkz := hw.keep
    have HKz := Lib.hid (show T.keep.length ≤ 4194320 by rw [hkz]; exact hk)
    clear hw hkz
    go_wp2_with fail
    refine (rOther_1 _).mono ?_
    rintro e wx ⟨rfl, hw⟩
    obtain rfl := hw
    go_wp2_with fail
    refine (rTrunc_any p T Li _ (f + 1) 0 (by unfold inI64; omega) HKz.out HW.out.rk).mono ?_
    rintro e wz ⟨rfl, hu⟩
    obtain ⟨cd, hcd⟩ : ∃ x, x = T.truncC (f + 1) 0 := ⟨_, rfl⟩
    rw [← hcd]
    rcases HW.out.step (k := trR (f + 1)) hu (trunc_keep _ _ _) hcd with ⟨hz, T, Li, hw⟩ | ⟨hz, hq⟩
    rotate_left
    · have HQ := Lib.hid hq
      have e1 : (cd == 0) = false := by simpa using hz
      clear HW hu hcd hz hq
      go_wp2_with fail
      go_ret
      exact HQ.out
    subst hz
    clear HW hu hcd
    have HW := Lib.hid hw
    have hkz := hw.keep
    have HKz := Lib.hid (show T.keep.length ≤ 4194320 by rw [hkz]; exact hk)
    clear hw hkz
    go_wp2_with fail
    have hrd := HR.out.upd HW.out.upd
    refine (rListS_any l A c _ hrd.rd HL.out HX.out (by omega)).mono ?_
    rintro e wx ⟨rfl, hb⟩
    rw [HT.out]
    have HW2 := Lib.hid (HW.out.on hb)
    clear hb hrd HW
    have HW := HW2
    clear HW2
    go_wp2_with fail
    refine (rWrite_any p T Li _ (f + 1) 0 (bs t) (by unfold inI64; omega) (by omega) HKz.out HW.out.rk).mono ?_
    rintro e wz ⟨rfl, hu⟩
    obtain ⟨cd, hcd⟩ : ∃ x, x = T.writeC (f + 1) 0 (bs t) := ⟨_, rfl⟩
    rw [← hcd]
    rcases HW.out.step (k := wrR (f + 1) t) hu (write_keep _ _ _ _) hcd with ⟨hz, T, Li, hw⟩ | ⟨hz, hq⟩
    rotate_left
    · have HQ := Lib.hid hq
      have e1 : (cd == 0) = false := by simpa using hz
      clear HW hu hcd hz hq
      go_wp2_with fail
      go_ret
      exact HQ.out
    subst hz
    clear HW hu hcd
    have HW := Lib.hid hw
    have hkz := hw.keep
    have HKz := Lib.hid (show T.keep.length ≤ 4194320 by rw [hkz]; exact hk)
    clear hw hkz
    go_wp2_with fail
    refine (rSync_any p T Li _ (f + 1) HKz.out HW.out.rk).mono ?_
    rintro e wz ⟨rfl, hu⟩
    obtain ⟨cd, hcd⟩ : ∃ x, x = T.syncC (f + 1) := ⟨_, rfl⟩
    rw [← hcd]
    rcases HW.out.step (k := syR (f + 1)) hu (sync_keep _ _) hcd with ⟨hz, T, Li, hw⟩ | ⟨hz, hq⟩
    rotate_left
    · have HQ := Lib.hid hq
      have e1 : (cd == 0) = false := by simpa using hz
      clear HW hu hcd hz hq
      go_wp2_with fail
      go_ret
      exact HQ.out
    subst hz
    clear HW hu hcd
    have HW := Lib.hid hw
    have hkz := hw.keep
    have HKz := Lib.hid (show T.keep.length ≤ 4194320 by rw [hkz]; exact hk)
    clear hw hkz
    go_wp2_with fail
    refine (rOther_1 _).mono ?_
    rintro e wx ⟨rfl, hw⟩
    obtain rfl := hw
    have HW2 := Lib.hid (HW.out.on ((Below.refl _ _).alloc (Nat.le_refl _) (.cells #[.string ⟨#[48]⟩, .string ⟨#[49]⟩] 9)))
    clear HW
    have HW := HW2
    clear HW2
    go_wp2_with fail
    refine (rWrite_any p T Li _ f 0 (bs [48]) (by unfold inI64; omega) (by decide) HKz.out HW.out.rk).mono ?_
    rintro e wz ⟨rfl, hu⟩
    obtain ⟨cd, hcd⟩ : ∃ x, x = T.writeC f 0 (bs [48]) := ⟨_, rfl⟩
    rw [← hcd]
    rcases HW.out.step (k := wrR f [48]) hu (write_keep _ _ _ _) hcd with ⟨hz, T, Li, hw⟩ | ⟨hz, hq⟩
    rotate_left
    · have HQ := Lib.hid hq
      have e1 : (cd == 0) = false := by simpa using hz
      clear HW hu hcd hz hq
      go_wp2_with fail
      go_ret
      exact HQ.out
    subst hz
    clear HW hu hcd
    have HW := Lib.hid hw
    have hkz := hw.keep
    have HKz := Lib.hid (show T.keep.length ≤ 4194320 by rw [hkz]; exact hk)
    clear hw hkz
    go_wp2_with fail
    refine (rSync_any p T Li _ f HKz.out HW.out.rk).mono ?_
    rintro e wz ⟨rfl, hu⟩
    obtain ⟨cd, hcd⟩ : ∃ x, x = T.syncC f := ⟨_, rfl⟩
    rw [← hcd]
    rcases HW.out.step (k := syR f) hu (sync_keep _ _) hcd with ⟨hz, T, Li, hw⟩ | ⟨hz, hq⟩
    rotate_left
    · have HQ := Lib.hid hq
      have e1 : (cd == 0) = false := by simpa using hz
      clear HW hu hcd hz hq
      go_wp2_with fail
      go_ret
      exact HQ.out
    subst hz
    clear HW hu hcd
    have HW := Lib.hid hw
    have hkz := hw.keep
    have HKz := Lib.hid (show T.keep.length ≤ 4194320 by rw [hkz]; exact hk)
    clear hw hkz
    go_wp2_with fail
    refine (rTrunc_any p T Li _ (f + 2) 0 (by unfold inI64; omega) HKz.out HW.out.rk).mono ?_
    rintro e wz ⟨rfl, hu⟩
    obtain ⟨cd, hcd⟩ : ∃ x, x = T.truncC (f + 2) 0 := ⟨_, rfl⟩
    rw [← hcd]
    rcases HW.out.step (k := trR (f + 2)) hu (trunc_keep _ _ _) hcd with ⟨hz, T, Li, hw⟩ | ⟨hz, hq⟩
    rotate_left
    · have HQ := Lib.hid hq
      have e1 : (cd == 0) = false := by simpa using hz
      clear HW hu hcd hz hq
      go_wp2_with fail
      go_ret
      exact HQ.out
    subst hz
    clear HW hu hcd
    have HW := Lib.hid hw
    have hkz := hw.keep
    have HKz := Lib.hid (show T.keep.length ≤ 4194320 by rw [hkz]; exact hk)
    clear hw hkz
    go_wp2_with fail
    go_ret
    exact HW.out.done
end Go.Proofs.YtjmkodkechahdaaGreatDoor
/- Contract of linguaref43.Recover. -/
set_option linter.unusedSimpArgs false
set_option linter.unusedVariables false
namespace Go.Proofs.YtjmkodkechahdaaGreatDoor
open Go.RowKit
set_option maxRecDepth 100000

def FRecPost (p : Nat) (S : DS) (L : RL) (f : Int) (w : World) (e : Ending) (w' : World) : Prop :=
  ∃ L' A c, e = .returned (.tuple #[.slice A (recL S f).length c, .int .i64 (recC S f)]) ∧ OUpd (fOb p S L) ((fOb p (recS S f) L').sep (slOb A c (recL S f))) w w'
theorem rec_bad {p : Nat} {S T : DS} {L L2 : RL} {f cd : Int} {w w' : World} (hc : recC S f = cd) (hz : cd ≠ 0) (hs : recS S f = T) (u : OUpd (fOb p S L) (fOb p T L2) w w') : FRecPost p S L f w (.returned (.tuple #[.slice none 0 0, .int .i64 cd])) w' := by
  have hl : recL S f = [] := by unfold recL; rw [if_neg (by rw [hc]; exact hz)]
  exact ⟨L2, none, 0, by rw [hl, hc]; rfl, by rw [hl, hs]; exact slOb_nil u⟩
/-- What is known when the pointer has been read, and Sync of the file, if there is a side, went well. -/
structure FR (p : Nat) (S : DS) (L : RL) (f : Int) (sd : List UInt8) (w : World) (T : DS) (Li : RL) (wi : World) : Prop where
  c : recC S f = if readE T f sd ≠ 0 then readE T f sd else (trR (othF f sd) T).1
  s : recS S f = if readE T f sd ≠ 0 then T else (trR (othF f sd) T).2
  l : recL S f = if recC S f = 0 then listE T f sd else []
  keep : T.keep = S.keep
  upd : OUpd (fOb p S L) (fOb p T Li) w wi
section
variable {p : Nat} {S T : DS} {L Li : RL} {f : Int} {sd : List UInt8} {w wi w' : World}
theorem FR.rk (h : FR p S L f sd w T Li wi) : RK wi p T Li := h.upd.ok
theorem FR.on (h : FR p S L f sd w T Li wi) (hb : Below wi.heap.size wi w') : FR p S L f sd w T Li w' := ⟨h.c, h.s, h.l, h.keep, h.upd.below hb⟩
theorem FR.start (hop : openE S f = 0) (hsd : sideE S f = sd) (hz : (setR f sd S).1 = 0) (u : OUpd (fOb p S L) (fOb p (setR f sd S).2 Li) w wi) : FR p S L f sd w (setR f sd S).2 Li wi :=
  ⟨by unfold recC; rw [hop, if_neg (by decide), hsd, if_neg (by simpa using hz)], by unfold recS; rw [hop, if_neg (by decide), hsd, if_neg (by simpa using hz)], by unfold recL; rw [hsd], setR_keep _ _ _, u⟩
theorem FR.bad (h : FR p S L f sd w T Li wi) {cd : Int} (hc : readE T f sd = cd) (hz : cd ≠ 0) : FRecPost p S L f w (.returned (.tuple #[.slice none 0 0, .int .i64 cd])) wi :=
  rec_bad (by rw [h.c, hc, if_pos hz]) hz (by rw [h.s, hc, if_pos hz]) h.upd
/-- Truncate at the end, with the list A beside. -/
theorem FR.last (h : FR p S L f sd w T Li wi) (hr : readE T f sd = 0) {A : Option Addr} {c : Nat} (hb : Below wi.heap.size wi w') (ho : OwnL w' wi.heap.size 9 1 strE A c (listE T f sd)) {w'' : World} {cd : Int} (hc : cd = T.truncC (othF f sd) 0) (u : RUpd p (T.trunc (othF f sd) 0) Li w' w'') :
    (cd = 0 ∧ FRecPost p S L f w (.returned (.tuple #[.slice A (listE T f sd).length c, .int .i64 0])) w'') ∨ (cd ≠ 0 ∧ FRecPost p S L f w (.returned (.tuple #[.slice none 0 0, .int .i64 cd])) w'') := by
  obtain ⟨L', u2⟩ := u.fob (S := T)
  have hm := OUpd.more (a := fOb p T Li) h.rk hb (c := slOb A c (listE T f sd)) (ho.mono (Nat.zero_le _)) (fun i hi => (ho.blk_lt hi).1) (fun i hi => hi.elim)
  have h3 := (h.upd.trans hm).trans (OUpd.left (h.upd.trans hm).ok u2)
  have hC : recC S f = cd := by rw [h.c, hr, if_neg (by simp), hc]; rfl
  have hS : recS S f = T.trunc (othF f sd) 0 := by rw [h.s, hr, if_neg (by simp)]; rfl
  by_cases hz : cd = 0
  · have hL : recL S f = listE T f sd := by rw [h.l, hC, if_pos hz]
    exact .inl ⟨hz, L', A, c, by rw [hL, hC, hz], by rw [hL, hS]; exact h3⟩
  · exact .inr ⟨hz, rec_bad hC hz hS h3.forget⟩
end
-- frEnd : the answer of the last call
-- frSide sd | now | oth | other
set_option maxHeartbeats 4000000 in
theorem rRec43_any (p : Nat) (S : DS) (L : RL) (f : Int) (w : World) (hf : inI64 f) (hk : S.keep.length ≤ 4194320) (hd : RK w p S L) :
    Calls Tryz.prog 31 #[.pointer (some ⟨p, 0, none⟩), .int .i64 f] w (FRecPost p S L f w) := by
  have HD := Lib.hid hd
  clear hd
  go_enter Tryz.func31, Tryz.ntmps31
  by_cases g1 : f < 0 ∨ 13 < f
  · have hop : openE S f = 1 := by unfold openE; rw [if_pos g1]
    have HQ := Lib.hid (rec_bad (p := p) (S := S) (L := L) (f := f) (w := w) (cd := 1) (by unfold recC; rw [hop, if_pos (by decide)]) (by decide) (by unfold recS; rw [hop, if_pos (by decide)]) (OUpd.refl (a := fOb p S L) HD.out))
    clear hop
    by_cases g2 : f < 0
    · have d1 : decide (f < 0) = true := by simpa using g2
      clear g1 g2
      go_wp2_with fail
      go_ret2
      exact HQ.out
    · have d1 : decide (f < 0) = false := by simpa using g2
      have d2 : decide (13 < f) = true := by simp; omega
      clear g1 g2
      go_wp2_with fail
      go_ret2
      exact HQ.out
  have hf13 : 0 ≤ f ∧ f ≤ 13 := by omega
  have d1 : decide (f < 0) = false := by simp; omega
  have d2 : decide (13 < f) = false := by simp; omega
  have HF := Lib.hid hf13
  clear g1
  go_wp2_with fail
  refine (rPtr_any p S L f w HF.out HD.out).mono ?_
  rintro e w2 ⟨n, rfl, hp, hb2⟩
  have HU2 := Lib.hid (OUpd.of_below (a := fOb p S L) HD.out hb2)
  clear hb2
  by_cases hc : openE S f = 0
  rotate_left
  · have HQ := Lib.hid (rec_bad (p := p) (S := S) (L := L) (f := f) (w := w) (cd := openE S f) (by unfold recC; rw [if_pos hc]) hc (by unfold recS; rw [if_pos hc]) HU2.out)
    have d5 : (openE S f != 0) = true := by simpa using hc
    generalize openE S f = oc at *
    clear hc hp
    go_wp2_with fail
    go_ret2
    exact HQ.out
  obtain ⟨rfl, hpo⟩ := hp hc
  rw [hc]
  have HOp := Lib.hid hc
  obtain ⟨sd, hsd⟩ : ∃ sd, sd = sideE S f := ⟨_, rfl⟩
  rw [← hsd] at hpo ⊢
  have HSd := Lib.hid hsd.symm
  have w1 : IntKind.i64.wrap (f + 1) = f + 1 := by rw [IntKind.wrap_i64]; omega
  have w2' : IntKind.i64.wrap (f + 2) = f + 2 := by rw [IntKind.wrap_i64]; omega
  have w3 : IntKind.i64.wrap (f + 1 + 1) = f + 2 := by rw [IntKind.wrap_i64]; omega
  have w5 : IntKind.i64.wrap (f + 1 + 0) = f + 1 := by rw [IntKind.wrap_i64]; omega
  clear hc hsd
  rcases hpo with rfl | rfl | rfl
  · rw [show sideN [] = -1 from rfl]
    have hR := FR.start (p := p) (L := L) (w := w) HOp.out HSd.out (show (setR f [] S).1 = 0 from rfl) HU2.out
    have HR : Hid (FR p S L f [] w S L w2) := Lib.hid hR
    have HRz : Hid (readE S f [] = 0) := Lib.hid rfl
    have HBz := Lib.hid (Below.refl w2.heap.size w2)
    have HOz : Hid (OwnL w2 w2.heap.size 9 1 strE none 0 (listE S f [])) := Lib.hid OwnL.nil_
    clear hR HU2
    go_wp2_with fail
    refine (rOther_m _).mono ?_
    rintro e wq ⟨rfl, hw⟩
    obtain rfl := hw
    go_wp2_with fail
    refine (rTrunc_any p S L _ (f + 1) 0 (by unfold inI64; omega) hk HR.out.rk).mono ?_
    rintro e wz ⟨rfl, hu⟩
    obtain ⟨cd, hcd⟩ : ∃ x, x = S.truncC (f + 1) 0 := ⟨_, rfl⟩
    rw [← hcd]
    rcases HR.out.last HRz.out HBz.out HOz.out hcd hu with ⟨hz, hq⟩ | ⟨hz, hq⟩
    · subst hz
      have HQ := Lib.hid hq
      clear hu hcd hq
      go_wp2_with fail
      go_ret2
      exact HQ.out
    · have HQ := Lib.hid hq
      have e1 : (cd != 0) = true := by simpa using hz
      clear hu hcd hz hq
      go_wp2_with fail
      go_ret2
      exact HQ.out
  · rw [show sideN [48] = 0 from rfl]
    go_wp2_with fail
    refine (rSync_any p S L _ f hk HU2.out.ok).mono ?_
    rintro e wz ⟨rfl, hu⟩
    have hs0 : setR f [48] S = syR f S := by unfold setR; rw [if_neg (by decide)]
    have hs1 : (setR f [48] S).1 = S.syncC f := by rw [hs0]; rfl
    have hs2 : (setR f [48] S).2 = S.sync f := by rw [hs0]; rfl
    rw [← hs2] at hu
    obtain ⟨L1, hu1⟩ := hu.fob (S := S)
    obtain ⟨cd, hcd⟩ : ∃ x, x = S.syncC f := ⟨_, rfl⟩
    rw [← hcd]
    by_cases hz : cd = 0
    rotate_left
    · have HQ := Lib.hid (rec_bad (p := p) (S := S) (L := L) (f := f) (w := w) (cd := cd) (by unfold recC; rw [HOp.out, if_neg (by decide), HSd.out, if_pos (show (setR f [48] S).1 ≠ 0 from fun e => hz (hcd.trans (hs1.symm.trans e)))]; exact hcd.symm) hz (by unfold recS; rw [HOp.out, if_neg (by decide), HSd.out, if_pos (show (setR f [48] S).1 ≠ 0 from fun e => hz (hcd.trans (hs1.symm.trans e)))]) (HU2.out.trans hu1))
      have e1 : (cd != 0) = true := by simpa using hz
      clear hu hu1 hcd hz hs0 hs1 hs2
      go_wp2_with fail
      go_ret2
      exact HQ.out
    have hR := FR.start (p := p) (L := L) (w := w) HOp.out HSd.out (show (setR f [48] S).1 = 0 from hs1.trans (hcd.symm.trans hz)) (HU2.out.trans hu1)
    subst hz
    obtain ⟨T, hT⟩ : ∃ T, T = (setR f [48] S).2 := ⟨_, rfl⟩
    rw [← hT] at hR
    have HR := Lib.hid hR
    have hkT : T.keep.length ≤ 4194320 := by rw [hR.keep]; exact hk
    clear hu hu1 hcd hR hT HU2 hs0 hs1 hs2
    go_wp2_with fail
    refine (rSize_any p T L1 wz (f + 1) HR.out.rk).mono ?_
    rintro e wy ⟨rfl, hb⟩
    have HR2 := Lib.hid (HR.out.on hb)
    have HSz := Lib.hid (HR.out.rk.wf.now (f + 1))
    clear HR hb
    have HR := HR2
    clear HR2
    go_wp2_with fail
    refine (rRead_any p T L1 wy (f + 1) 0 (T.files (f + 1)).1.size HR.out.rk (by unfold inI64; omega) (by have := HSz.out; unfold inI64; omega)).mono ?_
    rintro e wx ⟨rfl, hb⟩
    have HR2 := Lib.hid (HR.out.on hb)
    have hfl : (fileE T (f + 1)).length ≤ 16777216 := file_short HR.out.rk.wf _
    rw [show T.readC (f + 1) 0 (T.files (f + 1)).1.size = fileC T (f + 1) from rfl, show T.readS (f + 1) 0 (T.files (f + 1)).1.size = bs (fileE T (f + 1)) from (bs_eta _).symm]
    have HE : Hid (readE T f [48] = (if fileC T (f + 1) = 0 ∧ rDone (parseE (fileE T (f + 1))).2 = false then 22 else fileC T (f + 1)) ∧ listE T f [48] = (parseE (fileE T (f + 1))).1) := Lib.hid ⟨rfl, rfl⟩
    clear HR hb HSz
    have HR := HR2
    clear HR2
    generalize (T.files (f + 1)).1.size = fz at *
    generalize fileC T (f + 1) = fc at *
    generalize fileE T (f + 1) = ft at *
    by_cases hz : fc = 0
    rotate_left
    · have HQ := Lib.hid (HR.out.bad (by rw [HE.out.1, if_neg (fun e => hz e.1)]) hz)
      have e1 : (fc != 0) = true := by simpa using hz
      clear hz HE
      go_wp2_with fail
      go_ret2
      exact HQ.out
    subst hz
    go_wp2_with fail
    refine (qOpen_any ft wx).mono ?_
    rintro e wo ⟨rfl, hq, hb⟩
    have hlt := hq.lt
    have HBo := Lib.hid hb
    have HQo := Lib.hid hq
    clear hb hq
    obtain ⟨b, hbx⟩ : ∃ b, b = wx.heap.size := ⟨_, rfl⟩
    rw [← hbx] at HQo hlt ⊢
    have HBx := Lib.hid hbx
    have HLt := Lib.hid hlt
    clear hbx hlt
    go_wp2_with fail
    have hgd : Good ⟨ft, false⟩ := by intro h; cases h
    have hfl2 : (RS.mk ft false).rest.length ≤ 1000000000000 := Nat.le_trans hfl (by decide)
    refine (qTexts_any b ⟨ft, false⟩ wo hgd HQo.out hfl2).mono ?_
    rintro e wt ⟨A, c, rfl, ho, hq, ht⟩
    rw [show rItems rText ⟨ft, false⟩ = parseE ft from rfl] at ho hq ⊢
    have HBz : Hid (Below wx.heap.size wx wt) := Lib.hid (HBo.out.trans (turn_below ht HBo.out.size (by have := HBx.out; omega)))
    have HOz0 := Lib.hid (ho.mono HBo.out.size)
    have HQt := Lib.hid hq
    clear ho hq ht HQo HBo HLt
    generalize parseE ft = pp at *
    obtain ⟨pl, pr⟩ := pp
    have HE1 : Hid (readE T f [48] = if True ∧ rDone pr = false then 22 else 0) := Lib.hid HE.out.1
    have HE2 : Hid (listE T f [48] = pl) := Lib.hid HE.out.2
    have HOz1 : Hid (OwnL wt wx.heap.size 9 1 strE A c pl) := Lib.hid HOz0.out
    have HQt1 : Hid (RqAt b pr wt) := Lib.hid HQt.out
    clear HE HOz0 HQt
    simp only
    go_wp2_with fail
    refine (qDone_any b pr wt HQt1.out).mono ?_
    rintro e wq ⟨rfl, hw⟩
    obtain rfl := hw
    cases hdn : rDone pr with
    | false =>
      have HQ := Lib.hid ((HR.out.on HBz.out).bad (cd := 22) (by rw [HE1.out, if_pos ⟨trivial, hdn⟩]) (by decide))
      clear hdn HE1
      go_wp2_with fail
      go_ret2
      exact HQ.out
    | true =>
      have HRz : Hid (readE T f [48] = 0) := Lib.hid (by rw [HE1.out, if_neg (fun e => by rw [hdn] at e; cases e.2)])
      have HOz : Hid (OwnL wt wx.heap.size 9 1 strE A c (listE T f [48])) := Lib.hid (by rw [HE2.out]; exact HOz1.out)
      have HLz : Hid (pl = listE T f [48]) := Lib.hid HE2.out.symm
      clear hdn HE1 HE2 HOz1
      obtain rfl := HLz.out
      clear HLz
      go_wp2_with fail
      refine (rOther_0 _).mono ?_
      rintro e wq ⟨rfl, hw⟩
      obtain rfl := hw
      go_wp2_with fail
      refine (rTrunc_any p T L1 _ (f + 2) 0 (by unfold inI64; omega) hkT (Ob.below (a := fOb p T L1) HR.out.rk HBz.out)).mono ?_
      rintro e wz ⟨rfl, hu⟩
      obtain ⟨cd, hcd⟩ : ∃ x, x = T.truncC (f + 2) 0 := ⟨_, rfl⟩
      rw [← hcd]
      rcases HR.out.last HRz.out HBz.out HOz.out hcd hu with ⟨hz, hq⟩ | ⟨hz, hq⟩
      · subst hz
        have HQ := Lib.hid hq
        clear hu hcd hq
        go_wp2_with fail
        go_ret2
        exact HQ.out
      · have HQ := Lib.hid hq
        have e1 : (cd != 0) = true := by simpa using hz
        clear hu hcd hz hq
        go_wp2_with fail
        go_ret2
        exact HQ.out
  · rw [show sideN [49] = 1 from rfl]
    go_wp2_with fail
    refine (rSync_any p S L _ f hk HU2.out.ok).mono ?_
    rintro e wz ⟨rfl, hu⟩
    have hs0 : setR f [49] S = syR f S := by unfold setR; rw [if_neg (by decide)]
    have hs1 : (setR f [49] S).1 = S.syncC f := by rw [hs0]; rfl
    have hs2 : (setR f [49] S).2 = S.sync f := by rw [hs0]; rfl
    rw [← hs2] at hu
    obtain ⟨L1, hu1⟩ := hu.fob (S := S)
    obtain ⟨cd, hcd⟩ : ∃ x, x = S.syncC f := ⟨_, rfl⟩
    rw [← hcd]
    by_cases hz : cd = 0
    rotate_left
    · have HQ := Lib.hid (rec_bad (p := p) (S := S) (L := L) (f := f) (w := w) (cd := cd) (by unfold recC; rw [HOp.out, if_neg (by decide), HSd.out, if_pos (show (setR f [49] S).1 ≠ 0 from fun e => hz (hcd.trans (hs1.symm.trans e)))]; exact hcd.symm) hz (by unfold recS; rw [HOp.out, if_neg (by decide), HSd.out, if_pos (show (setR f [49] S).1 ≠ 0 from fun e => hz (hcd.trans (hs1.symm.trans e)))]) (HU2.out.trans hu1))
      have e1 : (cd != 0) = true := by simpa using hz
      clear hu hu1 hcd hz hs0 hs1 hs2
      go_wp2_with fail
      go_ret2
      exact HQ.out
    have hR := FR.start (p := p) (L := L) (w := w) HOp.out HSd.out (show (setR f [49] S).1 = 0 from hs1.trans (hcd.symm.trans hz)) (HU2.out.trans hu1)
    subst hz
    obtain ⟨T, hT⟩ : ∃ T, T = (setR f [49] S).2 := ⟨_, rfl⟩
    rw [← hT] at hR
    have HR := Lib.hid hR
    have hkT : T.keep.length ≤ 4194320 := by rw [hR.keep]; exact hk
    clear hu hu1 hcd hR hT HU2 hs0 hs1 hs2
    go_wp2_with fail
    refine (rSize_any p T L1 wz (f + 2) HR.out.rk).mono ?_
    rintro e wy ⟨rfl, hb⟩
    have HR2 := Lib.hid (HR.out.on hb)
    have HSz := Lib.hid (HR.out.rk.wf.now (f + 2))
    clear HR hb
    have HR := HR2
    clear HR2
    go_wp2_with fail
    refine (rRead_any p T L1 wy (f + 2) 0 (T.files (f + 2)).1.size HR.out.rk (by unfold inI64; omega) (by have := HSz.out; unfold inI64; omega)).mono ?_
    rintro e wx ⟨rfl, hb⟩
    have HR2 := Lib.hid (HR.out.on hb)
    have hfl : (fileE T (f + 2)).length ≤ 16777216 := file_short HR.out.rk.wf _
    rw [show T.readC (f + 2) 0 (T.files (f + 2)).1.size = fileC T (f + 2) from rfl, show T.readS (f + 2) 0 (T.files (f + 2)).1.size = bs (fileE T (f + 2)) from (bs_eta _).symm]
    have HE : Hid (readE T f [49] = (if fileC T (f + 2) = 0 ∧ rDone (parseE (fileE T (f + 2))).2 = false then 22 else fileC T (f + 2)) ∧ listE T f [49] = (parseE (fileE T (f + 2))).1) := Lib.hid ⟨rfl, rfl⟩
    clear HR hb HSz
    have HR := HR2
    clear HR2
    generalize (T.files (f + 2)).1.size = fz at *
    generalize fileC T (f + 2) = fc at *
    generalize fileE T (f + 2) = ft at *
    by_cases hz : fc = 0
    rotate_left
    · have HQ := Lib.hid (HR.out.bad (by rw [HE.out.1, if_neg (fun e => hz e.1)]) hz)
      have e1 : (fc != 0) = true := by simpa using hz
      clear hz HE
      go_wp2_with fail
      go_ret2
      exact HQ.out
    subst hz
    go_wp2_with fail
    refine (qOpen_any ft wx).mono ?_
    rintro e wo ⟨rfl, hq, hb⟩
    have hlt := hq.lt
    have HBo := Lib.hid hb
    have HQo := Lib.hid hq
    clear hb hq
    obtain ⟨b, hbx⟩ : ∃ b, b = wx.heap.size := ⟨_, rfl⟩
    rw [← hbx] at HQo hlt ⊢
    have HBx := Lib.hid hbx
    have HLt := Lib.hid hlt
    clear hbx hlt
    go_wp2_with fail
    have hgd : Good ⟨ft, false⟩ := by intro h; cases h
    have hfl2 : (RS.mk ft false).rest.length ≤ 1000000000000 := Nat.le_trans hfl (by decide)
    refine (qTexts_any b ⟨ft, false⟩ wo hgd HQo.out hfl2).mono ?_
    rintro e wt ⟨A, c, rfl, ho, hq, ht⟩
    rw [show rItems rText ⟨ft, false⟩ = parseE ft from rfl] at ho hq ⊢
    have HBz : Hid (Below wx.heap.size wx wt) := Lib.hid (HBo.out.trans (turn_below ht HBo.out.size (by have := HBx.out; omega)))
    have HOz0 := Lib.hid (ho.mono HBo.out.size)
    have HQt := Lib.hid hq
    clear ho hq ht HQo HBo HLt
    generalize parseE ft = pp at *
    obtain ⟨pl, pr⟩ := pp
    have HE1 : Hid (readE T f [49] = if True ∧ rDone pr = false then 22 else 0) := Lib.hid HE.out.1
    have HE2 : Hid (listE T f [49] = pl) := Lib.hid HE.out.2
    have HOz1 : Hid (OwnL wt wx.heap.size 9 1 strE A c pl) := Lib.hid HOz0.out
    have HQt1 : Hid (RqAt b pr wt) := Lib.hid HQt.out
    clear HE HOz0 HQt
    simp only
    go_wp2_with fail
    refine (qDone_any b pr wt HQt1.out).mono ?_
    rintro e wq ⟨rfl, hw⟩
    obtain rfl := hw
    cases hdn : rDone pr with
    | false =>
      have HQ := Lib.hid ((HR.out.on HBz.out).bad (cd := 22) (by rw [HE1.out, if_pos ⟨trivial, hdn⟩]) (by decide))
      clear hdn HE1
      go_wp2_with fail
      go_ret2
      exact HQ.out
    | true =>
      have HRz : Hid (readE T f [49] = 0) := Lib.hid (by rw [HE1.out, if_neg (fun e => by rw [hdn] at e; cases e.2)])
      have HOz : Hid (OwnL wt wx.heap.size 9 1 strE A c (listE T f [49])) := Lib.hid (by rw [HE2.out]; exact HOz1.out)
      have HLz : Hid (pl = listE T f [49]) := Lib.hid HE2.out.symm
      clear hdn HE1 HE2 HOz1
      obtain rfl := HLz.out
      clear HLz
      go_wp2_with fail
      refine (rOther_1 _).mono ?_
      rintro e wq ⟨rfl, hw⟩
      obtain rfl := hw
      go_wp2_with fail
      refine (rTrunc_any p T L1 _ (f + 1) 0 (by unfold inI64; omega) hkT (Ob.below (a := fOb p T L1) HR.out.rk HBz.out)).mono ?_
      rintro e wz ⟨rfl, hu⟩
      obtain ⟨cd, hcd⟩ : ∃ x, x = T.truncC (f + 1) 0 := ⟨_, rfl⟩
      rw [← hcd]
      rcases HR.out.last HRz.out HBz.out HOz.out hcd hu with ⟨hz, hq⟩ | ⟨hz, hq⟩
      · subst hz
        have HQ := Lib.hid hq
        clear hu hcd hq
        go_wp2_with fail
        go_ret2
        exact HQ.out
      · have HQ := Lib.hid hq
        have e1 : (cd != 0) = true := by simpa using hz
        clear hu hcd hz hq
        go_wp2_with fail
        go_ret2
        exact HQ.out
end Go.Proofs.YtjmkodkechahdaaGreatDoor
/- The walk of EraseRefuses. -/
set_option linter.unusedSimpArgs false
set_option linter.unusedVariables false
namespace Go.Proofs.YtjmkodkechahdaaGreatDoor
open Go.RowKit
set_option maxRecDepth 100000

theorem open_code {S : DS} {f : Int} (hf : f < 0 ∨ 13 < f) : openE S f = 1 := by unfold openE; rw [if_pos hf]
theorem rew_far {S : DS} {f : Int} {l : List (List UInt8)} (hf : f < 0 ∨ 13 < f) : rewE S f l = (1, S) := by unfold rewE; rw [if_pos hf]
theorem rec_far {S : DS} {f : Int} (hf : f < 0 ∨ 13 < f) : recC S f = 1 ∧ recS S f = S ∧ recL S f = [] := by
  have h := open_code (S := S) hf
  have h1 : recC S f = 1 := by unfold recC; rw [h, if_pos (by decide)]
  exact ⟨h1, by unfold recS; rw [h, if_pos (by decide)], by unfold recL; rw [if_neg (by rw [h1]; decide)]⟩
theorem rec_open {S : DS} {f : Int} {e : Int} (h : openE S f = e) (he : e ≠ 0) : recC S f = e ∧ recS S f = S ∧ recL S f = [] := by
  have h1 : recC S f = e := by unfold recC; rw [h, if_pos he]
  exact ⟨h1, by unfold recS; rw [h, if_pos he], by unfold recL; rw [if_neg (by rw [h1]; exact he)]⟩
theorem rew_open {S : DS} {f : Int} {l : List (List UInt8)} {e : Int} (hf : 0 ≤ f ∧ f ≤ 13) (hfit : fitsE l = true) (h : openE S f = e) (he : e ≠ 0) : rewE S f l = (e, S) := by
  unfold rewE
  rw [if_neg (by omega), hfit, if_neg (by decide), h, if_pos he]
theorem open_down {S : DS} {f : Int} (hf : 0 ≤ f ∧ f ≤ 13) (hd : S.down = true) : openE S f = 8 := by
  unfold openE
  rw [if_neg (by omega)]
  have : S.readC f 0 1 = 8 := by
    unfold DS.readC DS.may
    rw [if_pos hd]
    rfl
  rw [this]
  rfl
/-- A disk that is up, with a list in a file, and records that do not fit. -/
theorem rew_unfit {S : DS} {f : Int} {l : List (List UInt8)} (hf : 0 ≤ f ∧ f ≤ 13) (h : fitsE l = false) : rewE S f l = (6, S) := by
  unfold rewE
  rw [if_neg (by omega), if_pos h]
theorem fits_one (n : Nat) (hn : n ≤ 20002) : fitsE [List.replicate n 0] = decide (n ≤ 20000) := by
  have h1 : (textsL [List.replicate n 0]).length ≤ 1048576 := by
    have h3 := encT_len (List.replicate n (0 : UInt8)) ⟨by rw [List.length_replicate]; omega, by rw [List.length_replicate]; omega⟩
    have h4 := Lib.itoa_length_le (([List.replicate n (0 : UInt8)].length : Nat) : Int) (by simp) (by simp)
    simp only [List.length_replicate] at h3
    simp only [textsL, encL, List.length_append, List.length_cons, List.length_nil, List.flatMap_cons, List.flatMap_nil] at h4 ⊢
    omega
  unfold fitsE
  rw [decide_eq_true h1]
  simp
theorem fits_many (n : Nat) (hn : n ≤ 1002) : fitsE (List.replicate n []) = decide (n ≤ 1000) := by
  have h1 : (textsL (List.replicate n [])).length ≤ 1048576 := by
    have h2 := flat_bound encT 23 (List.replicate n ([] : List UInt8)) (fun x hx => by
      have h3 := encT_len ([] : List UInt8) ⟨by decide, by decide⟩
      rw [(List.mem_replicate.1 hx).2]
      simpa using h3)
    have h4 := Lib.itoa_length_le (((List.replicate n ([] : List UInt8)).length : Nat) : Int) (by omega) (by simp; omega)
    simp only [List.length_replicate] at h2 h4
    simp only [textsL, encL, List.length_append, List.length_cons, List.length_nil, List.length_replicate]
    omega
  unfold fitsE
  rw [decide_eq_true h1]
  simp
theorem put_x (t : List UInt8) (ht : t ≠ []) : (putB (bs t) 0 (bs [120])).data.toList = 120 :: t.tail := by
  have h0 : ¬ (bs ([120] : List UInt8)).size = 0 := by decide
  rw [putB, if_neg h0]
  show putL t 0 [120] = _
  cases t with
  | nil => exact absurd rfl ht
  | cons c r =>
    unfold putL padL
    simp
theorem parse_x (t : List UInt8) : rDone (parseE (120 :: t)).2 = false := by
  cases hb : (parseE (120 :: t)).2.bad with
  | true => unfold rDone; rw [hb]; rfl
  | false =>
    exfalso
    have h1 := (rItems_inv encT (fun s h => rText_inv h) (s := ⟨120 :: t, false⟩) hb).2
    simp only [encL, List.append_assoc] at h1
    cases hI : Lib.itoa ((((rItems rText ⟨120 :: t, false⟩).1).length : Nat) : Int) with
    | nil =>
      rw [hI] at h1
      simp at h1
    | cons c r =>
      rw [hI, List.cons_append] at h1
      injection h1 with h2 _
      exact not_mem_itoa (e := 120) (by decide) ((((rItems rText ⟨120 :: t, false⟩).1).length : Nat) : Int) (by rw [hI, h2]; simp)
/-- A side that is no list, and then a pointer that names none. -/
theorem refuse_x {S : DS} {l : List (List UInt8)} (h : Up S) (hh : Has S 2 [48] l) :
    (recC (S.write 3 0 (bs [120])) 2 = 22 ∧ recL (S.write 3 0 (bs [120])) 2 = []) ∧ Up (recS (S.write 3 0 (bs [120])) 2) ∧ openE ((recS (S.write 3 0 (bs [120])) 2).write 2 0 (bs [120])) 2 = 22 := by
  obtain ⟨a1, u1, e1⟩ := up_write h (f := 3) ⟨by decide, by decide⟩ [120] (by decide)
  have h0 : ¬ (bs ([120] : List UInt8)).size = 0 := by decide
  have p1 : Firm 2 (bs [48]) (S.write 3 0 (bs [120])) := by rw [e1]; exact hh.ptr.wadd (by decide)
  have f1 : ((S.write 3 0 (bs [120])).files 3).1.data.toList = 120 :: (textsL l).tail := by
    have hs := (hh.side (by decide)).1
    have hs3 : S.files 3 = (bs (textsL l), bs (textsL l)) := hs
    rw [e1, wadd_files _ _ _ _ h0, hs3]
    exact put_x _ (texts_pos l)
  generalize S.write 3 0 (bs [120]) = S5 at *
  obtain ⟨o1, o2⟩ := open_up2 u1.up (f := 2) ⟨by decide, by decide⟩ p1 (.inr (.inl rfl))
  obtain ⟨b1, u2, e2⟩ := up_sync u1 (f := 2) ⟨by decide, by decide⟩
  have f2 : ((S5.sync 2).files 3).1.data.toList = 120 :: (textsL l).tail := by
    rw [e2]
    show (updF _ _ _ 3).1.data.toList = _
    rw [updF_other _ _ _ (by decide)]
    exact f1
  have p2 : Firm 2 (bs [48]) (S5.sync 2) := by rw [e2, p1.1]; exact Firm.self _ _ _
  have hset : setR 2 [48] S5 = (0, S5.sync 2) := by unfold setR syR; rw [if_neg (by decide), b1]
  have hrd : readE (S5.sync 2) 2 [48] = 22 := by
    obtain ⟨c1, c2⟩ := file_up u2.up (f := 3) ⟨by decide, by decide⟩
    unfold readE
    rw [if_neg (by decide)]
    have hn : nowF 2 [48] = 3 := rfl
    rw [hn, c1, c2, f2, if_pos ⟨rfl, parse_x _⟩]
  have hc : recC S5 2 = 22 := by
    unfold recC
    rw [o2, o1, if_neg (by decide), hset]
    simp only
    rw [if_neg (by decide), hrd, if_pos (by decide)]
  have hS : recS S5 2 = S5.sync 2 := by
    unfold recS
    rw [o2, o1, if_neg (by decide), hset]
    simp only
    rw [if_neg (by decide), hrd, if_pos (by decide)]
  refine ⟨⟨hc, by unfold recL; rw [if_neg (by rw [hc]; decide)]⟩, by rw [hS]; exact u2, ?_⟩
  rw [hS]
  obtain ⟨a3, u3, e3⟩ := up_write u2 (f := 2) ⟨by decide, by decide⟩ [120] (by decide)
  have f3 : (((S5.sync 2).write 2 0 (bs [120])).files 2).1 = bs [120] := by
    rw [e3, wadd_files _ _ _ _ h0, p2.1]
    exact put_short [48] [120] (by decide) (by decide)
  have h1 := read_code (n := 1) u3.up (f := 2) ⟨by decide, by decide⟩ (by decide)
  have hsd : sideE ((S5.sync 2).write 2 0 (bs [120])) 2 = [120] := by
    unfold sideE
    rw [readS_eq h1, f3, readX_all _ _ (by decide)]
    rfl
  unfold openE
  rw [if_neg (by decide), h1, if_neg (by decide), hsd, if_neg (by decide)]
/-- A list that is only read, as an object. -/
def rdOb (A : Option Addr) (xs : List (List UInt8)) : Ob where
  own _ := False
  see i := xs ≠ [] ∧ slBlk A = some i
  ok w := RdL 1 strE w w.heap.size A xs
  lt w h i hi := hi.elim (fun h => h.elim) (fun hi => rd_blk h hi.1 hi.2)
  frame w w' h hb hs := by
    by_cases hne : xs = []
    · subst hne
      exact fun k x hx => by simp at hx
    · exact h.turn (fun i hi _ => hb i (.inr ⟨hne, hi⟩)) hs
theorem rd_empties (w : World) (n : Nat) (b : Nat) (hb : b = w.heap.size) : RdL 1 strE (w.alloc (.cells (Array.replicate n (.string ByteArray.empty)) 9)) (w.alloc (.cells (Array.replicate n (.string ByteArray.empty)) 9)).heap.size (some ⟨b, 0, none⟩) (List.replicate n []) :=
  rdBlockE strLayJ w _ _ _ (by
    rw [Array.toList_replicate]
    induction n with
    | zero => rfl
    | succ n ih => rw [List.replicate_succ, List.replicate_succ, List.flatMap_cons, ← ih]; rfl) _ hb
-- rfMake N | M : the two lists of regions 10, 11
-- rfFar : the file is none: Recover and Rewrite refuse
-- rfFits | rfNot : the copy's two Rewrites
-- rfRest WHICH : from region 19 on
end Go.Proofs.YtjmkodkechahdaaGreatDoor
/- The walk of EraseMany. -/
set_option linter.unusedSimpArgs false
set_option linter.unusedVariables false
namespace Go.Proofs.YtjmkodkechahdaaGreatDoor
open Go.RowKit
set_option maxRecDepth 100000

/-- An act of a law. -/
structure EA where
  kind : Int
  file : Int
  n : Int
  keep : List Int
  kA : Option Addr
  kc : Nat
  recs : List (List UInt8)
  rA : Option Addr
  rc : Nat
def EA.cs (a : EA) : List Value := [.int .i64 a.kind, .int .i64 a.file, .int .i64 a.n, .slice a.kA a.keep.length a.kc, .slice a.rA a.recs.length a.rc]
structure EAOk (w : World) (B : Nat) (a : EA) : Prop where
  keep : RdL 1 intC w B a.kA a.keep
  recs : RdL 1 strE w B a.rA a.recs
  kl : a.keep.length ≤ 9223372036854775807
  rl : a.recs.length ≤ 9223372036854775807
  ki : ∀ x ∈ a.keep, inI64 x
  i1 : inI64 a.kind
  i2 : inI64 a.file
  i3 : inI64 a.n
structure EasAt (w : World) (A : Option Addr) (l : List EA) : Prop where
  rd : RdL 5 EA.cs w w.heap.size A l
  ok : ∀ a ∈ l, EAOk w w.heap.size a
  len : l.length ≤ 9223372036854775807
theorem EAOk.now {w w' : World} {a : EA} (h : EAOk w w.heap.size a) (hb : Below w.heap.size w w') : EAOk w' w'.heap.size a := ⟨h.keep.now hb, h.recs.now hb, h.kl, h.rl, h.ki, h.i1, h.i2, h.i3⟩
theorem EasAt.now {w w' : World} {A : Option Addr} {l : List EA} (h : EasAt w A l) (hb : Below w.heap.size w w') : EasAt w' A l := ⟨h.rd.now hb, fun a ha => (h.ok a ha).now hb, h.len⟩
theorem rd_ea {w : World} {A : Option Addr} {l : List EA} {k : Nat} {a : EA} (h : RdL 5 EA.cs w w.heap.size A l) (hk : l[k]? = some a) : ∃ b off, A = some ⟨b, off, none⟩ ∧ b < w.heap.size ∧ w.cell? ⟨b, off + k * 5, none⟩ = some (.int .i64 a.kind) ∧ w.cell? ⟨b, off + k * 5 + 1, none⟩ = some (.int .i64 a.file) ∧ w.cell? ⟨b, off + k * 5 + 2, none⟩ = some (.int .i64 a.n) ∧
    w.cell? ⟨b, off + k * 5 + 3, none⟩ = some (.slice a.kA a.keep.length a.kc) ∧ w.cell? ⟨b, off + k * 5 + 4, none⟩ = some (.slice a.rA a.recs.length a.rc) := by
  obtain ⟨b, off, e, hb, hc⟩ := h k a hk
  exact ⟨b, off, e, hb, by simpa using hc 0 _ rfl, hc 1 _ rfl, hc 2 _ rfl, hc 3 _ rfl, hc 4 _ rfl⟩
theorem rd_ea2 {w : World} {b off : Nat} {l : List EA} {k : Nat} {a : EA} (h : RdL 5 EA.cs w w.heap.size (some ⟨b, off, none⟩) l) (hk : l[k]? = some a) : b < w.heap.size ∧ w.cell? ⟨b, off + k * 5, none⟩ = some (.int .i64 a.kind) ∧ w.cell? ⟨b, off + k * 5 + 1, none⟩ = some (.int .i64 a.file) ∧ w.cell? ⟨b, off + k * 5 + 2, none⟩ = some (.int .i64 a.n) ∧
    w.cell? ⟨b, off + k * 5 + 3, none⟩ = some (.slice a.kA a.keep.length a.kc) ∧ w.cell? ⟨b, off + k * 5 + 4, none⟩ = some (.slice a.rA a.recs.length a.rc) := by
  obtain ⟨b2, off2, e, r⟩ := rd_ea h hk
  cases e
  exact r
def FewE (n : Int) (l : List EA) : Prop := (l.length : Int) ≤ n ∧ ∀ a ∈ l, FewL a.recs ∧ a.keep.length ≤ 20
def FewEP (n : Int) (l : List EA) (w : World) (e : Ending) (w' : World) : Prop := ∃ b : Bool, e = .returned (.bool b) ∧ (b = true → FewE n l) ∧ w = w'
set_option maxHeartbeats 2000000 in
theorem rFew43_any (l : List EA) (n : Int) (A : Option Addr) (c : Nat) (w : World) (h : EasAt w A l) (hn : 0 ≤ n ∧ n ≤ 100) : Calls Tryz.prog 5 #[.slice A l.length c, .int .i64 n] w (FewEP n l w) := by
  have H := Lib.hid h
  have hln := h.len
  clear h
  go_enter Tryz.func5, Tryz.ntmps5
  go_wp2_with fail
  go_loopw [5] (fun i wr => ∃ k : Nat, k ≤ l.length ∧ (k : Int) ≤ n + 1 ∧ i = .int .i64 k ∧ (∀ a ∈ l.take k, FewL a.recs ∧ a.keep.length ≤ 20) ∧ w = wr) (fun i _ => 102 - (intOf i).toNat)
  case atStart => exact ⟨0, Nat.zero_le _, by omega, rfl, fun s hs => by simp at hs, rfl⟩
  case round =>
    obtain ⟨k, hk, hkn, rfl, hf, rfl⟩ := hrel
    have HFk := Lib.hid hf
    clear hf
    by_cases hlt : k < l.length ∧ (k : Int) ≤ n
    · obtain ⟨hlt, hk6⟩ := hlt
      have d1 : decide ((k : Int) < (l.length : Int)) = true := by simp; omega
      have d2 : decide ((k : Int) ≤ n) = true := by simpa using hk6
      obtain ⟨a, ha⟩ : ∃ a, l[k]? = some a := ⟨_, List.getElem?_eq_getElem hlt⟩
      obtain ⟨b, off, rfl, hb, c0, c1, c2, c3, c4⟩ := rd_ea H.out.rd ha
      have HOk := Lib.hid (H.out.ok a (List.mem_of_getElem? ha))
      have HTk := Lib.hid (fun (hq : FewL a.recs ∧ a.keep.length ≤ 20) => take_step (fun a : EA => FewL a.recs ∧ a.keep.length ≤ 20) l k hlt HFk.out (by
        rw [List.getElem?_eq_getElem hlt] at ha
        injection ha with ha
        rw [ha]; exact hq))
      clear ha
      go_wp2_with fail
      refine (rFewR_any a.recs a.rA a.rc w HOk.out.recs HOk.out.rl).mono ?_
      rintro e wz ⟨b0, rfl, hf0, hw⟩
      obtain rfl := hw
      cases b0 with
      | false =>
        go_wp2_with fail
        go_ret
        exact ⟨false, rfl, fun h => (by cases h), rfl⟩
      | true =>
      have hfl := hf0 rfl
      cases hs : decide ((20 : Int) < (a.keep.length : Int)) with
      | true =>
        go_wp2_with fail
        go_ret
        exact ⟨false, rfl, fun h => (by cases h), rfl⟩
      | false =>
        have HN := Lib.hid (HTk.out ⟨hfl, by simp at hs; omega⟩)
        clear hfl hf0
        go_wp2_with fail
        go_roundw
        case rel => exact ⟨k + 1, by omega, by omega, by go_num, HN.out, by trivial⟩
        case measure => simp [intOf]; omega
    · by_cases h6 : (l.length : Int) ≤ n
      · have HAll : Hid (FewE n l) := Lib.hid ⟨h6, by
          have := HFk.out
          rwa [List.take_of_length_le (by omega)] at this⟩
        have d3 : decide ((l.length : Int) ≤ n) = true := by simpa using h6
        go_wp2
        all_goals go_ret
        all_goals exact ⟨_, rfl, fun _ => HAll.out, rfl⟩
      · go_wp2
        all_goals go_ret
        all_goals exact ⟨_, rfl, fun h => by first | omega | (simp at h; done) | (simp at h; omega), rfl⟩
/-- The lists that were written last, in a block of the law's own. -/
def laOb (b : Nat) (v0 v1 : Value) : Ob where
  own i := i = b
  see _ := False
  ok w := w.heap[b]? = some (.cells #[v0, v1] 32 (0, 0))
  lt w h i hi := hi.elim (fun e => by subst e; exact box_lt h) (fun h => h.elim)
  frame w w' h hb _ := (hb b (.inl rfl)).trans h
theorem laOb.set0 {w : World} {b : Nat} {v0 v1 : Value} (h : (laOb b v0 v1).ok w) (v : Value) : OUpd (laOb b v0 v1) (laOb b v v1) w (w.setCell ⟨b, 0, none⟩ v) :=
  ⟨heap_setCell_same w b 0 _ _ v h, (Turn.refl _ _).set b 0 _ (.inl rfl), fun i hi => .inl hi, fun i hi => hi.elim⟩
theorem laOb.set1 {w : World} {b : Nat} {v0 v1 : Value} (h : (laOb b v0 v1).ok w) (v : Value) : OUpd (laOb b v0 v1) (laOb b v0 v) w (w.setCell ⟨b, 1, none⟩ v) :=
  ⟨heap_setCell_same w b 1 _ _ v h, (Turn.refl _ _).set b 1 _ (.inl rfl), fun i hi => .inl hi, fun i hi => hi.elim⟩
theorem St.drop2 {w wr : World} {a b R : Ob} (h : St w (a.sep (b.sep R)) wr) : St w (a.sep R) wr := h.rot.swap.forget.swap
/-- What a state of the law is: both files have their lists. -/
structure Ma (S : DS) (q0 q1 : List UInt8) (l0 l1 : List (List UInt8)) : Prop where
  g0 : Gd S 0 q0 l0
  g3 : Gd S 3 q1 l1
theorem Ma.crash {S : DS} {q0 q1 : List UInt8} {l0 l1 : List (List UInt8)} (h : Ma S q0 q1 l0 l1) (keep : List Int) : Ma ((S.crash keep).start) q0 q1 l0 l1 := by
  have hk : ((S.crash keep).start).keep.length ≤ 20 := by show (DS.crash S keep).keep.length ≤ 20; rw [crash_keep]; exact h.g0.kp
  exact ⟨⟨up_crash h.g0.up keep, h.g0.nt.crash keep, h.g0.fit, hk⟩, ⟨up_crash h.g0.up keep, h.g3.nt.crash keep, h.g3.fit, hk⟩⟩
theorem Ma.at0 {S T : DS} {q0 q1 q : List UInt8} {l0 l1 l : List (List UInt8)} (h : Ma S q0 q1 l0 l1) (hg : Gd T 0 q l) (hs : Same3 0 S T) : Ma T q q1 l l1 := ⟨hg, h.g3.other hs hg.up hg.kp (.inr (by decide))⟩
theorem Ma.at3 {S T : DS} {q0 q1 q : List UInt8} {l0 l1 l : List (List UInt8)} (h : Ma S q0 q1 l0 l1) (hg : Gd T 3 q l) (hs : Same3 3 S T) : Ma T q0 q l0 l := ⟨h.g0.other hs hg.up hg.kp (.inl (by decide)), hg⟩
theorem Ma.new : Ma DS.new [] [] [] [] := ⟨Gd.new 0, Gd.new 3⟩
-- maIn : the inner loop and the end of a round: HS the state (St), HM (Ma S q0 q1 l0 l1), L0, L1 the lists as they are read; the frame at region 22
-- maDown F : the crash, what is refused then, and the start
-- maPut G AT : what is written, up to the store
end Go.Proofs.YtjmkodkechahdaaGreatDoor
