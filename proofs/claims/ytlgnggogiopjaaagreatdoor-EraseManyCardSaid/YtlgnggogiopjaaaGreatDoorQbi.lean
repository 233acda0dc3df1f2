/- Contracts and plain laws, joined: ErMy, ErMyOpen. -/
import Derived.Test.YtlgnggogiopjaaaGreatDoorQbh
import Derived.Test.YtlgnggogiopjaaaGreatDoorQao
import Derived.Test.YtlgnggogiopjaaaGreatDoorQbc
/- The walk of EraseMany. -/
set_option linter.unusedSimpArgs false
set_option linter.unusedVariables false
namespace Go.Proofs.YtlgnggogiopjaaaGreatDoor
open Go.RowKit
set_option maxRecDepth 100000

/-- An act of a law. -/
structure EA where
  kind : Int
  file : Int
  n : Int
  keep : List Int
  kA : Option Addr
  kc : Nat
  recs : List (List UInt8)
  rA : Option Addr
  rc : Nat
def EA.cs (a : EA) : List Value := [.int .i64 a.kind, .int .i64 a.file, .int .i64 a.n, .slice a.kA a.keep.length a.kc, .slice a.rA a.recs.length a.rc]
structure EAOk (w : World) (B : Nat) (a : EA) : Prop where
  keep : RdL 1 intC w B a.kA a.keep
  recs : RdL 1 strE w B a.rA a.recs
  kl : a.keep.length ≤ 9223372036854775807
  rl : a.recs.length ≤ 9223372036854775807
  ki : ∀ x ∈ a.keep, inI64 x
  i1 : inI64 a.kind
  i2 : inI64 a.file
  i3 : inI64 a.n
structure EasAt (w : World) (A : Option Addr) (l : List EA) : Prop where
  rd : RdL 5 EA.cs w w.heap.size A l
  ok : ∀ a ∈ l, EAOk w w.heap.size a
  len : l.length ≤ 9223372036854775807
theorem EAOk.now {w w' : World} {a : EA} (h : EAOk w w.heap.size a) (hb : Below w.heap.size w w') : EAOk w' w'.heap.size a := ⟨h.keep.now hb, h.recs.now hb, h.kl, h.rl, h.ki, h.i1, h.i2, h.i3⟩
theorem EasAt.now {w w' : World} {A : Option Addr} {l : List EA} (h : EasAt w A l) (hb : Below w.heap.size w w') : EasAt w' A l := ⟨h.rd.now hb, fun a ha => (h.ok a ha).now hb, h.len⟩
theorem rd_ea {w : World} {A : Option Addr} {l : List EA} {k : Nat} {a : EA} (h : RdL 5 EA.cs w w.heap.size A l) (hk : l[k]? = some a) : ∃ b off, A = some ⟨b, off, none⟩ ∧ b < w.heap.size ∧ w.cell? ⟨b, off + k * 5, none⟩ = some (.int .i64 a.kind) ∧ w.cell? ⟨b, off + k * 5 + 1, none⟩ = some (.int .i64 a.file) ∧ w.cell? ⟨b, off + k * 5 + 2, none⟩ = some (.int .i64 a.n) ∧
    w.cell? ⟨b, off + k * 5 + 3, none⟩ = some (.slice a.kA a.keep.length a.kc) ∧ w.cell? ⟨b, off + k * 5 + 4, none⟩ = some (.slice a.rA a.recs.length a.rc) := by
  obtain ⟨b, off, e, hb, hc⟩ := h k a hk
  exact ⟨b, off, e, hb, by simpa using hc 0 _ rfl, hc 1 _ rfl, hc 2 _ rfl, hc 3 _ rfl, hc 4 _ rfl⟩
theorem rd_ea2 {w : World} {b off : Nat} {l : List EA} {k : Nat} {a : EA} (h : RdL 5 EA.cs w w.heap.size (some ⟨b, off, none⟩) l) (hk : l[k]? = some a) : b < w.heap.size ∧ w.cell? ⟨b, off + k * 5, none⟩ = some (.int .i64 a.kind) ∧ w.cell? ⟨b, off + k * 5 + 1, none⟩ = some (.int .i64 a.file) ∧ w.cell? ⟨b, off + k * 5 + 2, none⟩ = some (.int .i64 a.n) ∧
    w.cell? ⟨b, off + k * 5 + 3, none⟩ = some (.slice a.kA a.keep.length a.kc) ∧ w.cell? ⟨b, off + k * 5 + 4, none⟩ = some (.slice a.rA a.recs.length a.rc) := by
  obtain ⟨b2, off2, e, r⟩ := rd_ea h hk
  cases e
  exact r
def FewE (n : Int) (l : List EA) : Prop := (l.length : Int) ≤ n ∧ ∀ a ∈ l, FewL a.recs ∧ a.keep.length ≤ 20
def FewEP (n : Int) (l : List EA) (w : World) (e : Ending) (w' : World) : Prop := ∃ b : Bool, e = .returned (.bool b) ∧ (b = true → FewE n l) ∧ w = w'
set_option maxHeartbeats 2000000 in
theorem rFew43_any (l : List EA) (n : Int) (A : Option Addr) (c : Nat) (w : World) (h : EasAt w A l) (hn : 0 ≤ n ∧ n ≤ 100) : Calls Tryz.prog 13 #[.slice A l.length c, .int .i64 n] w (FewEP n l w) := by
  have H := Lib.hid h
  have hln := h.len
  clear h
  go_enter Tryz.func13, Tryz.ntmps13
  go_wp2_with fail
  go_loopw [5] (fun i wr => ∃ k : Nat, k ≤ l.length ∧ (k : Int) ≤ n + 1 ∧ i = .int .i64 k ∧ (∀ a ∈ l.take k, FewL a.recs ∧ a.keep.length ≤ 20) ∧ w = wr) (fun i _ => 102 - (intOf i).toNat)
  case atStart => exact ⟨0, Nat.zero_le _, by omega, rfl, fun s hs => by simp at hs, rfl⟩
  case round =>
    obtain ⟨k, hk, hkn, rfl, hf, rfl⟩ := hrel
    have HFk := Lib.hid hf
    clear hf
    by_cases hlt : k < l.length ∧ (k : Int) ≤ n
    · obtain ⟨hlt, hk6⟩ := hlt
      have d1 : decide ((k : Int) < (l.length : Int)) = true := by simp; omega
      have d2 : decide ((k : Int) ≤ n) = true := by simpa using hk6
      obtain ⟨a, ha⟩ : ∃ a, l[k]? = some a := ⟨_, List.getElem?_eq_getElem hlt⟩
      obtain ⟨b, off, rfl, hb, c0, c1, c2, c3, c4⟩ := rd_ea H.out.rd ha
      have HOk := Lib.hid (H.out.ok a (List.mem_of_getElem? ha))
      have HTk := Lib.hid (fun (hq : FewL a.recs ∧ a.keep.length ≤ 20) => take_step (fun a : EA => FewL a.recs ∧ a.keep.length ≤ 20) l k hlt HFk.out (by
        rw [List.getElem?_eq_getElem hlt] at ha
        injection ha with ha
        rw [ha]; exact hq))
      clear ha
      go_wp2_with fail
      refine (rFewR_any a.recs a.rA a.rc w HOk.out.recs HOk.out.rl).mono ?_
      rintro e wz ⟨b0, rfl, hf0, hw⟩
      obtain rfl := hw
      cases b0 with
      | false =>
        go_wp2_with fail
        go_ret
        exact ⟨false, rfl, fun h => (by cases h), rfl⟩
      | true =>
      have hfl := hf0 rfl
      cases hs : decide ((20 : Int) < (a.keep.length : Int)) with
      | true =>
        go_wp2_with fail
        go_ret
        exact ⟨false, rfl, fun h => (by cases h), rfl⟩
      | false =>
        have HN := Lib.hid (HTk.out ⟨hfl, by simp at hs; omega⟩)
        clear hfl hf0
        go_wp2_with fail
        go_roundw
        case rel => exact ⟨k + 1, by omega, by omega, by go_num, HN.out, by trivial⟩
        case measure => simp [intOf]; omega
    · by_cases h6 : (l.length : Int) ≤ n
      · have HAll : Hid (FewE n l) := Lib.hid ⟨h6, by
          have := HFk.out
          rwa [List.take_of_length_le (by omega)] at this⟩
        have d3 : decide ((l.length : Int) ≤ n) = true := by simpa using h6
        go_wp2
        all_goals go_ret
        all_goals exact ⟨_, rfl, fun _ => HAll.out, rfl⟩
      · go_wp2
        all_goals go_ret
        all_goals exact ⟨_, rfl, fun h => by first | omega | (simp at h; done) | (simp at h; omega), rfl⟩
/-- The lists that were written last, in a block of the law's own. -/
def laOb (b : Nat) (v0 v1 : Value) : Ob where
  own i := i = b
  see _ := False
  ok w := w.heap[b]? = some (.cells #[v0, v1] 37 (0, 0))
  lt w h i hi := hi.elim (fun e => by subst e; exact box_lt h) (fun h => h.elim)
  frame w w' h hb _ := (hb b (.inl rfl)).trans h
theorem laOb.set0 {w : World} {b : Nat} {v0 v1 : Value} (h : (laOb b v0 v1).ok w) (v : Value) : OUpd (laOb b v0 v1) (laOb b v v1) w (w.setCell ⟨b, 0, none⟩ v) :=
  ⟨heap_setCell_same w b 0 _ _ v h, (Turn.refl _ _).set b 0 _ (.inl rfl), fun i hi => .inl hi, fun i hi => hi.elim⟩
theorem laOb.set1 {w : World} {b : Nat} {v0 v1 : Value} (h : (laOb b v0 v1).ok w) (v : Value) : OUpd (laOb b v0 v1) (laOb b v0 v) w (w.setCell ⟨b, 1, none⟩ v) :=
  ⟨heap_setCell_same w b 1 _ _ v h, (Turn.refl _ _).set b 1 _ (.inl rfl), fun i hi => .inl hi, fun i hi => hi.elim⟩
theorem St.drop2 {w wr : World} {a b R : Ob} (h : St w (a.sep (b.sep R)) wr) : St w (a.sep R) wr := h.rot.swap.forget.swap
/-- What a state of the law is: both files have their lists. -/
structure Ma (S : DS) (q0 q1 : List UInt8) (l0 l1 : List (List UInt8)) : Prop where
  g0 : Gd S 0 q0 l0
  g3 : Gd S 3 q1 l1
theorem Ma.crash {S : DS} {q0 q1 : List UInt8} {l0 l1 : List (List UInt8)} (h : Ma S q0 q1 l0 l1) (keep : List Int) : Ma ((S.crash keep).start) q0 q1 l0 l1 := by
  have hk : ((S.crash keep).start).keep.length ≤ 20 := by show (DS.crash S keep).keep.length ≤ 20; rw [crash_keep]; exact h.g0.kp
  exact ⟨⟨up_crash h.g0.up keep, h.g0.nt.crash keep, h.g0.fit, hk⟩, ⟨up_crash h.g0.up keep, h.g3.nt.crash keep, h.g3.fit, hk⟩⟩
theorem Ma.at0 {S T : DS} {q0 q1 q : List UInt8} {l0 l1 l : List (List UInt8)} (h : Ma S q0 q1 l0 l1) (hg : Gd T 0 q l) (hs : Same3 0 S T) : Ma T q q1 l l1 := ⟨hg, h.g3.other hs hg.up hg.kp (.inr (by decide))⟩
theorem Ma.at3 {S T : DS} {q0 q1 q : List UInt8} {l0 l1 l : List (List UInt8)} (h : Ma S q0 q1 l0 l1) (hg : Gd T 3 q l) (hs : Same3 3 S T) : Ma T q0 q l0 l := ⟨h.g0.other hs hg.up hg.kp (.inl (by decide)), hg⟩
theorem Ma.new : Ma DS.new [] [] [] [] := ⟨Gd.new 0, Gd.new 3⟩
-- maIn : the inner loop and the end of a round: HS the state (St), HM (Ma S q0 q1 l0 l1), L0, L1 the lists as they are read; the frame at region 22
-- maDown F : the crash, what is refused then, and the start
-- maPut G AT : what is written, up to the store
set_option maxHeartbeats 16000000 in
theorem many_any (l : List EA) (A : Option Addr) (c : Nat) (w : World) (hV : Vs w.heap.size w) (h : EasAt w A l) : Calls Tryz.prog 4 #[.slice A l.length c] w fun e w' => e = .returned (.bool true) ∧ Below w.heap.size w w' := by
  have HV := Lib.hid hV
  have HA := Lib.hid h
  have hln := h.len
  clear hV h
  go_enter Tryz.func4, Tryz.ntmps4
  go_wp2_with fail
  refine (small43_any w HV.out).mono ?_
  rintro e w1 ⟨rfl, hb1⟩
  have HB1 := Lib.hid hb1
  have HA1 := Lib.hid (HA.out.now hb1)
  clear hb1
  go_wp2_with fail
  refine (rFew43_any l 10 A c w1 HA1.out (by decide)).mono ?_
  rintro e wz ⟨b0, rfl, hf0, hw⟩
  obtain rfl := hw
  cases b0 with
  | false =>
    go_wp2_with fail
    go_ret
    exact ⟨rfl, HB1.out⟩
  | true =>
  have HF := Lib.hid (hf0 rfl)
  clear hf0 HA1
  go_wp2_with fail
  refine (dNew_any w1).mono ?_
  rintro e w2 ⟨rfl, hb2, D0, hd0, ho0, -⟩
  have hz1 := HB1.out.size
  have H0 : Hid (St w (dOb (w1.heap.size + 2) DS.new D0) w2) := Lib.hid ⟨hd0, HB1.out.trans (hb2.mono hz1), fun i hi => Nat.le_trans hz1 (ho0 i hi)⟩
  generalize w1.heap.size + 2 = p at *
  clear hb2 hd0 ho0 HB1 hz1
  go_upto_region 8 with fail
  have hm := H0.out.more ((Below.refl w2.heap.size w2).alloc (Nat.le_refl _) (.cells #[.slice none 0 0, .slice none 0 0] 37)) (c := laOb w2.heap.size (.slice none 0 0) (.slice none 0 0)) (MapKept.heap_alloc w2 _).1 (fun i hi => by have : i = w2.heap.size := hi; omega) (fun i hi => hi.elim)
  have H1 := Lib.hid hm
  clear hm H0
  generalize w2.alloc (.cells #[.slice none 0 0, .slice none 0 0] 37) = w3 at *
  generalize w2.heap.size = bl at *
  go_wp2_with fail
  go_loopw [6, 7, 8, 9, 10] (fun i _ _ _ _ wr => ∃ (k : Nat) (S : DS) (D : DL) (A0 A1 : Option Addr) (c0 c1 : Nat) (q0 q1 : List UInt8) (l0 l1 : List (List UInt8)), k ≤ l.length ∧ i = .int .i64 k ∧
    Hid (St w ((dOb p S D).sep (laOb bl (.slice A0 l0.length c0) (.slice A1 l1.length c1))) wr ∧ Ma S q0 q1 l0 l1 ∧ RdL 1 strE w w.heap.size A0 l0 ∧ RdL 1 strE w w.heap.size A1 l1)) (fun i _ _ _ _ _ => l.length - (intOf i).toNat)
  case atStart => exact ⟨0, DS.new, D0, none, none, 0, 0, [], [], [], [], Nat.zero_le _, rfl, Lib.hid ⟨H1.out, Ma.new, RdL.nil_, RdL.nil_⟩⟩
  case round =>
    obtain ⟨k, S, D, A0, A1, c0, c1, q0, q1, l0, l1, hk, rfl, HI⟩ := hrel
    clear H1
    by_cases hlt : k < l.length
    · have d1 : decide ((k : Int) < (l.length : Int)) = true := by simp; omega
      obtain ⟨a, ha⟩ : ∃ a, l[k]? = some a := ⟨_, List.getElem?_eq_getElem hlt⟩
      have hRd := HA.out.now HI.out.1.bl
      obtain ⟨b, off, rfl, hb, x0, x1, x2, x3, x4⟩ := rd_ea hRd.rd ha
      have HOk := Lib.hid (HA.out.ok a (List.mem_of_getElem? ha))
      have HFa := Lib.hid (HF.out.2 a (List.mem_of_getElem? ha))
      have HAk := Lib.hid ha
      clear hRd ha
      cases hfi : (Int.tmod a.file 2 != 0) <;> cases hki : (Int.tmod a.kind 3 == 2)
      next =>
        go_wp2_with fail
        refine (rw_good HV.out HI.out.1 HI.out.2.1.g0 (by decide) (few_fits HFa.out.1) (HOk.out.recs.now HI.out.1.bl)).mono ?_
        rintro e w4 ⟨S2, D2, rfl, hst, hg2, hs2, -⟩
        have H4 := Lib.hid hst
        have HM := Lib.hid (HI.out.2.1.at0 hg2 hs2)
        have L0 := Lib.hid HI.out.2.2.1
        have L1 := Lib.hid HI.out.2.2.2
        have e0 := box_cell hst.ok.1.2 0 _ rfl
        have e1 := box_cell hst.ok.1.2 1 _ rfl
        have cz := fun j => box_free hst.ok.1.2 j
        have hlb := box_lt hst.ok.1.2
        obtain ⟨hb4, -, -, -, -, y4⟩ := rd_ea2 (HA.out.now hst.bl).rd HAk.out
        clear hst hg2 hs2 hb x0 x1 x2 x3 x4 HI
        go_wp2_with fail
        have HS := Lib.hid (H4.out.upd (OUpd.right H4.out.ok (laOb.set0 H4.out.ok.1.2 (.slice a.rA a.recs.length a.rc))))
        generalize w4.setCell ⟨bl, 0, none⟩ (.slice a.rA a.recs.length a.rc) = wo at *
        clear H4 e0 e1 cz hlb hb4 y4
        obtain ⟨A0, c0, q0, l0, HS, HM, L0⟩ : ∃ A0 c0 q0 l0, Hid (St w ((dOb p S2 D2).sep (laOb bl (.slice A0 l0.length c0) (.slice A1 l1.length c1))) wo) ∧ Hid (Ma S2 q0 q1 l0 l1) ∧ Hid (RdL 1 strE w w.heap.size A0 l0) := ⟨a.rA, a.rc, _, a.recs, HS, HM, Lib.hid HOk.out.recs⟩
        go_loopw [8, 9, 10] (fun m _ _ wi => ∃ (j : Nat) (T : DS) (E : DL), j ≤ 2 ∧ m = .int .i64 j ∧ Hid (St w ((dOb p T E).sep (laOb bl (.slice A0 l0.length c0) (.slice A1 l1.length c1))) wi ∧ Ma T q0 q1 l0 l1)) (fun m _ _ _ => 3 - (intOf m).toNat)
        case atStart => exact ⟨0, _, _, by omega, rfl, Lib.hid ⟨HS.out, HM.out⟩⟩
        case round =>
          obtain ⟨j, T, E, hj, rfl, HI⟩ := hrel
          by_cases hj2 : j = 2
          · subst hj2
            have HI2 := HI
            clear HI HS HM
            go_wp2_with fail
            go_roundw
            case rel => exact ⟨k + 1, T, E, A0, A1, c0, c1, q0, q1, l0, l1, by omega, by go_num, Lib.hid ⟨HI2.out.1, HI2.out.2, L0.out, L1.out⟩⟩
            case measure => simp [intOf]; omega
          · have hla := HI.out.1.ok.1.2
            have e0 := box_cell hla 0 _ rfl
            have e1 := box_cell hla 1 _ rfl
            have hlb := box_lt hla
            have hlen0 : l0.length ≤ 9223372036854775807 := by have := (fits_parts HI.out.2.g0.fit).1; omega
            have hlen1 : l1.length ≤ 9223372036854775807 := by have := (fits_parts HI.out.2.g3.fit).1; omega
            clear hla
            obtain rfl | rfl : j = 0 ∨ j = 1 := by omega
            · clear hj2 hj HS HM
              go_wp2_with fail
              refine (rc_good HV.out HI.out.1 HI.out.2.g0 (by decide)).mono ?_
              rintro e w8 ⟨T2, E2, A8, c8, rfl, hst, hg2, hs2, -⟩
              have H8 := Lib.hid hst
              have M8 := Lib.hid (HI.out.2.at0 hg2 hs2)
              have e0b := box_cell hst.ok.1.2.1.2 0 _ rfl
              have hlb8 := box_lt hst.ok.1.2.1.2
              clear hst hg2 hs2 HI e0 e1 hlb
              go_wp2_with fail
              refine (strs_any l0 l0 A8 A0 c8 c0 w8 (slOb.rd H8.out.ok.1.2.1.1) (L0.out.now H8.out.bl) hlen0 hlen0).mono ?_
              rintro e w9 ⟨rfl, hb9⟩
              rw [show (l0 == l0) = true from by simp]
              have H9 := Lib.hid (H8.out.on hb9)
              have e0c := box_cell H9.out.ok.1.2.1.2 0 _ rfl
              have hlb9 := box_lt H9.out.ok.1.2.1.2
              clear hb9 H8 e0b hlb8
              go_wp2_with fail
              refine (kp_good HV.out H9.out M8.out.g0 (by decide) (L0.out.now H9.out.bl)).mono ?_
              rintro e w10 ⟨rfl, hb10⟩
              have H10 : Hid (St w ((dOb p T2 E2).sep (laOb bl (.slice A0 l0.length c0) (.slice A1 l1.length c1))) w10 ∧ Ma T2 q0 q1 l0 l1) := Lib.hid ⟨(H9.out.on hb10).drop2, M8.out⟩
              clear hb10 H9 M8 e0c hlb9
              go_wp2_with fail
              go_roundw
              case rel => exact ⟨1, T2, E2, by omega, by first | rfl | go_num, H10⟩
              case measure => simp [intOf]
            · clear hj2 hj HS HM
              go_wp2_with fail
              refine (rc_good HV.out HI.out.1 HI.out.2.g3 (by decide)).mono ?_
              rintro e w8 ⟨T2, E2, A8, c8, rfl, hst, hg2, hs2, -⟩
              have H8 := Lib.hid hst
              have M8 := Lib.hid (HI.out.2.at3 hg2 hs2)
              have e0b := box_cell hst.ok.1.2.1.2 1 _ rfl
              have hlb8 := box_lt hst.ok.1.2.1.2
              clear hst hg2 hs2 HI e0 e1 hlb
              go_wp2_with fail
              refine (strs_any l1 l1 A8 A1 c8 c1 w8 (slOb.rd H8.out.ok.1.2.1.1) (L1.out.now H8.out.bl) hlen1 hlen1).mono ?_
              rintro e w9 ⟨rfl, hb9⟩
              rw [show (l1 == l1) = true from by simp]
              have H9 := Lib.hid (H8.out.on hb9)
              have e0c := box_cell H9.out.ok.1.2.1.2 1 _ rfl
              have hlb9 := box_lt H9.out.ok.1.2.1.2
              clear hb9 H8 e0b hlb8
              go_wp2_with fail
              refine (kp_good HV.out H9.out M8.out.g3 (by decide) (L1.out.now H9.out.bl)).mono ?_
              rintro e w10 ⟨rfl, hb10⟩
              have H10 : Hid (St w ((dOb p T2 E2).sep (laOb bl (.slice A0 l0.length c0) (.slice A1 l1.length c1))) w10 ∧ Ma T2 q0 q1 l0 l1) := Lib.hid ⟨(H9.out.on hb10).drop2, M8.out⟩
              clear hb10 H9 M8 e0c hlb9
              go_wp2_with fail
              go_roundw
              case rel => exact ⟨2, T2, E2, by omega, by first | rfl | go_num, H10⟩
              case measure => simp [intOf]
      next =>
        go_wp2_with fail
        refine (dCrash_any p S D wr a.keep a.kA a.kc (HOk.out.keep.now HI.out.1.bl) (by have := HFa.out.2; omega) (HI.out.1.notOwn HOk.out.keep) HI.out.1.disk).mono ?_
        rintro e w4 ⟨rfl, hu⟩
        obtain ⟨D4, hst⟩ := HI.out.1.dupd hu
        have H4 := Lib.hid hst
        have hO8 := open_down (S := S.crash a.keep) (f := 0) (by decide) (crash_down S a.keep)
        have hk8 : (S.crash a.keep).keep.length ≤ 4194320 := by rw [crash_keep]; have := HI.out.2.1.g0.kp; omega
        have hl8 := (fits_parts (few_fits HFa.out.1)).1
        obtain ⟨hb4, -, -, -, -, y4⟩ := rd_ea2 (HA.out.now hst.bl).rd HAk.out
        have HR8 := Lib.hid (rew_open (f := 0) (l := a.recs) (by decide) (few_fits HFa.out.1) hO8 (by decide))
        clear hu hst hO8 hb x0 x1 x2 x3 x4
        go_wp2_with fail
        refine (rewrite_any2 HV.out H4.out (HOk.out.recs.now H4.out.bl) (by omega) (f := 0) (by unfold inI64; omega) hk8).mono ?_
        rintro e w5 ⟨D5, rfl, hst⟩
        rw [HR8.out] at hst
        rw [HR8.out]
        have H5 := Lib.hid hst
        clear hst H4 HR8 hk8 hb4 y4
        go_wp2_with fail
        refine (dStart_any p _ D5 w5 H5.out.disk).mono ?_
        rintro e w6 ⟨rfl, hu⟩
        obtain ⟨D6, hst⟩ := H5.out.dupd hu
        have HS := Lib.hid hst
        have HM := Lib.hid (HI.out.2.1.crash a.keep)
        have L0 := Lib.hid HI.out.2.2.1
        have L1 := Lib.hid HI.out.2.2.2
        clear hu hst H5 HI
        generalize (S.crash a.keep).start = S4 at *
        go_wp2_with fail
        go_loopw [8, 9, 10] (fun m _ _ wi => ∃ (j : Nat) (T : DS) (E : DL), j ≤ 2 ∧ m = .int .i64 j ∧ Hid (St w ((dOb p T E).sep (laOb bl (.slice A0 l0.length c0) (.slice A1 l1.length c1))) wi ∧ Ma T q0 q1 l0 l1)) (fun m _ _ _ => 3 - (intOf m).toNat)
        case atStart => exact ⟨0, _, _, by omega, rfl, Lib.hid ⟨HS.out, HM.out⟩⟩
        case round =>
          obtain ⟨j, T, E, hj, rfl, HI⟩ := hrel
          by_cases hj2 : j = 2
          · subst hj2
            have HI2 := HI
            clear HI HS HM
            go_wp2_with fail
            go_roundw
            case rel => exact ⟨k + 1, T, E, A0, A1, c0, c1, q0, q1, l0, l1, by omega, by go_num, Lib.hid ⟨HI2.out.1, HI2.out.2, L0.out, L1.out⟩⟩
            case measure => simp [intOf]; omega
          · have hla := HI.out.1.ok.1.2
            have e0 := box_cell hla 0 _ rfl
            have e1 := box_cell hla 1 _ rfl
            have hlb := box_lt hla
            have hlen0 : l0.length ≤ 9223372036854775807 := by have := (fits_parts HI.out.2.g0.fit).1; omega
            have hlen1 : l1.length ≤ 9223372036854775807 := by have := (fits_parts HI.out.2.g3.fit).1; omega
            clear hla
            obtain rfl | rfl : j = 0 ∨ j = 1 := by omega
            · clear hj2 hj HS HM
              go_wp2_with fail
              refine (rc_good HV.out HI.out.1 HI.out.2.g0 (by decide)).mono ?_
              rintro e w8 ⟨T2, E2, A8, c8, rfl, hst, hg2, hs2, -⟩
              have H8 := Lib.hid hst
              have M8 := Lib.hid (HI.out.2.at0 hg2 hs2)
              have e0b := box_cell hst.ok.1.2.1.2 0 _ rfl
              have hlb8 := box_lt hst.ok.1.2.1.2
              clear hst hg2 hs2 HI e0 e1 hlb
              go_wp2_with fail
              refine (strs_any l0 l0 A8 A0 c8 c0 w8 (slOb.rd H8.out.ok.1.2.1.1) (L0.out.now H8.out.bl) hlen0 hlen0).mono ?_
              rintro e w9 ⟨rfl, hb9⟩
              rw [show (l0 == l0) = true from by simp]
              have H9 := Lib.hid (H8.out.on hb9)
              have e0c := box_cell H9.out.ok.1.2.1.2 0 _ rfl
              have hlb9 := box_lt H9.out.ok.1.2.1.2
              clear hb9 H8 e0b hlb8
              go_wp2_with fail
              refine (kp_good HV.out H9.out M8.out.g0 (by decide) (L0.out.now H9.out.bl)).mono ?_
              rintro e w10 ⟨rfl, hb10⟩
              have H10 : Hid (St w ((dOb p T2 E2).sep (laOb bl (.slice A0 l0.length c0) (.slice A1 l1.length c1))) w10 ∧ Ma T2 q0 q1 l0 l1) := Lib.hid ⟨(H9.out.on hb10).drop2, M8.out⟩
              clear hb10 H9 M8 e0c hlb9
              go_wp2_with fail
              go_roundw
              case rel => exact ⟨1, T2, E2, by omega, by first | rfl | go_num, H10⟩
              case measure => simp [intOf]
            · clear hj2 hj HS HM
              go_wp2_with fail
              refine (rc_good HV.out HI.out.1 HI.out.2.g3 (by decide)).mono ?_
              rintro e w8 ⟨T2, E2, A8, c8, rfl, hst, hg2, hs2, -⟩
              have H8 := Lib.hid hst
              have M8 := Lib.hid (HI.out.2.at3 hg2 hs2)
              have e0b := box_cell hst.ok.1.2.1.2 1 _ rfl
              have hlb8 := box_lt hst.ok.1.2.1.2
              clear hst hg2 hs2 HI e0 e1 hlb
              go_wp2_with fail
              refine (strs_any l1 l1 A8 A1 c8 c1 w8 (slOb.rd H8.out.ok.1.2.1.1) (L1.out.now H8.out.bl) hlen1 hlen1).mono ?_
              rintro e w9 ⟨rfl, hb9⟩
              rw [show (l1 == l1) = true from by simp]
              have H9 := Lib.hid (H8.out.on hb9)
              have e0c := box_cell H9.out.ok.1.2.1.2 1 _ rfl
              have hlb9 := box_lt H9.out.ok.1.2.1.2
              clear hb9 H8 e0b hlb8
              go_wp2_with fail
              refine (kp_good HV.out H9.out M8.out.g3 (by decide) (L1.out.now H9.out.bl)).mono ?_
              rintro e w10 ⟨rfl, hb10⟩
              have H10 : Hid (St w ((dOb p T2 E2).sep (laOb bl (.slice A0 l0.length c0) (.slice A1 l1.length c1))) w10 ∧ Ma T2 q0 q1 l0 l1) := Lib.hid ⟨(H9.out.on hb10).drop2, M8.out⟩
              clear hb10 H9 M8 e0c hlb9
              go_wp2_with fail
              go_roundw
              case rel => exact ⟨2, T2, E2, by omega, by first | rfl | go_num, H10⟩
              case measure => simp [intOf]
      next =>
        go_wp2_with fail
        refine (rw_good HV.out HI.out.1 HI.out.2.1.g3 (by decide) (few_fits HFa.out.1) (HOk.out.recs.now HI.out.1.bl)).mono ?_
        rintro e w4 ⟨S2, D2, rfl, hst, hg2, hs2, -⟩
        have H4 := Lib.hid hst
        have HM := Lib.hid (HI.out.2.1.at3 hg2 hs2)
        have L0 := Lib.hid HI.out.2.2.1
        have L1 := Lib.hid HI.out.2.2.2
        have e0 := box_cell hst.ok.1.2 0 _ rfl
        have e1 := box_cell hst.ok.1.2 1 _ rfl
        have cz := fun j => box_free hst.ok.1.2 j
        have hlb := box_lt hst.ok.1.2
        obtain ⟨hb4, -, -, -, -, y4⟩ := rd_ea2 (HA.out.now hst.bl).rd HAk.out
        clear hst hg2 hs2 hb x0 x1 x2 x3 x4 HI
        go_wp2_with fail
        have HS := Lib.hid (H4.out.upd (OUpd.right H4.out.ok (laOb.set1 H4.out.ok.1.2 (.slice a.rA a.recs.length a.rc))))
        generalize w4.setCell ⟨bl, 1, none⟩ (.slice a.rA a.recs.length a.rc) = wo at *
        clear H4 e0 e1 cz hlb hb4 y4
        obtain ⟨A1, c1, q1, l1, HS, HM, L1⟩ : ∃ A1 c1 q1 l1, Hid (St w ((dOb p S2 D2).sep (laOb bl (.slice A0 l0.length c0) (.slice A1 l1.length c1))) wo) ∧ Hid (Ma S2 q0 q1 l0 l1) ∧ Hid (RdL 1 strE w w.heap.size A1 l1) := ⟨a.rA, a.rc, _, a.recs, HS, HM, Lib.hid HOk.out.recs⟩
        go_loopw [8, 9, 10] (fun m _ _ wi => ∃ (j : Nat) (T : DS) (E : DL), j ≤ 2 ∧ m = .int .i64 j ∧ Hid (St w ((dOb p T E).sep (laOb bl (.slice A0 l0.length c0) (.slice A1 l1.length c1))) wi ∧ Ma T q0 q1 l0 l1)) (fun m _ _ _ => 3 - (intOf m).toNat)
        case atStart => exact ⟨0, _, _, by omega, rfl, Lib.hid ⟨HS.out, HM.out⟩⟩
        case round =>
          obtain ⟨j, T, E, hj, rfl, HI⟩ := hrel
          by_cases hj2 : j = 2
          · subst hj2
            have HI2 := HI
            clear HI HS HM
            go_wp2_with fail
            go_roundw
            case rel => exact ⟨k + 1, T, E, A0, A1, c0, c1, q0, q1, l0, l1, by omega, by go_num, Lib.hid ⟨HI2.out.1, HI2.out.2, L0.out, L1.out⟩⟩
            case measure => simp [intOf]; omega
          · have hla := HI.out.1.ok.1.2
            have e0 := box_cell hla 0 _ rfl
            have e1 := box_cell hla 1 _ rfl
            have hlb := box_lt hla
            have hlen0 : l0.length ≤ 9223372036854775807 := by have := (fits_parts HI.out.2.g0.fit).1; omega
            have hlen1 : l1.length ≤ 9223372036854775807 := by have := (fits_parts HI.out.2.g3.fit).1; omega
            clear hla
            obtain rfl | rfl : j = 0 ∨ j = 1 := by omega
            · clear hj2 hj HS HM
              go_wp2_with fail
              refine (rc_good HV.out HI.out.1 HI.out.2.g0 (by decide)).mono ?_
              rintro e w8 ⟨T2, E2, A8, c8, rfl, hst, hg2, hs2, -⟩
              have H8 := Lib.hid hst
              have M8 := Lib.hid (HI.out.2.at0 hg2 hs2)
              have e0b := box_cell hst.ok.1.2.1.2 0 _ rfl
              have hlb8 := box_lt hst.ok.1.2.1.2
              clear hst hg2 hs2 HI e0 e1 hlb
              go_wp2_with fail
              refine (strs_any l0 l0 A8 A0 c8 c0 w8 (slOb.rd H8.out.ok.1.2.1.1) (L0.out.now H8.out.bl) hlen0 hlen0).mono ?_
              rintro e w9 ⟨rfl, hb9⟩
              rw [show (l0 == l0) = true from by simp]
              have H9 := Lib.hid (H8.out.on hb9)
              have e0c := box_cell H9.out.ok.1.2.1.2 0 _ rfl
              have hlb9 := box_lt H9.out.ok.1.2.1.2
              clear hb9 H8 e0b hlb8
              go_wp2_with fail
              refine (kp_good HV.out H9.out M8.out.g0 (by decide) (L0.out.now H9.out.bl)).mono ?_
              rintro e w10 ⟨rfl, hb10⟩
              have H10 : Hid (St w ((dOb p T2 E2).sep (laOb bl (.slice A0 l0.length c0) (.slice A1 l1.length c1))) w10 ∧ Ma T2 q0 q1 l0 l1) := Lib.hid ⟨(H9.out.on hb10).drop2, M8.out⟩
              clear hb10 H9 M8 e0c hlb9
              go_wp2_with fail
              go_roundw
              case rel => exact ⟨1, T2, E2, by omega, by first | rfl | go_num, H10⟩
              case measure => simp [intOf]
            · clear hj2 hj HS HM
              go_wp2_with fail
              refine (rc_good HV.out HI.out.1 HI.out.2.g3 (by decide)).mono ?_
              rintro e w8 ⟨T2, E2, A8, c8, rfl, hst, hg2, hs2, -⟩
              have H8 := Lib.hid hst
              have M8 := Lib.hid (HI.out.2.at3 hg2 hs2)
              have e0b := box_cell hst.ok.1.2.1.2 1 _ rfl
              have hlb8 := box_lt hst.ok.1.2.1.2
              clear hst hg2 hs2 HI e0 e1 hlb
              go_wp2_with fail
              refine (strs_any l1 l1 A8 A1 c8 c1 w8 (slOb.rd H8.out.ok.1.2.1.1) (L1.out.now H8.out.bl) hlen1 hlen1).mono ?_
              rintro e w9 ⟨rfl, hb9⟩
              rw [show (l1 == l1) = true from by simp]
              have H9 := Lib.hid (H8.out.on hb9)
              have e0c := box_cell H9.out.ok.1.2.1.2 1 _ rfl
              have hlb9 := box_lt H9.out.ok.1.2.1.2
              clear hb9 H8 e0b hlb8
              go_wp2_with fail
              refine (kp_good HV.out H9.out M8.out.g3 (by decide) (L1.out.now H9.out.bl)).mono ?_
              rintro e w10 ⟨rfl, hb10⟩
              have H10 : Hid (St w ((dOb p T2 E2).sep (laOb bl (.slice A0 l0.length c0) (.slice A1 l1.length c1))) w10 ∧ Ma T2 q0 q1 l0 l1) := Lib.hid ⟨(H9.out.on hb10).drop2, M8.out⟩
              clear hb10 H9 M8 e0c hlb9
              go_wp2_with fail
              go_roundw
              case rel => exact ⟨2, T2, E2, by omega, by first | rfl | go_num, H10⟩
              case measure => simp [intOf]
      next =>
        go_wp2_with fail
        refine (dCrash_any p S D wr a.keep a.kA a.kc (HOk.out.keep.now HI.out.1.bl) (by have := HFa.out.2; omega) (HI.out.1.notOwn HOk.out.keep) HI.out.1.disk).mono ?_
        rintro e w4 ⟨rfl, hu⟩
        obtain ⟨D4, hst⟩ := HI.out.1.dupd hu
        have H4 := Lib.hid hst
        have hO8 := open_down (S := S.crash a.keep) (f := 3) (by decide) (crash_down S a.keep)
        have hk8 : (S.crash a.keep).keep.length ≤ 4194320 := by rw [crash_keep]; have := HI.out.2.1.g0.kp; omega
        have hl8 := (fits_parts (few_fits HFa.out.1)).1
        obtain ⟨hb4, -, -, -, -, y4⟩ := rd_ea2 (HA.out.now hst.bl).rd HAk.out
        have HR8 := Lib.hid (rew_open (f := 3) (l := a.recs) (by decide) (few_fits HFa.out.1) hO8 (by decide))
        clear hu hst hO8 hb x0 x1 x2 x3 x4
        go_wp2_with fail
        refine (rewrite_any2 HV.out H4.out (HOk.out.recs.now H4.out.bl) (by omega) (f := 3) (by unfold inI64; omega) hk8).mono ?_
        rintro e w5 ⟨D5, rfl, hst⟩
        rw [HR8.out] at hst
        rw [HR8.out]
        have H5 := Lib.hid hst
        clear hst H4 HR8 hk8 hb4 y4
        go_wp2_with fail
        refine (dStart_any p _ D5 w5 H5.out.disk).mono ?_
        rintro e w6 ⟨rfl, hu⟩
        obtain ⟨D6, hst⟩ := H5.out.dupd hu
        have HS := Lib.hid hst
        have HM := Lib.hid (HI.out.2.1.crash a.keep)
        have L0 := Lib.hid HI.out.2.2.1
        have L1 := Lib.hid HI.out.2.2.2
        clear hu hst H5 HI
        generalize (S.crash a.keep).start = S4 at *
        go_wp2_with fail
        go_loopw [8, 9, 10] (fun m _ _ wi => ∃ (j : Nat) (T : DS) (E : DL), j ≤ 2 ∧ m = .int .i64 j ∧ Hid (St w ((dOb p T E).sep (laOb bl (.slice A0 l0.length c0) (.slice A1 l1.length c1))) wi ∧ Ma T q0 q1 l0 l1)) (fun m _ _ _ => 3 - (intOf m).toNat)
        case atStart => exact ⟨0, _, _, by omega, rfl, Lib.hid ⟨HS.out, HM.out⟩⟩
        case round =>
          obtain ⟨j, T, E, hj, rfl, HI⟩ := hrel
          by_cases hj2 : j = 2
          · subst hj2
            have HI2 := HI
            clear HI HS HM
            go_wp2_with fail
            go_roundw
            case rel => exact ⟨k + 1, T, E, A0, A1, c0, c1, q0, q1, l0, l1, by omega, by go_num, Lib.hid ⟨HI2.out.1, HI2.out.2, L0.out, L1.out⟩⟩
            case measure => simp [intOf]; omega
          · have hla := HI.out.1.ok.1.2
            have e0 := box_cell hla 0 _ rfl
            have e1 := box_cell hla 1 _ rfl
            have hlb := box_lt hla
            have hlen0 : l0.length ≤ 9223372036854775807 := by have := (fits_parts HI.out.2.g0.fit).1; omega
            have hlen1 : l1.length ≤ 9223372036854775807 := by have := (fits_parts HI.out.2.g3.fit).1; omega
            clear hla
            obtain rfl | rfl : j = 0 ∨ j = 1 := by omega
            · clear hj2 hj HS HM
              go_wp2_with fail
              refine (rc_good HV.out HI.out.1 HI.out.2.g0 (by decide)).mono ?_
              rintro e w8 ⟨T2, E2, A8, c8, rfl, hst, hg2, hs2, -⟩
              have H8 := Lib.hid hst
              have M8 := Lib.hid (HI.out.2.at0 hg2 hs2)
              have e0b := box_cell hst.ok.1.2.1.2 0 _ rfl
              have hlb8 := box_lt hst.ok.1.2.1.2
              clear hst hg2 hs2 HI e0 e1 hlb
              go_wp2_with fail
              refine (strs_any l0 l0 A8 A0 c8 c0 w8 (slOb.rd H8.out.ok.1.2.1.1) (L0.out.now H8.out.bl) hlen0 hlen0).mono ?_
              rintro e w9 ⟨rfl, hb9⟩
              rw [show (l0 == l0) = true from by simp]
              have H9 := Lib.hid (H8.out.on hb9)
              have e0c := box_cell H9.out.ok.1.2.1.2 0 _ rfl
              have hlb9 := box_lt H9.out.ok.1.2.1.2
              clear hb9 H8 e0b hlb8
              go_wp2_with fail
              refine (kp_good HV.out H9.out M8.out.g0 (by decide) (L0.out.now H9.out.bl)).mono ?_
              rintro e w10 ⟨rfl, hb10⟩
              have H10 : Hid (St w ((dOb p T2 E2).sep (laOb bl (.slice A0 l0.length c0) (.slice A1 l1.length c1))) w10 ∧ Ma T2 q0 q1 l0 l1) := Lib.hid ⟨(H9.out.on hb10).drop2, M8.out⟩
              clear hb10 H9 M8 e0c hlb9
              go_wp2_with fail
              go_roundw
              case rel => exact ⟨1, T2, E2, by omega, by first | rfl | go_num, H10⟩
              case measure => simp [intOf]
            · clear hj2 hj HS HM
              go_wp2_with fail
              refine (rc_good HV.out HI.out.1 HI.out.2.g3 (by decide)).mono ?_
              rintro e w8 ⟨T2, E2, A8, c8, rfl, hst, hg2, hs2, -⟩
              have H8 := Lib.hid hst
              have M8 := Lib.hid (HI.out.2.at3 hg2 hs2)
              have e0b := box_cell hst.ok.1.2.1.2 1 _ rfl
              have hlb8 := box_lt hst.ok.1.2.1.2
              clear hst hg2 hs2 HI e0 e1 hlb
              go_wp2_with fail
              refine (strs_any l1 l1 A8 A1 c8 c1 w8 (slOb.rd H8.out.ok.1.2.1.1) (L1.out.now H8.out.bl) hlen1 hlen1).mono ?_
              rintro e w9 ⟨rfl, hb9⟩
              rw [show (l1 == l1) = true from by simp]
              have H9 := Lib.hid (H8.out.on hb9)
              have e0c := box_cell H9.out.ok.1.2.1.2 1 _ rfl
              have hlb9 := box_lt H9.out.ok.1.2.1.2
              clear hb9 H8 e0b hlb8
              go_wp2_with fail
              refine (kp_good HV.out H9.out M8.out.g3 (by decide) (L1.out.now H9.out.bl)).mono ?_
              rintro e w10 ⟨rfl, hb10⟩
              have H10 : Hid (St w ((dOb p T2 E2).sep (laOb bl (.slice A0 l0.length c0) (.slice A1 l1.length c1))) w10 ∧ Ma T2 q0 q1 l0 l1) := Lib.hid ⟨(H9.out.on hb10).drop2, M8.out⟩
              clear hb10 H9 M8 e0c hlb9
              go_wp2_with fail
              go_roundw
              case rel => exact ⟨2, T2, E2, by omega, by first | rfl | go_num, H10⟩
              case measure => simp [intOf]
    · obtain rfl : k = l.length := by omega
      have d1 : decide ((l.length : Int) < (l.length : Int)) = false := by simp
      go_wp2_with fail
      go_ret
      exact ⟨rfl, HI.out.1.bl⟩
end Go.Proofs.YtlgnggogiopjaaaGreatDoor
/- Acts among the arguments of a law. -/
set_option linter.unusedSimpArgs false
set_option linter.unusedVariables false
namespace Go.Proofs.YtlgnggogiopjaaaGreatDoor
open Go.ChangeShapes Go.WideShapes Go.RowKit Go.Deep
section
variable {H : Type} {enc0 : TypeId × Value → H} {w : World} {base : Nat} {spare : Nat → Bool} {held : Bool}
theorem fieldsAct : ∃ fs : Array Field, Tryz.prog.underlying 39 = some (.struct fs) ∧ fs.size = 5 ∧ fs.toList.map (·.type) = [3, 3, 3, 25, 37] ∧ oneCellFields Tryz.prog fs = true :=
  ⟨_, Tryz.underlying39, by kernel_rfl, by kernel_rfl, by kernel_rfl⟩
theorem cellsAct : Tryz.prog.cellsOf 39 = 5 := by kernel_rfl
theorem elemAct : ∀ m cs x, DataW.trod enc0 Tryz.prog w base spare held m 39 cs = some x → ∃ y : EA, EA.cs y = cs ∧ EAOk w w.heap.size y := by
  intro m l x hf
  obtain ⟨fs, hu, hsz, hty, hone⟩ := fieldsAct
  obtain ⟨hl, hc⟩ := struct_cells hu hone (by rw [cellsAct, hsz]) hf
  have hg : ∀ (i : Nat) (t : TypeId), (fs.toList.map (·.type))[i]? = some t → ∃ v n y, l[i]? = some v ∧ DataW.trod enc0 Tryz.prog w base spare held n t [v] = some y := by
    intro i t hi
    rw [List.getElem?_map] at hi
    obtain ⟨f, hf, rfl⟩ := Option.map_eq_some_iff.1 hi
    exact hc i f (by simpa using hf)
  rw [hty] at hg
  have hl4 : l.length = 5 := by rw [← hsz]; exact hl
  obtain ⟨v0, n0, y0, e0, h0⟩ := hg 0 _ rfl
  obtain ⟨x0, rfl, w0⟩ := int_cell Tryz.underlying3 h0
  obtain ⟨v1, n1, y1, e1, h1⟩ := hg 1 _ rfl
  obtain ⟨x1, rfl, w1⟩ := int_cell Tryz.underlying3 h1
  obtain ⟨v2, n2, y2, e2, h2⟩ := hg 2 _ rfl
  obtain ⟨x2, rfl, w2⟩ := int_cell Tryz.underlying3 h2
  obtain ⟨v3, n3, y3, e3, h3⟩ := hg 3 _ rfl
  obtain ⟨A, n, c, d4, p4, rfl, k4⟩ := slice_cell Tryz.underlying25 h3
  obtain ⟨ts, rfl, g1, g2, g3⟩ := open_intsC k4
  obtain ⟨v4, n4, y4, e4, h4⟩ := hg 4 _ rfl
  obtain ⟨A5, n5, c5, d5, p5, rfl, k5⟩ := slice_cell Tryz.underlying37 h4
  obtain ⟨ss, rfl, g4, g5, g6, _⟩ := open_strsJ k5
  have hcs : l = [.int .i64 x0, .int .i64 x1, .int .i64 x2, .slice A ts.length c, .slice A5 ss.length c5] := List.ext_getElem? (fun i => match i with
    | 0 => e0
    | 1 => e1
    | 2 => e2
    | 3 => e3
    | 4 => e4
    | n + 5 => by rw [List.getElem?_eq_none (by omega), List.getElem?_eq_none (by simp)])
  subst hcs
  exact ⟨⟨x0, x1, x2, ts, A, c, ss, A5, c5⟩, rfl, ⟨g1, g4, g3, g6, g2, inI64_of_wf w0, inI64_of_wf w1, inI64_of_wf w2⟩⟩
theorem open_acts {A : Option Addr} {n c : Nat} {d : DataW H} {p : List MemPlace} (h : DataW.Trod enc0 Tryz.prog w base spare held 32 (.slice A n c) d p) :
    ∃ xs : List EA, n = xs.length ∧ EasAt w A xs := by
  obtain ⟨xs, h1, h2, h3, h4⟩ := open_list Tryz.underlying32 cellsAct (by decide) (fun _ => rfl) elemAct h
  refine ⟨xs, h1, h2, h3, ?_⟩
  simp only [maxLen] at h4
  omega
end
end Go.Proofs.YtlgnggogiopjaaaGreatDoor
