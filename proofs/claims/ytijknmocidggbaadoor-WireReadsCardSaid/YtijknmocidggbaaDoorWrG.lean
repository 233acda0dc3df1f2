/- Contracts of package wire: reading lists. -/
import Derived.Test.YtijknmocidggbaaDoorWrF
namespace Go.Proofs.YtijknmocidggbaaDoor
open Go.RowKit

theorem slInt : SlTy Tryd.prog 22 3 1 8 := by
  obtain ⟨i, hi, h0, h1, h2⟩ := info_parts (show (Tryd.prog.info? 3).map (fun i => (i.zero, i.size, i.bytes)) = some (some (.int .i64 0), 1, 8) by kernel_rfl)
  exact ⟨Tryd.underlying22, ⟨i, _, hi, h0, h1, h2, rfl⟩, by decide, by decide⟩
theorem slStr : SlTy Tryd.prog 23 9 1 16 := by
  obtain ⟨i, hi, h0, h1, h2⟩ := info_parts (show (Tryd.prog.info? 9).map (fun i => (i.zero, i.size, i.bytes)) = some (some (.string ByteArray.empty), 1, 16) by kernel_rfl)
  exact ⟨Tryd.underlying23, ⟨i, _, hi, h0, h1, h2, rfl⟩, by decide, by decide⟩
theorem intLay : Lay 1 intE := ⟨fun _ => rfl, fun x u hu => by simp only [intE, List.mem_singleton] at hu; subst hu; rfl⟩
theorem strLay : Lay 1 strE := ⟨fun _ => rfl, fun x u hu => by simp only [strE, List.mem_singleton] at hu; subst hu; rfl⟩
theorem Turn.more {F : Nat → Prop} {a b c : World} (h : Turn F a b) (k : Below a.heap.size b c) : Turn F a c :=
  ⟨k.os.trans h.os, k.tape.trans h.tape, k.output.trans h.output, Nat.le_trans h.size k.size, fun i hi hn => (k.block i hi).trans (h.block i hi hn)⟩

/-- The rounds of 'items'. -/
def itLoop {T : Type} (one : RS → T × RS) : Nat → RS → List T → List T × RS
  | 0, s, out => (out, s)
  | n + 1, s, out => if s.bad then (out, s) else itLoop one n (one s).2 (out ++ [(one s).1])
theorem itLoop_bad {T : Type} (one : RS → T × RS) (n : Nat) (s : RS) (out : List T) (h : s.bad = true) : itLoop one n s out = (out, s) := by
  cases n <;> simp [itLoop, h]
theorem itLoop_go {T : Type} (one : RS → T × RS) (n : Nat) (s : RS) (out : List T) (h : s.bad = false) : itLoop one (n + 1) s out = itLoop one n (one s).2 (out ++ [(one s).1]) := by
  simp [itLoop, h]
/-- What 'items' does. -/
def rItems {T : Type} (one : RS → T × RS) (s : RS) : List T × RS :=
  let r := rNum 91 0 s
  let q := itLoop one r.1.toNat r.2 []
  let s3 := rClose 93 q.2
  if s3.bad then ([], s3) else (q.1, s3)
/-- A reading takes at least a byte, or fails. -/
def Eats {T : Type} (one : RS → T × RS) : Prop := ∀ s, s.bad = false → (one s).2.rest.length + 1 ≤ s.rest.length ∨ ((one s).2.rest.length = 0 ∧ (one s).2.bad = true)
def one1 (b : Bool) : Nat := if b then 1 else 0

set_option maxRecDepth 100000 in
set_option maxHeartbeats 1000000 in
theorem itemsI_any {B : Nat} (b : Nat) (s : RS) (w : World) (hV : Vs B w) (hb : B ≤ b) (h : RdAt b s w) (hl : s.rest.length ≤ 1000000000000) (heat : Eats (rNum 59 (-9223372036854775808))) (hle : ∀ s, ((rNum 59 (-9223372036854775808)) s).2.rest.length ≤ s.rest.length) :
    Calls Tryd.prog 51 #[.pointer (some ⟨b, 0, none⟩), .func (.func 24) #[.pointer (some ⟨b, 0, none⟩)] #[]] w fun x w' => ∃ A c, x = .returned (.slice A (rItems (rNum 59 (-9223372036854775808)) s).1.length c) ∧ OwnL w' w.heap.size 3 1 intE A c (rItems (rNum 59 (-9223372036854775808)) s).1 ∧ RdAt b (rItems (rNum 59 (-9223372036854775808)) s).2 w' ∧ Turn (One b) w w' := by
  have HC := Lib.hid (number_any b s 91 0 w hV hb h hl ⟨by decide, by decide⟩)
  have HD : Hid (rItems (rNum 59 (-9223372036854775808)) s = _) := Lib.hid (show rItems (rNum 59 (-9223372036854775808)) s = (let q := itLoop (rNum 59 (-9223372036854775808)) (rNum 91 0 s).1.toNat (rNum 91 0 s).2 []
    let s3 := rClose 93 q.2
    if s3.bad then ([], s3) else (q.1, s3)) from rfl)
  have HG := Lib.hid (rNum_ge 91 s)
  have HR := Lib.hid (rNum_rest 91 0 s)
  have HN := Lib.hid (rNum_in 91 0 s)
  have hblt := h.lt
  have HEat := Lib.hid heat
  have HLe := Lib.hid hle
  have HL := Lib.hid hl
  have HV := Lib.hid hV
  clear hl heat hle hV
  go_enter Tryd.func51, Tryd.ntmps51
  go_wp2_with fail
  refine HC.out.mono ?_
  rintro x w2 ⟨rfl, h2, t2⟩
  have T2 := Lib.hid t2
  have H2 := Lib.hid h2
  have hD := HD.out
  have hG := HG.out
  have hR := HR.out
  have hN := HN.out
  clear HC HD HG HR HN t2 h h2
  generalize hr : rNum 91 0 s = r at *
  clear hr
  obtain ⟨n, q⟩ := r
  simp only at hD hG H2 hR hN ⊢
  obtain ⟨m, rfl⟩ : ∃ m : Nat, n = m := ⟨n.toNat, by omega⟩
  rw [Int.toNat_natCast] at hD
  have HD := Lib.hid hD
  have HL0 := Lib.hid (Nat.le_trans hR HL.out)
  have HN := Lib.hid hN
  clear hD hG hR hN
  go_wp2_with fail
  go_loopw [5, 6] (fun o i wr => ∃ (k : Nat) (s' : RS) (out : List (Int)) (A : Option Addr) (c : Nat), i = .int .i64 k ∧ k ≤ m ∧ o = .slice A out.length c ∧ OwnL wr w.heap.size 3 1 intE A c out ∧ RdAt b s' wr ∧ Turn (One b) w wr ∧ itLoop (rNum 59 (-9223372036854775808)) m q [] = itLoop (rNum 59 (-9223372036854775808)) k s' out ∧ out.length + s'.rest.length ≤ q.rest.length + one1 s'.bad) (fun _ i _ => (intOf i).toNat)
  case atStart => exact ⟨m, q, [], none, 0, rfl, Nat.le_refl _, rfl, OwnL.nil_, H2.out, T2.out, rfl, by simp⟩
  case round =>
    obtain ⟨k, s', out, A, c, rfl, hkm, rfl, hown, hrd, htu, heq, hlen⟩ := hrel
    have HO := Lib.hid hown
    have H3 := Lib.hid hrd
    have T3 := Lib.hid htu
    have HE := Lib.hid heq
    have HLn := Lib.hid hlen
    have c1 := hrd.c1
    have hN := HN.out.2
    clear hown hrd htu heq hlen H2 T2
    by_cases hk0 : 0 < k ∧ s'.bad = false
    · obtain ⟨hk, hbad⟩ := hk0
      obtain ⟨k, rfl⟩ : ∃ j, k = j + 1 := ⟨k - 1, by omega⟩
      rw [hbad] at c1
      have HB := Lib.hid hbad
      have V3 := Lib.hid (HV.out.on (turn_below T3.out HV.out.le hb))
      clear hbad
      go_wp2_with fail
      have hL1 : s'.rest.length ≤ 1000000000000 := by have := HLn.out; have := HL0.out; rw [HB.out] at *; simp [one1] at *; omega
      refine (rdInt_any b s' wr V3.out hb H3.out hL1).mono ?_
      rintro x w4 ⟨rfl, hr4, ht4⟩
      have H4 := Lib.hid hr4
      have T4 := Lib.hid (T3.out.trans ht4 (fun i hi => .inl hi))
      have HO4 := Lib.hid (HO.out.turn (w' := w4) (fun i hi hlt => ht4.block i hlt (fun e => by have := (HO.out.blk_lt hi).1; unfold One at e; omega)))
      have hea := HEat.out s' HB.out
      have HE4 := Lib.hid (HE.out.trans (itLoop_go (rNum 59 (-9223372036854775808)) k s' out HB.out))
      have hln := HLn.out
      rw [HB.out] at hln
      have HL4 : Hid ((out ++ [((rNum 59 (-9223372036854775808)) s').1]).length + ((rNum 59 (-9223372036854775808)) s').2.rest.length ≤ q.rest.length + one1 ((rNum 59 (-9223372036854775808)) s').2.bad) := Lib.hid (by
        rcases hea with h | ⟨h, hb⟩
        · have e0 : one1 false = 0 := rfl
          rw [e0] at hln
          simp only [List.length_append, List.length_cons, List.length_nil]
          omega
        · have e0 : one1 false = 0 := rfl
          have e1 : one1 true = 1 := rfl
          rw [e0] at hln
          rw [hb, e1]
          simp only [List.length_append, List.length_cons, List.length_nil]
          omega)
      have HB5 : Hid (out.length + 1 ≤ 1000000000002) := Lib.hid (by have := HL0.out; simp [one1] at hln; omega)
      clear hr4 ht4 HO H3 T3 HE HLn hea hln c1
      generalize (rNum 59 (-9223372036854775808)) s' = y at *
      obtain ⟨yv, ys⟩ := y
      simp only at H4 HE4 HL4 ⊢
      go_wp2_with (at_builtin; refine wp_append_l rfl (.tmp 20) (.tmp 23) rfl slInt intLay w.heap.size (xs := out) (ys := [yv]) rfl rfl (HO4.out.alloc _) rfl rfl (RdL.one w4 yv _ _ rfl _ rfl) (by have := HB5.out; simp; omega) (by have := T4.out.size; simp; omega) ?_; intro A2 c2 w6 hown hg hb2 hat; have HO2 := Lib.hid hown; have HB2 := Lib.hid (((Below.refl w.heap.size w4).alloc T4.out.size _).trans hb2); clear hown hg hb2 hat)
      go_roundw
      case rel => exact ⟨k, ys, out ++ [yv], A2, c2, by go_num, by omega, by simp, HO2.out, (HB2.out.block b hblt).trans H4.out, T4.out.more HB2.out, HE4.out, HL4.out⟩
      case measure => simp [intOf]
    · have HE5 : Hid (itLoop (rNum 59 (-9223372036854775808)) m q [] = (out, s')) := Lib.hid (by
        rw [HE.out]
        by_cases hk : 0 < k
        · have : s'.bad = true := by
            cases hbb : s'.bad with
            | true => rfl
            | false => exact absurd ⟨hk, hbb⟩ hk0
          exact itLoop_bad _ _ _ _ this
        · have : k = 0 := by omega
          subst this; rfl)
      have hD := HD.out
      rw [HE5.out] at hD
      have HD := Lib.hid hD
      clear hD HE HE5
      have f0 := H3.out.free 0
      have c0 := H3.out.c0
      have hcase : (0 < k ∧ s'.bad = true) ∨ k = 0 := by
        by_cases hk : 0 < k
        · refine .inl ⟨hk, ?_⟩
          cases hbb : s'.bad with
          | true => rfl
          | false => exact absurd ⟨hk, hbb⟩ hk0
        · exact .inr (by omega)
      clear hk0
      rcases hcase with ⟨hk, hbd⟩ | hk
      · rw [hbd] at c1
        clear hbd
        go_wp2_with fail
        refine (close_any b s' 93 wr H3.out).mono ?_
        rintro x w4 ⟨rfl, hr4, ht4⟩
        have H4 := Lib.hid hr4
        have T4 := Lib.hid (T3.out.trans ht4 (fun i hi => .inl hi))
        have HO4 := Lib.hid (HO.out.turn (w' := w4) (fun i hi hlt => ht4.block i hlt (fun e => by have := (HO.out.blk_lt hi).1; unfold One at e; omega)))
        have d1 := hr4.c1
        clear hr4 ht4 HO H3 T3 c1 c0 f0
        generalize rClose 93 s' = s3 at *
        cases hb3 : s3.bad with
        | true =>
          rw [hb3] at d1
          have hD := HD.out
          rw [hb3] at hD
          have HD := Lib.hid hD
          clear hD hb3
          go_wp2_with fail
          go_ret
          rw [HD.out]
          exact ⟨none, 0, rfl, OwnL.nil_, H4.out, T4.out⟩
        | false =>
          rw [hb3] at d1
          have hD := HD.out
          rw [hb3] at hD
          have HD := Lib.hid hD
          clear hD hb3
          go_wp2_with fail
          go_ret
          rw [HD.out]
          exact ⟨A, c, rfl, HO4.out, H4.out, T4.out⟩
      · subst hk
        go_wp2_with fail
        refine (close_any b s' 93 wr H3.out).mono ?_
        rintro x w4 ⟨rfl, hr4, ht4⟩
        have H4 := Lib.hid hr4
        have T4 := Lib.hid (T3.out.trans ht4 (fun i hi => .inl hi))
        have HO4 := Lib.hid (HO.out.turn (w' := w4) (fun i hi hlt => ht4.block i hlt (fun e => by have := (HO.out.blk_lt hi).1; unfold One at e; omega)))
        have d1 := hr4.c1
        clear hr4 ht4 HO H3 T3 c1 c0 f0
        generalize rClose 93 s' = s3 at *
        cases hb3 : s3.bad with
        | true =>
          rw [hb3] at d1
          have hD := HD.out
          rw [hb3] at hD
          have HD := Lib.hid hD
          clear hD hb3
          go_wp2_with fail
          go_ret
          rw [HD.out]
          exact ⟨none, 0, rfl, OwnL.nil_, H4.out, T4.out⟩
        | false =>
          rw [hb3] at d1
          have hD := HD.out
          rw [hb3] at hD
          have HD := Lib.hid hD
          clear hD hb3
          go_wp2_with fail
          go_ret
          rw [HD.out]
          exact ⟨A, c, rfl, HO4.out, H4.out, T4.out⟩
set_option maxRecDepth 100000 in
set_option maxHeartbeats 1000000 in
theorem itemsS_any {B : Nat} (b : Nat) (s : RS) (w : World) (hV : Vs B w) (hb : B ≤ b) (h : RdAt b s w) (hl : s.rest.length ≤ 1000000000000) (heat : Eats rText) (hle : ∀ s, (rText s).2.rest.length ≤ s.rest.length) :
    Calls Tryd.prog 52 #[.pointer (some ⟨b, 0, none⟩), .func (.func 25) #[.pointer (some ⟨b, 0, none⟩)] #[]] w fun x w' => ∃ A c, x = .returned (.slice A (rItems rText s).1.length c) ∧ OwnL w' w.heap.size 9 1 strE A c (rItems rText s).1 ∧ RdAt b (rItems rText s).2 w' ∧ Turn (One b) w w' := by
  have HC := Lib.hid (number_any b s 91 0 w hV hb h hl ⟨by decide, by decide⟩)
  have HD : Hid (rItems rText s = _) := Lib.hid (show rItems rText s = (let q := itLoop rText (rNum 91 0 s).1.toNat (rNum 91 0 s).2 []
    let s3 := rClose 93 q.2
    if s3.bad then ([], s3) else (q.1, s3)) from rfl)
  have HG := Lib.hid (rNum_ge 91 s)
  have HR := Lib.hid (rNum_rest 91 0 s)
  have HN := Lib.hid (rNum_in 91 0 s)
  have hblt := h.lt
  have HEat := Lib.hid heat
  have HLe := Lib.hid hle
  have HL := Lib.hid hl
  have HV := Lib.hid hV
  clear hl heat hle hV
  go_enter Tryd.func52, Tryd.ntmps52
  go_wp2_with fail
  refine HC.out.mono ?_
  rintro x w2 ⟨rfl, h2, t2⟩
  have T2 := Lib.hid t2
  have H2 := Lib.hid h2
  have hD := HD.out
  have hG := HG.out
  have hR := HR.out
  have hN := HN.out
  clear HC HD HG HR HN t2 h h2
  generalize hr : rNum 91 0 s = r at *
  clear hr
  obtain ⟨n, q⟩ := r
  simp only at hD hG H2 hR hN ⊢
  obtain ⟨m, rfl⟩ : ∃ m : Nat, n = m := ⟨n.toNat, by omega⟩
  rw [Int.toNat_natCast] at hD
  have HD := Lib.hid hD
  have HL0 := Lib.hid (Nat.le_trans hR HL.out)
  have HN := Lib.hid hN
  clear hD hG hR hN
  go_wp2_with fail
  go_loopw [5, 6] (fun o i wr => ∃ (k : Nat) (s' : RS) (out : List ((List UInt8))) (A : Option Addr) (c : Nat), i = .int .i64 k ∧ k ≤ m ∧ o = .slice A out.length c ∧ OwnL wr w.heap.size 9 1 strE A c out ∧ RdAt b s' wr ∧ Turn (One b) w wr ∧ itLoop rText m q [] = itLoop rText k s' out ∧ out.length + s'.rest.length ≤ q.rest.length + one1 s'.bad) (fun _ i _ => (intOf i).toNat)
  case atStart => exact ⟨m, q, [], none, 0, rfl, Nat.le_refl _, rfl, OwnL.nil_, H2.out, T2.out, rfl, by simp⟩
  case round =>
    obtain ⟨k, s', out, A, c, rfl, hkm, rfl, hown, hrd, htu, heq, hlen⟩ := hrel
    have HO := Lib.hid hown
    have H3 := Lib.hid hrd
    have T3 := Lib.hid htu
    have HE := Lib.hid heq
    have HLn := Lib.hid hlen
    have c1 := hrd.c1
    have hN := HN.out.2
    clear hown hrd htu heq hlen H2 T2
    by_cases hk0 : 0 < k ∧ s'.bad = false
    · obtain ⟨hk, hbad⟩ := hk0
      obtain ⟨k, rfl⟩ : ∃ j, k = j + 1 := ⟨k - 1, by omega⟩
      rw [hbad] at c1
      have HB := Lib.hid hbad
      have V3 := Lib.hid (HV.out.on (turn_below T3.out HV.out.le hb))
      clear hbad
      go_wp2_with fail
      have hL1 : s'.rest.length ≤ 1000000000000 := by have := HLn.out; have := HL0.out; rw [HB.out] at *; simp [one1] at *; omega
      refine (rdText_any b s' wr V3.out hb H3.out hL1).mono ?_
      rintro x w4 ⟨rfl, hr4, ht4⟩
      have H4 := Lib.hid hr4
      have T4 := Lib.hid (T3.out.trans ht4 (fun i hi => .inl hi))
      have HO4 := Lib.hid (HO.out.turn (w' := w4) (fun i hi hlt => ht4.block i hlt (fun e => by have := (HO.out.blk_lt hi).1; unfold One at e; omega)))
      have hea := HEat.out s' HB.out
      have HE4 := Lib.hid (HE.out.trans (itLoop_go rText k s' out HB.out))
      have hln := HLn.out
      rw [HB.out] at hln
      have HL4 : Hid ((out ++ [(rText s').1]).length + (rText s').2.rest.length ≤ q.rest.length + one1 (rText s').2.bad) := Lib.hid (by
        rcases hea with h | ⟨h, hb⟩
        · have e0 : one1 false = 0 := rfl
          rw [e0] at hln
          simp only [List.length_append, List.length_cons, List.length_nil]
          omega
        · have e0 : one1 false = 0 := rfl
          have e1 : one1 true = 1 := rfl
          rw [e0] at hln
          rw [hb, e1]
          simp only [List.length_append, List.length_cons, List.length_nil]
          omega)
      have HB5 : Hid (out.length + 1 ≤ 1000000000002) := Lib.hid (by have := HL0.out; simp [one1] at hln; omega)
      clear hr4 ht4 HO H3 T3 HE HLn hea hln c1
      generalize rText s' = y at *
      obtain ⟨yv, ys⟩ := y
      simp only at H4 HE4 HL4 ⊢
      go_wp2_with (at_builtin; refine wp_append_l rfl (.tmp 20) (.tmp 23) rfl slStr strLay w.heap.size (xs := out) (ys := [yv]) rfl rfl (HO4.out.alloc _) rfl rfl (RdL.one w4 yv _ _ rfl _ rfl) (by have := HB5.out; simp; omega) (by have := T4.out.size; simp; omega) ?_; intro A2 c2 w6 hown hg hb2 hat; have HO2 := Lib.hid hown; have HB2 := Lib.hid (((Below.refl w.heap.size w4).alloc T4.out.size _).trans hb2); clear hown hg hb2 hat)
      go_roundw
      case rel => exact ⟨k, ys, out ++ [yv], A2, c2, by go_num, by omega, by simp, HO2.out, (HB2.out.block b hblt).trans H4.out, T4.out.more HB2.out, HE4.out, HL4.out⟩
      case measure => simp [intOf]
    · have HE5 : Hid (itLoop rText m q [] = (out, s')) := Lib.hid (by
        rw [HE.out]
        by_cases hk : 0 < k
        · have : s'.bad = true := by
            cases hbb : s'.bad with
            | true => rfl
            | false => exact absurd ⟨hk, hbb⟩ hk0
          exact itLoop_bad _ _ _ _ this
        · have : k = 0 := by omega
          subst this; rfl)
      have hD := HD.out
      rw [HE5.out] at hD
      have HD := Lib.hid hD
      clear hD HE HE5
      have f0 := H3.out.free 0
      have c0 := H3.out.c0
      have hcase : (0 < k ∧ s'.bad = true) ∨ k = 0 := by
        by_cases hk : 0 < k
        · refine .inl ⟨hk, ?_⟩
          cases hbb : s'.bad with
          | true => rfl
          | false => exact absurd ⟨hk, hbb⟩ hk0
        · exact .inr (by omega)
      clear hk0
      rcases hcase with ⟨hk, hbd⟩ | hk
      · rw [hbd] at c1
        clear hbd
        go_wp2_with fail
        refine (close_any b s' 93 wr H3.out).mono ?_
        rintro x w4 ⟨rfl, hr4, ht4⟩
        have H4 := Lib.hid hr4
        have T4 := Lib.hid (T3.out.trans ht4 (fun i hi => .inl hi))
        have HO4 := Lib.hid (HO.out.turn (w' := w4) (fun i hi hlt => ht4.block i hlt (fun e => by have := (HO.out.blk_lt hi).1; unfold One at e; omega)))
        have d1 := hr4.c1
        clear hr4 ht4 HO H3 T3 c1 c0 f0
        generalize rClose 93 s' = s3 at *
        cases hb3 : s3.bad with
        | true =>
          rw [hb3] at d1
          have hD := HD.out
          rw [hb3] at hD
          have HD := Lib.hid hD
          clear hD hb3
          go_wp2_with fail
          go_ret
          rw [HD.out]
          exact ⟨none, 0, rfl, OwnL.nil_, H4.out, T4.out⟩
        | false =>
          rw [hb3] at d1
          have hD := HD.out
          rw [hb3] at hD
          have HD := Lib.hid hD
          clear hD hb3
          go_wp2_with fail
          go_ret
          rw [HD.out]
          exact ⟨A, c, rfl, HO4.out, H4.out, T4.out⟩
      · subst hk
        go_wp2_with fail
        refine (close_any b s' 93 wr H3.out).mono ?_
        rintro x w4 ⟨rfl, hr4, ht4⟩
        have H4 := Lib.hid hr4
        have T4 := Lib.hid (T3.out.trans ht4 (fun i hi => .inl hi))
        have HO4 := Lib.hid (HO.out.turn (w' := w4) (fun i hi hlt => ht4.block i hlt (fun e => by have := (HO.out.blk_lt hi).1; unfold One at e; omega)))
        have d1 := hr4.c1
        clear hr4 ht4 HO H3 T3 c1 c0 f0
        generalize rClose 93 s' = s3 at *
        cases hb3 : s3.bad with
        | true =>
          rw [hb3] at d1
          have hD := HD.out
          rw [hb3] at hD
          have HD := Lib.hid hD
          clear hD hb3
          go_wp2_with fail
          go_ret
          rw [HD.out]
          exact ⟨none, 0, rfl, OwnL.nil_, H4.out, T4.out⟩
        | false =>
          rw [hb3] at d1
          have hD := HD.out
          rw [hb3] at hD
          have HD := Lib.hid hD
          clear hD hb3
          go_wp2_with fail
          go_ret
          rw [HD.out]
          exact ⟨A, c, rfl, HO4.out, H4.out, T4.out⟩
theorem rNum_eats (e : UInt8) (m : Int) : Eats (rNum e m) := fun s hs => by
  have h1 := indexByte_in (s.rest.take 21) e
  have h2 : (s.rest.take 21).length ≤ s.rest.length := by simp; omega
  unfold rNum RS.fail
  simp only
  split
  · exact .inr ⟨rfl, rfl⟩
  · have h3 := h1 (by omega)
    split
    · split
      · left
        show (s.rest.drop ((Lib.indexByte (s.rest.take 21) e).toNat + 1)).length + 1 ≤ _
        rw [List.length_drop]
        omega
      · exact .inr ⟨rfl, rfl⟩
    · exact .inr ⟨rfl, rfl⟩
theorem rText_eats : Eats rText := fun s hs => by
  have h1 := rNum_eats 58 0 s hs
  unfold rText
  simp only
  split
  · exact .inr ⟨rfl, rfl⟩
  · generalize rNum 58 0 s = r at *
    have h2 := rClose_rest 44 ⟨r.2.rest.drop r.1.toNat, r.2.bad⟩
    have h3 : (rClose 44 ⟨r.2.rest.drop r.1.toNat, r.2.bad⟩).bad = true → r.2.bad = true ∨ (rClose 44 ⟨r.2.rest.drop r.1.toNat, r.2.bad⟩).rest.length = 0 := by
      unfold rClose RS.fail
      split
      · exact fun h => .inl h
      · exact fun _ => .inr rfl
    have h4 : r.2.bad = true → (rClose 44 ⟨r.2.rest.drop r.1.toNat, r.2.bad⟩).bad = true := by
      unfold rClose RS.fail
      split
      · exact fun h => h
      · exact fun _ => rfl
    generalize rClose 44 ⟨r.2.rest.drop r.1.toNat, r.2.bad⟩ = s3 at *
    simp only [List.length_drop] at h2
    split
    · rename_i hb
      show s3.rest.length + 1 ≤ _ ∨ (s3.rest.length = 0 ∧ s3.bad = true)
      rcases h1 with h1 | ⟨h1, hbad⟩
      · exact .inl (by omega)
      · exact .inr ⟨by omega, hb⟩
    · rename_i hb
      show s3.rest.length + 1 ≤ _ ∨ (s3.rest.length = 0 ∧ s3.bad = true)
      rcases h1 with h1 | ⟨h1, hbad⟩
      · exact .inl (by omega)
      · exact absurd (h4 hbad) hb
theorem rdNums_any {B : Nat} (b : Nat) (s : RS) (w : World) (hV : Vs B w) (hb : B ≤ b) (h : RdAt b s w) (hl : s.rest.length ≤ 1000000000000) :
    Calls Tryd.prog 26 #[.pointer (some ⟨b, 0, none⟩)] w fun x w' => ∃ A c, x = .returned (.slice A (rItems (rNum 59 (-9223372036854775808)) s).1.length c) ∧ OwnL w' w.heap.size 3 1 intE A c (rItems (rNum 59 (-9223372036854775808)) s).1 ∧ RdAt b (rItems (rNum 59 (-9223372036854775808)) s).2 w' ∧ Turn (One b) w w' := by
  have HC := Lib.hid (itemsI_any b s w hV hb h hl (rNum_eats _ _) (rNum_rest _ _))
  clear hV hb h hl
  go_enter Tryd.func26, Tryd.ntmps26
  go_wp2_with fail
  refine HC.out.mono ?_
  rintro x w2 ⟨A, c, rfl, ho, h2, t2⟩
  have HO := Lib.hid ho
  have H2 := Lib.hid h2
  have T2 := Lib.hid t2
  clear HC ho h2 t2
  go_wp2_with fail
  go_ret
  exact ⟨A, c, rfl, HO.out, H2.out, T2.out⟩
theorem rdTexts_any {B : Nat} (b : Nat) (s : RS) (w : World) (hV : Vs B w) (hb : B ≤ b) (h : RdAt b s w) (hl : s.rest.length ≤ 1000000000000) :
    Calls Tryd.prog 27 #[.pointer (some ⟨b, 0, none⟩)] w fun x w' => ∃ A c, x = .returned (.slice A (rItems rText s).1.length c) ∧ OwnL w' w.heap.size 9 1 strE A c (rItems rText s).1 ∧ RdAt b (rItems rText s).2 w' ∧ Turn (One b) w w' := by
  have HC := Lib.hid (itemsS_any b s w hV hb h hl (rText_eats) (rText_rest))
  clear hV hb h hl
  go_enter Tryd.func27, Tryd.ntmps27
  go_wp2_with fail
  refine HC.out.mono ?_
  rintro x w2 ⟨A, c, rfl, ho, h2, t2⟩
  have HO := Lib.hid ho
  have H2 := Lib.hid h2
  have T2 := Lib.hid t2
  clear HC ho h2 t2
  go_wp2_with fail
  go_ret
  exact ⟨A, c, rfl, HO.out, H2.out, T2.out⟩
end Go.Proofs.YtijknmocidggbaaDoor
