/- Contracts and plain laws, joined: ErK, ErP, ErQ. -/
import Derived.Test.YtjmkodkechahdaaGreatDoorQbf
import Derived.Test.YtjmkodkechahdaaGreatDoorQbc
import Derived.Test.YtjmkodkechahdaaGreatDoorQak
/- Contracts of linguaref43.Strings, FewRecords, of linguaref41.Same. -/
set_option linter.unusedSimpArgs false
set_option linter.unusedVariables false
namespace Go.Proofs.YtjmkodkechahdaaGreatDoor
open Go.RowKit
set_option maxRecDepth 100000
set_option maxHeartbeats 1000000 in
theorem strs_any (xs ys : List (List UInt8)) (A B : Option Addr) (c d : Nat) (w : World) (hr : RdL 1 strE w w.heap.size A xs) (hs : RdL 1 strE w w.heap.size B ys) (hx : xs.length ≤ 9223372036854775807) (hy : ys.length ≤ 9223372036854775807) :
    Calls Tryz.prog 11 #[.slice A xs.length c, .slice B ys.length d] w fun e w' => e = .returned (.bool (xs == ys)) ∧ Below w.heap.size w w' := by
  have HR := Lib.hid hr
  have HS := Lib.hid hs
  have HFin : Hid (∀ b : Bool, (xs = ys ↔ b = true) → (xs == ys) = b) := Lib.hid fun b h => by
    cases b with
    | true => simpa using h.2 rfl
    | false => simp only [beq_eq_false_iff_ne]; intro e; exact absurd (h.1 e) (by simp)
  clear hr hs
  by_cases hl : xs.length = ys.length
  · have hl2 : ((xs.length : Int) != ys.length) = false := by simp [hl]
    go_enter Tryz.func11, Tryz.ntmps11
    have HL := Lib.hid hl
    clear hl
    go_wp2
    go_loopw [5] (fun i wr => ∃ k : Nat, k ≤ xs.length ∧ i = .int .i64 k ∧ xs.take k = ys.take k ∧ Below w.heap.size w wr) (fun i _ => xs.length - (intOf i).toNat)
    case atStart => exact ⟨0, Nat.zero_le _, rfl, by simp, Below.refl _ _⟩
    case round =>
      obtain ⟨k, hk, rfl, hf, hbw⟩ := hrel
      have HF := Lib.hid hf
      have HB := Lib.hid hbw
      clear hf
      by_cases hlt : k < xs.length
      · have hlt2 : k < ys.length := by have := HL.out; omega
        obtain ⟨b, off, hA, hb, c0⟩ := rd_str' (HR.out.now hbw) hlt
        obtain ⟨b2, off2, hA2, hb2, c1⟩ := rd_str' (HS.out.now hbw) hlt2
        subst hA hA2
        have HSt := Lib.hid (eq_take xs ys k hlt hlt2 HF.out)
        have HNe := Lib.hid (ne_at xs ys k hlt hlt2)
        have hi0 : (0 : Int) ≤ (k : Int) := by omega
        have hi1 : (k : Int) < (xs.length : Int) := by omega
        have hi2 : (k : Int) < (ys.length : Int) := by omega
        clear hbw
        generalize xs[k] = x at *
        generalize ys[k] = y at *
        by_cases hv : x = y
        · have hv2 : ((bs x).toList != (bs y).toList) = false := by rw [bne, bs_beq, hv]; simp
          have hv3 : ((bs x).toList == (bs y).toList) = true := by rw [bne, Bool.not_eq_false'] at hv2; exact hv2
          have HV := Lib.hid hv
          clear hv
          go_wp2_with fail
          go_quiet (fail)
          go_wp2
          go_roundw
          case rel => exact ⟨k + 1, by omega, by go_num, HSt.out HV.out, below_drewN HB.out _⟩
          case measure => simp [intOf]; omega
        · have hv2 : ((bs x).toList != (bs y).toList) = true := by rw [bne, bs_beq]; simpa using hv
          have hv3 : ((bs x).toList == (bs y).toList) = false := by rw [bne, Bool.not_eq_true'] at hv2; exact hv2
          have HV := Lib.hid (HNe.out hv)
          clear hv
          go_wp2_with fail
          go_quiet (fail)
          go_wp2
          go_ret
          exact ⟨ret_bool (HFin.out false ⟨fun h => absurd h HV.out, fun h => by simp at h⟩).symm, below_drewN HB.out _⟩
      · have HE : Hid (xs = ys) := Lib.hid (by
          have h1 := HF.out
          have := HL.out
          rwa [List.take_of_length_le (by omega), List.take_of_length_le (by omega)] at h1)
        go_wp2
        go_ret
        exact ⟨ret_bool (HFin.out true ⟨fun _ => rfl, fun _ => HE.out⟩).symm, HB.out⟩
  · have hl2 : ((xs.length : Int) != ys.length) = true := by simp; omega
    have HN := Lib.hid hl
    clear hl
    go_enter Tryz.func11, Tryz.ntmps11
    go_wp2
    go_ret
    exact ⟨ret_bool (HFin.out false ⟨fun h => absurd (by rw [h]) HN.out, fun h => by simp at h⟩).symm, Below.refl _ _⟩
set_option maxHeartbeats 1000000 in
theorem same41_any (xs ys : List Int) (A B : Option Addr) (c d : Nat) (w : World) (hr : RdL 1 intE w w.heap.size A xs) (hs : RdL 1 intE w w.heap.size B ys) (hx : xs.length ≤ 9223372036854775807) (hy : ys.length ≤ 9223372036854775807) :
    Calls Tryz.prog 20 #[.slice A xs.length c, .slice B ys.length d] w fun e w' => e = .returned (.bool (xs == ys)) ∧ Below w.heap.size w w' := by
  have HR := Lib.hid hr
  have HS := Lib.hid hs
  have HFin : Hid (∀ b : Bool, (xs = ys ↔ b = true) → (xs == ys) = b) := Lib.hid fun b h => by
    cases b with
    | true => simpa using h.2 rfl
    | false => simp only [beq_eq_false_iff_ne]; intro e; exact absurd (h.1 e) (by simp)
  clear hr hs
  by_cases hl : xs.length = ys.length
  · have hl2 : ((xs.length : Int) != ys.length) = false := by simp [hl]
    go_enter Tryz.func20, Tryz.ntmps20
    have HL := Lib.hid hl
    clear hl
    go_wp2
    go_loopw [5] (fun i wr => ∃ k : Nat, k ≤ xs.length ∧ i = .int .i64 k ∧ xs.take k = ys.take k ∧ Below w.heap.size w wr) (fun i _ => xs.length - (intOf i).toNat)
    case atStart => exact ⟨0, Nat.zero_le _, rfl, by simp, Below.refl _ _⟩
    case round =>
      obtain ⟨k, hk, rfl, hf, hbw⟩ := hrel
      have HF := Lib.hid hf
      have HB := Lib.hid hbw
      clear hf
      by_cases hlt : k < xs.length
      · have hlt2 : k < ys.length := by have := HL.out; omega
        obtain ⟨b, off, hA, hb, c0⟩ := rd_int' (HR.out.now hbw) hlt
        obtain ⟨b2, off2, hA2, hb2, c1⟩ := rd_int' (HS.out.now hbw) hlt2
        subst hA hA2
        have HSt := Lib.hid (eq_take xs ys k hlt hlt2 HF.out)
        have HNe := Lib.hid (ne_at xs ys k hlt hlt2)
        have hi0 : (0 : Int) ≤ (k : Int) := by omega
        have hi1 : (k : Int) < (xs.length : Int) := by omega
        have hi2 : (k : Int) < (ys.length : Int) := by omega
        clear hbw
        generalize xs[k] = x at *
        generalize ys[k] = y at *
        by_cases hv : x = y
        · have hv2 : (x != y) = false := by simp [hv]
          have hv3 : (x == y) = true := by rw [bne, Bool.not_eq_false'] at hv2; exact hv2
          have HV := Lib.hid hv
          clear hv
          go_wp2_with fail
          go_quiet (fail)
          go_wp2
          go_roundw
          case rel => exact ⟨k + 1, by omega, by go_num, HSt.out HV.out, below_drewN HB.out _⟩
          case measure => simp [intOf]; omega
        · have hv2 : (x != y) = true := by simp [hv]
          have hv3 : (x == y) = false := by rw [bne, Bool.not_eq_true'] at hv2; exact hv2
          have HV := Lib.hid (HNe.out hv)
          clear hv
          go_wp2_with fail
          go_quiet (fail)
          go_wp2
          go_ret
          exact ⟨ret_bool (HFin.out false ⟨fun h => absurd h HV.out, fun h => by simp at h⟩).symm, below_drewN HB.out _⟩
      · have HE : Hid (xs = ys) := Lib.hid (by
          have h1 := HF.out
          have := HL.out
          rwa [List.take_of_length_le (by omega), List.take_of_length_le (by omega)] at h1)
        go_wp2
        go_ret
        exact ⟨ret_bool (HFin.out true ⟨fun _ => rfl, fun _ => HE.out⟩).symm, HB.out⟩
  · have hl2 : ((xs.length : Int) != ys.length) = true := by simp; omega
    have HN := Lib.hid hl
    clear hl
    go_enter Tryz.func20, Tryz.ntmps20
    go_wp2
    go_ret
    exact ⟨ret_bool (HFin.out false ⟨fun h => absurd (by rw [h]) HN.out, fun h => by simp at h⟩).symm, Below.refl _ _⟩
def FewL (l : List (List UInt8)) : Prop := l.length ≤ 6 ∧ ∀ s ∈ l, s.length ≤ 200
def FewRP (l : List (List UInt8)) (w : World) (e : Ending) (w' : World) : Prop := ∃ b : Bool, e = .returned (.bool b) ∧ (b = true → FewL l) ∧ w = w'
theorem rFewR_any (l : List (List UInt8)) (A : Option Addr) (c : Nat) (w : World) (hr : RdL 1 strE w w.heap.size A l) (hl : l.length ≤ 9223372036854775807) :
    Calls Tryz.prog 24 #[.slice A l.length c] w (FewRP l w) := by
  have HR := Lib.hid hr
  clear hr
  go_enter Tryz.func24, Tryz.ntmps24
  go_wp2_with fail
  go_loopw [3] (fun i wr => ∃ k : Nat, k ≤ l.length ∧ k ≤ 7 ∧ i = .int .i64 k ∧ (∀ s ∈ l.take k, s.length ≤ 200) ∧ w = wr) (fun i _ => 8 - (intOf i).toNat)
  case atStart => exact ⟨0, Nat.zero_le _, Nat.zero_le _, rfl, fun s hs => by simp at hs, rfl⟩
  case round =>
    obtain ⟨k, hk, hk7, rfl, hf, rfl⟩ := hrel
    have HFk := Lib.hid hf
    clear hf
    by_cases hlt : k < l.length ∧ k ≤ 6
    · obtain ⟨hlt, hk6⟩ := hlt
      have d1 : decide ((k : Int) < (l.length : Int)) = true := by simp; omega
      have d2 : decide ((k : Int) ≤ 6) = true := by simp; omega
      obtain ⟨b, off, rfl, hc⟩ := rd_str HR.out hlt
      have HTk := Lib.hid (fun (h : l[k].length ≤ 200) => take_step (fun s : List UInt8 => s.length ≤ 200) l k hlt HFk.out h)
      have hz : (bs l[k]).size = l[k].length := bs_size _
      generalize l[k] = s at *
      cases hs : decide ((200 : Int) < (s.length : Int)) with
      | true =>
        go_wp2_with fail
        go_ret
        exact ⟨false, rfl, fun h => (by cases h), rfl⟩
      | false =>
        have hs2 : s.length ≤ 200 := by simp at hs; omega
        have HN := Lib.hid (HTk.out hs2)
        clear hs2
        go_wp2_with fail
        go_roundw
        case rel => exact ⟨k + 1, by omega, by omega, by go_num, HN.out, by trivial⟩
        case measure => simp [intOf]; omega
    · by_cases h6 : l.length ≤ 6
      · have HAll : Hid (FewL l) := Lib.hid ⟨h6, by
          have := HFk.out
          rwa [List.take_of_length_le (by omega)] at this⟩
        have d3 : decide ((l.length : Int) ≤ 6) = true := by simp; omega
        go_wp2
        all_goals go_ret
        all_goals exact ⟨_, rfl, fun _ => HAll.out, rfl⟩
      · go_wp2
        all_goals go_ret
        all_goals exact ⟨_, rfl, fun h => by first | omega | (simp at h; done) | (simp at h; omega), rfl⟩
end Go.Proofs.YtjmkodkechahdaaGreatDoor
/- Places in plain Lean and in memory; contracts of places.Right, marked, indices. -/
set_option linter.unusedSimpArgs false
set_option linter.unusedVariables false
namespace Go.Proofs.YtjmkodkechahdaaGreatDoor
open Go.RowKit
set_option maxRecDepth 100000

structure PlM where
  kind : Int
  id : Int
  fr : List Int
  A : Option Addr
  c : Nat
def PlM.cs (p : PlM) : List Value := [.int .i64 p.kind, .int .i64 p.id, .slice p.A p.fr.length p.c]
/-- Places that lie in memory. -/
structure PlsAt (w : World) (A : Option Addr) (l : List PlM) : Prop where
  rd : RdL 3 PlM.cs w w.heap.size A l
  fr : ∀ p ∈ l, RdL 1 intE w w.heap.size p.A p.fr
  len : l.length ≤ 1000000000
  fln : ∀ p ∈ l, p.fr.length ≤ 9223372036854775807
theorem PlsAt.now {w w' : World} {A : Option Addr} {l : List PlM} (h : PlsAt w A l) (hb : Below w.heap.size w w') : PlsAt w' A l := ⟨h.rd.now hb, fun p hp => (h.fr p hp).now hb, h.len, h.fln⟩
def frOk (i : Int) : Int → List Int → Bool
  | _, [] => true
  | last, f :: r => !(decide (f ≤ last) || decide (i ≤ f)) && frOk i f r
def plOk (i : Nat) (p : PlM) : Bool := !(decide (p.kind < 0) || (decide (8 ≤ p.kind) || (decide (p.id < 0) || decide (1099511627776 < p.id)))) && frOk i (-1) p.fr
def rightFrom : Nat → List PlM → Bool
  | _, [] => true
  | i, p :: r => plOk i p && rightFrom (i + 1) r
def rightP (l : List PlM) : Bool := rightFrom 0 l && decide (l.length ≤ 100000)
theorem rd_pl {w : World} {A : Option Addr} {l : List PlM} {k : Nat} {p : PlM} (h : RdL 3 PlM.cs w w.heap.size A l) (hk : l[k]? = some p) : ∃ b off, A = some ⟨b, off, none⟩ ∧ b < w.heap.size ∧ w.cell? ⟨b, off + k * 3, none⟩ = some (.int .i64 p.kind) ∧ w.cell? ⟨b, off + k * 3 + 1, none⟩ = some (.int .i64 p.id) ∧ w.cell? ⟨b, off + k * 3 + 2, none⟩ = some (.slice p.A p.fr.length p.c) := by
  obtain ⟨b, off, e, hb, hc⟩ := h k p hk
  exact ⟨b, off, e, hb, by simpa using hc 0 _ rfl, hc 1 _ rfl, hc 2 _ rfl⟩
theorem rd_int3 {w : World} {A : Option Addr} {xs : List Int} {k : Nat} {x : Int} (h : RdL 1 intE w w.heap.size A xs) (hk : xs[k]? = some x) : ∃ b off, A = some ⟨b, off, none⟩ ∧ b < w.heap.size ∧ w.cell? ⟨b, off + k, none⟩ = some (.int .i64 x) := by
  obtain ⟨b, off, e, hb, hc⟩ := h k x hk
  exact ⟨b, off, e, hb, by simpa using hc 0 _ rfl⟩
set_option maxHeartbeats 4000000 in
theorem plRight_any (l : List PlM) (A : Option Addr) (c : Nat) (w : World) (h : PlsAt w A l) : Calls Tryz.prog 40 #[.slice A l.length c] w fun e w' => e = .returned (.bool (rightP l)) ∧ Below w.heap.size w w' := by
  have H := Lib.hid h
  have hln := h.len
  have HR : Hid (rightP l = (rightFrom 0 l && decide (l.length ≤ 100000))) := Lib.hid rfl
  clear h
  go_enter Tryz.func40, Tryz.ntmps40
  go_wp2_with fail
  go_loopw [10] (fun i wr => ∃ k : Nat, k ≤ l.length ∧ i = .int .i64 k ∧ rightFrom 0 l = rightFrom k (l.drop k) ∧ Below w.heap.size w wr) (fun i _ => l.length - (intOf i).toNat)
  case atStart => exact ⟨0, Nat.zero_le _, rfl, by rw [List.drop_zero], Below.refl _ _⟩
  case round =>
    obtain ⟨k, hk, rfl, hf, hbw⟩ := hrel
    have HFk := Lib.hid hf
    have HBw := Lib.hid hbw
    have hPl := H.out.now hbw
    clear hf hbw
    by_cases hlt : k < l.length
    · have d1 : decide ((k : Int) < (l.length : Int)) = true := by simp; omega
      obtain ⟨p, hp⟩ : ∃ p, l[k]? = some p := ⟨_, List.getElem?_eq_getElem hlt⟩
      obtain ⟨b, off, rfl, hb, c0, c1, c2⟩ := rd_pl hPl.rd hp
      have HFr := Lib.hid (hPl.fr p (List.mem_of_getElem? hp))
      have hfl := hPl.fln p (List.mem_of_getElem? hp)
      have HSt : Hid (rightFrom 0 l = (plOk k p && rightFrom (k + 1) (l.drop (k + 1)))) := Lib.hid (by
        rw [HFk.out, List.drop_eq_getElem_cons hlt, rightFrom]
        rw [List.getElem?_eq_getElem hlt] at hp
        injection hp with hp
        rw [hp])
      have HOk : Hid (plOk k p = (!(decide (p.kind < 0) || (decide (8 ≤ p.kind) || (decide (p.id < 0) || decide (1099511627776 < p.id)))) && frOk k (-1) p.fr)) := Lib.hid rfl
      clear hp hPl HFk
      obtain ⟨pk, pi, pf, pA, pc⟩ := p
      simp only at c0 c1 c2 HFr hfl HOk
      have HBad : Hid (plOk k ⟨pk, pi, pf, pA, pc⟩ = false → rightP l = false) := Lib.hid (fun h => by rw [HR.out, HSt.out, h]; rfl)
      cases q1 : decide (pk < 0) with
      | true =>
        have HZ := Lib.hid (HBad.out (by rw [HOk.out, q1]; rfl))
        go_wp2_with fail
        go_ret
        exact ⟨by rw [HZ.out]; rfl, HBw.out.alloc HBw.out.size _⟩
      | false =>
      cases q2 : decide (8 ≤ pk) with
      | true =>
        have HZ := Lib.hid (HBad.out (by rw [HOk.out, q1, q2]; rfl))
        go_wp2_with fail
        go_ret
        exact ⟨by rw [HZ.out]; rfl, HBw.out.alloc HBw.out.size _⟩
      | false =>
      cases q3 : decide (pi < 0) with
      | true =>
        have HZ := Lib.hid (HBad.out (by rw [HOk.out, q1, q2, q3]; rfl))
        go_wp2_with fail
        go_ret
        exact ⟨by rw [HZ.out]; rfl, HBw.out.alloc HBw.out.size _⟩
      | false =>
      cases q4 : decide (1099511627776 < pi) with
      | true =>
        have HZ := Lib.hid (HBad.out (by rw [HOk.out, q1, q2, q3, q4]; rfl))
        go_wp2_with fail
        go_ret
        exact ⟨by rw [HZ.out]; rfl, HBw.out.alloc HBw.out.size _⟩
      | false =>
        have HOk2 : Hid (plOk k ⟨pk, pi, pf, pA, pc⟩ = frOk k (-1) pf) := Lib.hid (by rw [HOk.out, q1, q2, q3, q4]; rfl)
        clear HOk
        go_upto_region 8 with fail
        obtain ⟨wo, hwo⟩ : ∃ x, x = wr.alloc (.cells #[.int .i64 pk, .int .i64 pi, .slice pA pf.length pc] 51) := ⟨_, rfl⟩
        have hBo : Below w.heap.size w wo := by rw [hwo]; exact HBw.out.alloc HBw.out.size _
        have hFo : RdL 1 intE wo wo.heap.size pA pf := by rw [hwo]; exact HFr.out.now ((Below.refl _ _).alloc (Nat.le_refl _) _)
        have HBo := Lib.hid hBo
        have HFo := Lib.hid hFo
        rw [← hwo]
        clear hwo hBo hFo c0 c1 c2 HBw HFr q1 q2 q3 q4
        go_loopw [5, 7, 36] (fun la _ j wi => ∃ (m : Nat) (x : Int), m ≤ pf.length ∧ la = .int .i64 x ∧ j = .int .i64 m ∧ frOk k (-1) pf = frOk k x (pf.drop m) ∧ Below wo.heap.size wo wi) (fun _ _ j _ => pf.length - (intOf j).toNat)
        case atStart => exact ⟨0, -1, Nat.zero_le _, rfl, rfl, by rw [List.drop_zero], Below.refl _ _⟩
        case round =>
          obtain ⟨m, x, hm, rfl, rfl, hfr, hbi⟩ := hrel
          have HFr2 := Lib.hid hfr
          have HBi := Lib.hid (HBo.out.trans (hbi.mono HBo.out.size))
          have HBj := Lib.hid hbi
          have hRd := HFo.out.now hbi
          clear hfr hbi
          by_cases hlt2 : m < pf.length
          · have d2 : decide ((m : Int) < (pf.length : Int)) = true := by simp; omega
            obtain ⟨y, hy⟩ : ∃ y, pf[m]? = some y := ⟨_, List.getElem?_eq_getElem hlt2⟩
            obtain ⟨b2, off2, rfl, hb2, c5⟩ := rd_int3 hRd hy
            have HNx : Hid (frOk k (-1) pf = (!(decide (y ≤ x) || decide ((k : Int) ≤ y)) && frOk k y (pf.drop (m + 1)))) := Lib.hid (by
              rw [HFr2.out, List.drop_eq_getElem_cons hlt2, frOk]
              rw [List.getElem?_eq_getElem hlt2] at hy
              injection hy with hy
              rw [hy])
            clear hy hRd HFr2
            cases q1 : decide (y ≤ x) with
            | true =>
              have HZ := Lib.hid (HBad.out (by rw [HOk2.out, HNx.out, q1]; rfl))
              go_wp2_with fail
              go_ret
              exact ⟨by rw [HZ.out]; rfl, HBi.out⟩
            | false =>
            cases q2 : decide ((k : Int) ≤ y) with
            | true =>
              have HZ := Lib.hid (HBad.out (by rw [HOk2.out, HNx.out, q1, q2]; rfl))
              go_wp2_with fail
              go_ret
              exact ⟨by rw [HZ.out]; rfl, HBi.out⟩
            | false =>
              have HN2 : Hid (frOk k (-1) pf = frOk k y (pf.drop (m + 1))) := Lib.hid (by rw [HNx.out, q1, q2]; rfl)
              clear HNx
              go_wp2_with fail
              go_roundw
              case rel => exact ⟨m + 1, y, by omega, rfl, by go_num, HN2.out, HBj.out⟩
              case measure => simp [intOf]; omega
          · obtain rfl : m = pf.length := by omega
            have d2 : decide ((pf.length : Int) < (pf.length : Int)) = false := by simp
            have HOk3 : Hid (rightFrom 0 l = rightFrom (k + 1) (l.drop (k + 1))) := Lib.hid (by rw [HSt.out, HOk2.out, HFr2.out, List.drop_length]; rfl)
            clear HFr2 hRd
            go_wp2_with fail
            go_roundw
            case rel => exact ⟨k + 1, by omega, by go_num, HOk3.out, HBi.out⟩
            case measure => simp [intOf]; omega
    · obtain rfl : k = l.length := by omega
      have d1 : decide ((l.length : Int) < (l.length : Int)) = false := by simp
      have HZ : Hid (rightP l = decide ((l.length : Int) ≤ 100000)) := Lib.hid (by
        rw [HR.out, HFk.out, List.drop_length]
        rw [show rightFrom l.length [] = true from rfl, Bool.true_and, Bool.eq_iff_iff]
        simp; omega)
      clear HFk hPl
      go_wp2_with fail
      go_ret
      exact ⟨by rw [HZ.out]; rfl, HBw.out⟩
end Go.Proofs.YtjmkodkechahdaaGreatDoor
/- Contracts of places.marked and indices. -/
set_option linter.unusedSimpArgs false
set_option linter.unusedVariables false
namespace Go.Proofs.YtjmkodkechahdaaGreatDoor
open Go.RowKit
set_option maxRecDepth 100000

theorem slIntQ : SlTy Tryz.prog 31 3 1 8 := by
  obtain ⟨i, hi, h0, h1, h2⟩ := info_parts (show (Tryz.prog.info? 3).map (fun i => (i.zero, i.size, i.bytes)) = some (some (.int .i64 0), 1, 8) by kernel_rfl)
  exact ⟨Tryz.underlying31, ⟨i, _, hi, h0, h1, h2, rfl⟩, by decide, by decide⟩
theorem intLayQ : Lay 1 intE := ⟨fun _ => rfl, fun x u hu => by simp only [intE, List.mem_singleton] at hu; subst hu; rfl⟩
/-- A row of truth values. -/
def MkAt (g : Nat) (m : List Bool) (w : World) : Prop := w.heap[g]? = some (.cells (m.map Value.bool).toArray 4 (0, 0))
section
variable {g i : Nat} {m : List Bool} {b : Bool} {w w' : World}
theorem MkAt.lt (h : MkAt g m w) : g < w.heap.size := box_lt h
theorem MkAt.now (h : MkAt g m w) (hb : Below w.heap.size w w') : MkAt g m w' := (hb.block g h.lt).trans h
theorem MkAt.c (h : MkAt g m w) (hi : m[i]? = some b) : w.cell? ⟨g, i, none⟩ = some (.bool b) := box_cell h i _ (by simp [hi])
theorem MkAt.f (h : MkAt g m w) (i : Nat) : w.frozen? ⟨g, i, none⟩ = false := box_free h i
theorem MkAt.set (h : MkAt g m w) (i : Nat) (b : Bool) : MkAt g (m.set i b) (w.setCell ⟨g, i, none⟩ (.bool b)) := by
  have := heap_setCell_same w g i _ _ (.bool b) h
  unfold MkAt
  rw [this]
  simp
end
/-- The marks of some numbers. -/
def mk1 (n : Nat) (m : List Bool) (i : Int) : List Bool := if 0 ≤ i ∧ i < n then m.set i.toNat true else m
def mkF (n : Nat) (xs : List Int) : List Bool := xs.foldl (mk1 n) (List.replicate n false)
theorem mk1_len (n : Nat) (m : List Bool) (i : Int) : (mk1 n m i).length = m.length := by unfold mk1; split <;> simp
theorem mkL_len (n : Nat) : ∀ (xs : List Int) (m : List Bool), (xs.foldl (mk1 n) m).length = m.length
  | [], m => rfl
  | x :: r, m => by rw [List.foldl_cons, mkL_len n r, mk1_len]
theorem mkF_len (n : Nat) (xs : List Int) : (mkF n xs).length = n := by unfold mkF; rw [mkL_len]; simp
def idxF : Nat → List Bool → List Int
  | _, [] => []
  | i, b :: r => if b = true then (i : Int) :: idxF (i + 1) r else idxF (i + 1) r
theorem idxF_len : ∀ (m : List Bool) (i : Nat), (idxF i m).length ≤ m.length
  | [], _ => Nat.le_refl _
  | b :: r, i => by
    have := idxF_len r (i + 1)
    unfold idxF
    split <;> simp <;> omega
set_option maxHeartbeats 2000000 in
theorem plMarked_any (n : Nat) (A : Option Addr) (c : Nat) (xs : List Int) (B : Option Addr) (d : Nat) (w : World) (hn : n ≤ 1000000000) (hr : RdL 1 intE w w.heap.size B xs) (hx : xs.length ≤ 9223372036854775807) :
    Calls Tryz.prog 82 #[.slice A n c, .slice B xs.length d] w fun e w' => e = .returned (.slice (some ⟨w.heap.size, 0, none⟩) n n) ∧ MkAt w.heap.size (mkF n xs) w' ∧ Below w.heap.size w w' := by
  have HR := Lib.hid hr
  obtain ⟨i, hi, h0, h1, h2⟩ := info_parts (show (Tryz.prog.info? 4).map (fun i => (i.zero, i.size, i.bytes)) = some (some (.bool false), 1, 1) by kernel_rfl)
  have HI := Lib.hid hi
  clear hr
  go_enter Tryz.func82, Tryz.ntmps82
  go_wp2_with (first
    | ((with_reducible show wpList _ _ _ (Oper.mk _ (Op.makeSlice 106 _ _) _ _ _ _ :: _) _ _); refine wp_make_1 rfl _ _ rfl Tryz.underlying106 HI.out h0 h1 (by rw [h2]; decide) rfl rfl rfl (by omega) ?_)
    | fail)
  have hb0 : Below w.heap.size w (w.alloc (.cells (Array.replicate n (.bool false)) 4)) := (Below.refl _ _).alloc (Nat.le_refl _) _
  have hm0 : MkAt w.heap.size (List.replicate n false) (w.alloc (.cells (Array.replicate n (.bool false)) 4)) := by
    have := (MapKept.heap_alloc w (.cells (Array.replicate n (.bool false)) 4)).1
    unfold MkAt
    rw [this]
    congr 2
    simp
  have HB0 := Lib.hid hb0
  have HM0 := Lib.hid hm0
  have HR0 := Lib.hid (HR.out.now hb0)
  clear hb0 hm0
  generalize w.alloc (.cells (Array.replicate n (.bool false)) 4) = w1 at *
  go_loopw [7, 13] (fun _ j wr => ∃ (k : Nat) (m : List Bool), k ≤ xs.length ∧ j = .int .i64 k ∧ m.length = n ∧ mkF n xs = (xs.drop k).foldl (mk1 n) m ∧ MkAt w.heap.size m wr ∧ Turn (fun i => i = w.heap.size) w1 wr) (fun _ j _ => xs.length - (intOf j).toNat)
  case atStart => exact ⟨0, _, Nat.zero_le _, rfl, by simp, by rw [List.drop_zero]; rfl, HM0.out, Turn.refl _ _⟩
  case round =>
    obtain ⟨k, m, hk, rfl, hml, hmk, hat, htu⟩ := hrel
    have HMk := Lib.hid hmk
    have HAt := Lib.hid hat
    have HTu := Lib.hid htu
    have HMl := Lib.hid hml
    have hBw : Below w.heap.size w wr := HB0.out.trans (htu.to_below HB0.out.size (fun i hi => by omega))
    have HBw := Lib.hid hBw
    have hRd : RdL 1 intE wr wr.heap.size B xs := HR.out.now hBw
    have hgl := hat.lt
    have hfz := fun j => hat.f j
    clear hmk hat htu hml hBw
    by_cases hlt : k < xs.length
    · have d1 : decide ((k : Int) < (xs.length : Int)) = true := by simp; omega
      obtain ⟨y, hy⟩ : ∃ y, xs[k]? = some y := ⟨_, List.getElem?_eq_getElem hlt⟩
      obtain ⟨b2, off2, rfl, hb2, c5⟩ := rd_int3 hRd hy
      have HNx : Hid (mkF n xs = (xs.drop (k + 1)).foldl (mk1 n) (mk1 n m y)) := Lib.hid (by
        rw [HMk.out, List.drop_eq_getElem_cons hlt, List.foldl_cons]
        rw [List.getElem?_eq_getElem hlt] at hy
        injection hy with hy
        rw [hy])
      have HLn := Lib.hid ((mk1_len n m y).trans HMl.out)
      clear hy hRd HMk
      by_cases hin : 0 ≤ y ∧ y < n
      · obtain ⟨z, rfl⟩ : ∃ z : Nat, y = z := ⟨y.toNat, by omega⟩
        have hzn : z < n := by omega
        have q1 : decide ((0 : Int) ≤ (z : Int)) = true := by simp
        have q2 : decide ((z : Int) < (n : Int)) = true := by simp; omega
        have hst := HAt.out.set z true
        have he : mk1 n m (z : Int) = m.set z true := by unfold mk1; rw [if_pos hin]; rfl
        rw [← he] at hst
        have HSt := Lib.hid hst
        have HT2 := Lib.hid (HTu.out.set w.heap.size z (.bool true) (.inl rfl))
        obtain ⟨bz, hbz⟩ : ∃ bz, m[z]? = some bz := ⟨_, List.getElem?_eq_getElem (by rw [HMl.out]; exact hzn)⟩
        have cz := HAt.out.c hbz
        have fz := hfz z
        clear hst he hbz hfz hin
        go_wp2_with fail
        go_roundw
        case rel => exact ⟨k + 1, _, by omega, by go_num, HLn.out, HNx.out, HSt.out, HT2.out⟩
        case measure => simp [intOf]; omega
      · have he : mk1 n m y = m := by unfold mk1; rw [if_neg hin]
        rw [he] at HNx
        clear he hfz
        have HNn := Lib.hid HNx.out
        by_cases hp : 0 ≤ y
        · have q1 : decide ((0 : Int) ≤ y) = true := by simpa using hp
          have q2 : decide (y < (n : Int)) = false := by simp; omega
          clear hin hp HNx
          go_wp2_with fail
          go_roundw
          case rel => exact ⟨k + 1, m, by omega, by go_num, HMl.out, HNn.out, HAt.out, HTu.out⟩
          case measure => simp [intOf]; omega
        · have q1 : decide ((0 : Int) ≤ y) = false := by simpa using hp
          clear hin hp HNx
          go_wp2_with fail
          go_roundw
          case rel => exact ⟨k + 1, m, by omega, by go_num, HMl.out, HNn.out, HAt.out, HTu.out⟩
          case measure => simp [intOf]; omega
    · obtain rfl : k = xs.length := by omega
      have d1 : decide ((xs.length : Int) < (xs.length : Int)) = false := by simp
      have HZ : Hid (mkF n xs = m) := Lib.hid (by rw [HMk.out, List.drop_length]; rfl)
      clear HMk hRd hfz
      go_wp2_with fail
      go_ret
      exact ⟨rfl, by rw [HZ.out]; exact HAt.out, HBw.out⟩
set_option maxHeartbeats 2000000 in
theorem plIndices_any (g : Nat) (m : List Bool) (n c : Nat) (w : World) (hn : n = m.length) (hl : m.length ≤ 1000000000) (h : MkAt g m w) :
    Calls Tryz.prog 81 #[.slice (some ⟨g, 0, none⟩) n c] w fun e w' => ∃ A d, e = .returned (.slice A (idxF 0 m).length d) ∧ OwnL w' w.heap.size 3 1 intE A d (idxF 0 m) ∧ Below w.heap.size w w' := by
  subst hn
  have H := Lib.hid h
  clear h
  go_enter Tryz.func81, Tryz.ntmps81
  go_wp2_with fail
  go_loopw [3, 4, 5, 8] (fun o _ _ j wr => ∃ (k : Nat) (out : List Int) (A : Option Addr) (d : Nat), k ≤ m.length ∧ o = .slice A out.length d ∧ j = .int .i64 k ∧ out.length ≤ k ∧ idxF 0 m = out ++ idxF k (m.drop k) ∧ OwnL wr w.heap.size 3 1 intE A d out ∧ Below w.heap.size w wr) (fun _ _ _ j _ => m.length - (intOf j).toNat)
  case atStart => exact ⟨0, [], none, 0, Nat.zero_le _, rfl, rfl, Nat.le_refl _, by rw [List.drop_zero]; rfl, OwnL.nil_, Below.refl _ _⟩
  case round =>
    obtain ⟨k, out, A, d, hk, rfl, rfl, hol, hix, hown, hbw⟩ := hrel
    have HIx := Lib.hid hix
    have HO := Lib.hid hown
    have HBw := Lib.hid hbw
    have hmt := H.out.now hbw
    have hgl := hmt.lt
    clear hix hown hbw
    by_cases hlt : k < m.length
    · have d1 : decide ((k : Int) < (m.length : Int)) = true := by simp; omega
      obtain ⟨b, hb⟩ : ∃ b, m[k]? = some b := ⟨_, List.getElem?_eq_getElem hlt⟩
      have cb := hmt.c hb
      have HNx : Hid (idxF 0 m = out ++ (if b = true then (k : Int) :: idxF (k + 1) (m.drop (k + 1)) else idxF (k + 1) (m.drop (k + 1)))) := Lib.hid (by
        rw [HIx.out, List.drop_eq_getElem_cons hlt, idxF]
        rw [List.getElem?_eq_getElem hlt] at hb
        injection hb with hb
        rw [hb])
      clear hb hmt HIx
      cases b with
      | true =>
        have HN2 : Hid (idxF 0 m = (out ++ [(k : Int)]) ++ idxF (k + 1) (m.drop (k + 1))) := Lib.hid (by rw [HNx.out, if_pos rfl]; simp)
        clear HNx
        go_wp2_with (first
          | (at_builtin; refine wp_append_l rfl (.tmp 14) (.tmp 16) rfl slIntQ intLayQ w.heap.size (xs := out) (ys := [(k : Int)]) rfl rfl (HO.out.alloc _) rfl rfl (RdL.one wr (k : Int) _ _ rfl _ rfl) (by simp; omega) (by have := HBw.out.size; simp; omega) ?_; intro A7 c7 w7 hown7 hg7 hb7 hat7; have HO7 := Lib.hid hown7; have HB7 := Lib.hid ((HBw.out.alloc HBw.out.size _).trans hb7); clear hown7 hg7 hb7 hat7)
          | fail)
        go_roundw
        case rel => exact ⟨k + 1, out ++ [(k : Int)], A7, c7, by omega, by simp, by go_num, by simp; omega, HN2.out, HO7.out, HB7.out⟩
        case measure => simp [intOf]; omega
      | false =>
        have HN2 : Hid (idxF 0 m = out ++ idxF (k + 1) (m.drop (k + 1))) := Lib.hid (by rw [HNx.out, if_neg (by decide)])
        clear HNx
        go_wp2_with fail
        go_roundw
        case rel => exact ⟨k + 1, out, A, d, by omega, by first | rfl | trivial, by go_num, by omega, HN2.out, HO.out, HBw.out⟩
        case measure => simp [intOf]; omega
    · obtain rfl : k = m.length := by omega
      have d1 : decide ((m.length : Int) < (m.length : Int)) = false := by simp
      have HZ : Hid (idxF 0 m = out) := Lib.hid (by rw [HIx.out, List.drop_length]; simp [idxF])
      clear HIx hmt
      go_wp2_with fail
      go_ret
      exact ⟨A, d, by rw [HZ.out]; rfl, by rw [HZ.out]; exact HO.out, HBw.out⟩
end Go.Proofs.YtjmkodkechahdaaGreatDoor
