/- Contracts of linguaref47.Few and lingualaw47.small. -/
import Derived.Test.YtoibgenhbpppdaaDoorLsE
import Derived.Test.YtoibgenhbpppdaaDoorLsC
import Derived.Test.YtoibgenhbpppdaaDoorWrK
namespace Go.Proofs.YtoibgenhbpppdaaDoor
open Go.RowKit

def fewB (xs : List (List UInt8)) (n : Int) : Bool := decide ((xs.length : Int) ≤ n) && xs.all fun x => decide (x.length ≤ 300)
theorem fewB_no {xs : List (List UInt8)} {n : Int} (h : n < xs.length) : fewB xs n = false := by simp [fewB]; omega
theorem fewB_at {xs : List (List UInt8)} {n : Int} {k : Nat} (hk : k < xs.length) (h : 300 < xs[k].length) : fewB xs n = false := by
  have : (xs.all fun x => decide (x.length ≤ 300)) = false := by
    rw [List.all_eq_false]
    exact ⟨xs[k], List.getElem_mem hk, by simp; omega⟩
  rw [fewB, this, Bool.and_false]
theorem fewB_yes {xs : List (List UInt8)} {n : Int} (h : (xs.length : Int) ≤ n) (hx : ∀ j (hj : j < xs.length), xs[j].length ≤ 300) : fewB xs n = true := by
  have : (xs.all fun x => decide (x.length ≤ 300)) = true := by
    rw [List.all_eq_true]
    intro x hm
    obtain ⟨j, hj, rfl⟩ := List.getElem_of_mem hm
    simpa using hx j hj
  rw [fewB, this]; simp; omega
theorem fewB_inv {xs : List (List UInt8)} {n : Int} (h : fewB xs n = true) : (xs.length : Int) ≤ n ∧ ∀ x ∈ xs, x.length ≤ 300 := by
  simpa [fewB] using h
set_option maxHeartbeats 1000000 in
theorem few47_any (xs : List (List UInt8)) (n : Int) (A : Option Addr) (c : Nat) (w : World) (hr : RdL 1 strE w w.heap.size A xs) (hx : xs.length ≤ 9223372036854775807) (h0 : 0 ≤ n) :
    Calls Tryd.prog 8 #[.slice A xs.length c, .int .i64 n] w fun e w' => e = .returned (.bool (fewB xs n)) ∧ w = w' := by
  have HR := Lib.hid hr
  clear hr
  go_enter Tryd.func8, Tryd.ntmps8
  go_wp2_with fail
  go_loop [5] (fun i => ∃ k : Nat, k ≤ xs.length ∧ (k : Int) ≤ n + 1 ∧ i = .int .i64 k ∧ (∀ j (hj : j < xs.length), j < k → xs[j].length ≤ 300)) (fun i => xs.length - (intOf i).toNat)
  case atStart => exact ⟨0, Nat.zero_le _, by omega, rfl, fun j _ h => by omega⟩
  case round =>
    obtain ⟨k, hk, hkn, rfl, hall⟩ := hrel
    have HA := Lib.hid hall
    clear hall
    by_cases hlt : k < xs.length
    · by_cases hle : (k : Int) ≤ n
      · obtain ⟨b, off, hA, hbl, hc⟩ := rd_str' HR.out hlt
        subst hA
        have HNo := Lib.hid (fun h => fewB_at (n := n) hlt h)
        have HS := Lib.hid (fun (h : xs[k].length ≤ 300) j (hj : j < xs.length) (hj2 : j < k + 1) => (by
          by_cases e : j = k
          · subst e; exact h
          · exact HA.out j hj (by omega) : xs[j].length ≤ 300))
        generalize xs[k] = s at *
        have hsz : (bs s).size = s.length := bs_size s
        by_cases h3 : (300 : Int) < s.length
        · have HD := Lib.hid (HNo.out (by omega))
          have d3 : decide (300 < s.length) = true := by simp; omega
          go_wp2_with fail
          go_ret
          exact ⟨by rw [HD.out]; rfl, rfl⟩
        · have HD := Lib.hid (HS.out (by omega))
          have d3 : decide (300 < s.length) = false := by simp; omega
          go_wp2_with fail
          go_round
          case rel => exact ⟨k + 1, by omega, by omega, by go_num, HD.out⟩
          case measure => simp [intOf]; omega
      · have HD : Hid (fewB xs n = false) := Lib.hid (fewB_no (by omega))
        have d4 : decide ((xs.length : Int) ≤ n) = false := by simp; omega
        go_wp2_with fail
        go_ret
        exact ⟨by rw [HD.out]; rfl, rfl⟩
    · by_cases hle : (xs.length : Int) ≤ n
      · have HD : Hid (fewB xs n = true) := Lib.hid (fewB_yes hle (fun j hj => HA.out j hj (by omega)))
        go_wp2_with fail
        go_ret
        exact ⟨by rw [HD.out]; rfl, rfl⟩
      · have HD : Hid (fewB xs n = false) := Lib.hid (fewB_no (by omega))
        go_wp2_with fail
        go_ret
        exact ⟨by rw [HD.out]; rfl, rfl⟩

/-- Boxes of leases of the call's own. -/
structure SmW (w wx : World) (bl : List (Nat × Ls)) : Prop where
  b : Below w.heap.size w wx
  at_ : ∀ p ∈ bl, w.heap.size ≤ p.1 ∧ p.1 < wx.heap.size ∧ wx.rangeAt p.1 0 p.2.cs
theorem SmW.on {w wx wy : World} {bl : List (Nat × Ls)} (h : SmW w wx bl) (hb : Below wx.heap.size wx wy) : SmW w wy bl :=
  ⟨h.b.trans (hb.mono h.b.size), fun p hp => by
    obtain ⟨h1, h2, h3⟩ := h.at_ p hp
    exact ⟨h1, Nat.lt_of_lt_of_le h2 hb.size, range_below h3 hb h2⟩⟩
theorem SmW.cells {w wx : World} {bl : List (Nat × Ls)} (h : SmW w wx bl) (b : Nat) (l : Ls) (hm : (b, l) ∈ bl) :
    wx.cell? ⟨b, 0, none⟩ = some (.int .i64 l.who) ∧ wx.cell? ⟨b, 1, none⟩ = some (.int .i64 l.epoch) ∧ wx.cell? ⟨b, 2, none⟩ = some (.int .i64 l.till) := by
  obtain ⟨_, _, h3⟩ := h.at_ _ hm
  exact ⟨range_cell h3 0 _ rfl, range_cell h3 1 _ rfl, range_cell h3 2 _ rfl⟩
/-- A box was made. -/
theorem SmW.box {w wx wy : World} {bl : List (Nat × Ls)} (h : SmW w wx bl) (l : Ls) (hb : Below wx.heap.size wx wy) (hz : wx.heap.size < wy.heap.size)
    (c0 : wy.cell? ⟨wx.heap.size, 0, none⟩ = some (.int .i64 l.who)) (c1 : wy.cell? ⟨wx.heap.size, 1, none⟩ = some (.int .i64 l.epoch)) (c2 : wy.cell? ⟨wx.heap.size, 2, none⟩ = some (.int .i64 l.till)) : SmW w wy ((wx.heap.size, l) :: bl) := by
  have h1 := h.on hb
  refine ⟨h1.b, fun p hp => ?_⟩
  rcases List.mem_cons.1 hp with rfl | hp
  · refine ⟨h.b.size, hz, fun j v hj => ?_⟩
    rw [Nat.zero_add]
    match j, hj with
    | 0, hj => simp [Ls.cs] at hj; subst hj; exact c0
    | 1, hj => simp [Ls.cs] at hj; subst hj; exact c1
    | 2, hj => simp [Ls.cs] at hj; subst hj; exact c2
    | j + 3, hj => simp [Ls.cs] at hj
  · exact h1.at_ p hp
def SmQ (w wx : World) (bl : List (Nat × Ls)) (m : Ls) (er : Int) (x y : Value) : Prop := ∃ b, x = .pointer (some ⟨b, 0, none⟩) ∧ y = .int .i64 er ∧ SmW w wx ((b, m) :: bl)

theorem SmQ.mk {w w1 : World} {bl : List (Nat × Ls)} {a b c er : Int} {x : Value} (h : SmW w w1 bl) (hx : x = .pointer (some ⟨w1.heap.size, 0, none⟩)) (t : TypeId) :
    SmQ w (w1.alloc (.cells #[.int .i64 a, .int .i64 b, .int .i64 c] t)) bl ⟨a, b, c⟩ er x (.int .i64 er) := by
  refine ⟨w1.heap.size, hx, rfl, h.box _ ((Below.refl _ _).alloc (Nat.le_refl _) _) (by simp) ?_ ?_ ?_⟩ <;> (unfold World.cell?; rw [heap_alloc_new]; rfl)
theorem grants : (grantL ⟨0, 0, 0⟩ 3 10 5 = ⟨3, 1, 15⟩ ∧ grantE ⟨0, 0, 0⟩ 3 10 5 = 0) ∧ (grantL ⟨3, 1, 15⟩ 4 15 5 = ⟨3, 1, 15⟩ ∧ grantE ⟨3, 1, 15⟩ 4 15 5 = 21) ∧ (grantL ⟨3, 1, 15⟩ 4 16 5 = ⟨4, 2, 21⟩ ∧ grantE ⟨3, 1, 15⟩ 4 16 5 = 0) ∧
    (grantL ⟨3, 1, 15⟩ 3 12 20 = ⟨3, 1, 32⟩ ∧ grantE ⟨3, 1, 15⟩ 3 12 20 = 0) ∧ (grantL ⟨3, 1, 15⟩ 3 12 1 = ⟨3, 1, 15⟩ ∧ grantE ⟨3, 1, 15⟩ 3 12 1 = 0) := by
  simp [grantL, grantE, badG, heldG, withinB, Ls.fine]
  decide
theorem mays : mayF ⟨3, 1, 15⟩ 3 1 15 = 0 ∧ mayF ⟨3, 1, 15⟩ 3 1 16 = 16 ∧ mayF ⟨3, 1, 15⟩ 4 1 15 = 21 ∧ mayF ⟨3, 1, 15⟩ 3 2 15 = 21 := by
  simp [mayF, withinB, Ls.fine]
theorem frames7 : frameF 1 [97] = [49, 59, 49, 58, 97, 44] ∧ frameF 2 [98] = [50, 59, 49, 58, 98, 44] ∧ frameF 1 [99] = [49, 59, 49, 58, 99, 44] ∧ frameF 2 [100] = [50, 59, 49, 58, 100, 44] ∧ frameF 3 [101] = [51, 59, 49, 58, 101, 44] ∧ frameF 2 [97, 98] = [50, 59, 50, 58, 97, 98, 44] := by
  simp [frameF, framedB, encI, encT, Lib.itoa, Lib.decDigits]
theorem valid7 : (validP [frameF 1 [97], frameF 2 [98], frameF 1 [99], frameF 2 [100], frameF 3 [101]]).1 = [[97], [98], [100], [101]] := by
  simp [validP, vstep, openF_back, framedB]

set_option maxRecDepth 100000 in
set_option maxHeartbeats 4000000 in
theorem small47_any {B : Nat} (w : World) (hV : Vs B w) :
    Calls Tryd.prog 7 #[] w fun e w' => e = .returned (.bool true) ∧ Below w.heap.size w w' := by
  have HV := Lib.hid hV
  have HS0 := Lib.hid (show SmW w w [] from ⟨Below.refl _ _, fun p hp => by simp at hp⟩)
  clear hV
  go_enter Tryd.func7, Tryd.ntmps7
  go_upto_region 1 with fail
  go_cut [1] (fun x wx => SmQ w wx [] ⟨3, 1, 15⟩ 0 x (.int .i64 0))
  case first =>
    go_wp2_with fail
    go_meet
    exact SmQ.mk HS0.out rfl _
  case rest =>
    obtain ⟨b1, rfl, _, hs⟩ := hcut
    have HS1 := Lib.hid hs
    clear hs HS0
    go_upto_region 2 with fail
    go_cut [2, 3] (fun x y wx => SmQ w wx [(b1, ⟨3, 1, 15⟩)] ⟨3, 1, 15⟩ 0 x y)
    case first =>
      go_wp2_with fail
      refine (grant_any ⟨0, 0, 0⟩ 3 10 5 _ ⟨by decide, by decide⟩).mono ?_
      rw [grants.1.1, grants.1.2]
      rintro e w1 ⟨rfl, hb1⟩
      have HSx := Lib.hid (HS1.out.on hb1)
      unfold Ls.v
      go_wp2_with fail
      go_meet
      exact SmQ.mk HSx.out rfl _
    case rest =>
      obtain ⟨b2, rfl, rfl, hs⟩ := hcut
      have HS2 := Lib.hid hs
      clear hs HS1
      go_upto_region 3 with fail
      go_cut [4, 5] (fun x y wx => SmQ w wx [(b2, ⟨3, 1, 15⟩), (b1, ⟨3, 1, 15⟩)] ⟨3, 1, 15⟩ 21 x y)
      case first =>
        obtain ⟨c0, c1, c2⟩ := HS2.out.cells b1 ⟨3, 1, 15⟩ (by simp)
        go_wp2_with fail
        refine (grant_any ⟨3, 1, 15⟩ 4 15 5 _ ⟨by decide, by decide⟩).mono ?_
        rw [grants.2.1.1, grants.2.1.2]
        rintro e w1 ⟨rfl, hb1⟩
        have HSx := Lib.hid (HS2.out.on hb1)
        unfold Ls.v
        go_wp2_with fail
        go_meet
        exact SmQ.mk HSx.out rfl _
      case rest =>
        obtain ⟨b3, rfl, rfl, hs⟩ := hcut
        have HS3 := Lib.hid hs
        clear hs HS2
        go_upto_region 4 with fail
        go_cut [6, 7] (fun x y wx => SmQ w wx [(b3, ⟨3, 1, 15⟩), (b2, ⟨3, 1, 15⟩), (b1, ⟨3, 1, 15⟩)] ⟨4, 2, 21⟩ 0 x y)
        case first =>
          obtain ⟨c0, c1, c2⟩ := HS3.out.cells b1 ⟨3, 1, 15⟩ (by simp)
          go_wp2_with fail
          refine (grant_any ⟨3, 1, 15⟩ 4 16 5 _ ⟨by decide, by decide⟩).mono ?_
          rw [grants.2.2.1.1, grants.2.2.1.2]
          rintro e w1 ⟨rfl, hb1⟩
          have HSx := Lib.hid (HS3.out.on hb1)
          unfold Ls.v
          go_wp2_with fail
          go_meet
          exact SmQ.mk HSx.out rfl _
        case rest =>
          obtain ⟨b4, rfl, rfl, hs⟩ := hcut
          have HS4 := Lib.hid hs
          clear hs HS3
          go_upto_region 5 with fail
          go_cut [8, 9] (fun x y wx => SmQ w wx [(b4, ⟨4, 2, 21⟩), (b3, ⟨3, 1, 15⟩), (b2, ⟨3, 1, 15⟩), (b1, ⟨3, 1, 15⟩)] ⟨3, 1, 32⟩ 0 x y)
          case first =>
            obtain ⟨c0, c1, c2⟩ := HS4.out.cells b1 ⟨3, 1, 15⟩ (by simp)
            go_wp2_with fail
            refine (grant_any ⟨3, 1, 15⟩ 3 12 20 _ ⟨by decide, by decide⟩).mono ?_
            rw [grants.2.2.2.1.1, grants.2.2.2.1.2]
            rintro e w1 ⟨rfl, hb1⟩
            have HSx := Lib.hid (HS4.out.on hb1)
            unfold Ls.v
            go_wp2_with fail
            go_meet
            exact SmQ.mk HSx.out rfl _
          case rest =>
            obtain ⟨b5, rfl, rfl, hs⟩ := hcut
            have HS5 := Lib.hid hs
            clear hs HS4
            go_upto_region 6 with fail
            go_cut [10, 11] (fun x y wx => SmQ w wx [(b5, ⟨3, 1, 32⟩), (b4, ⟨4, 2, 21⟩), (b3, ⟨3, 1, 15⟩), (b2, ⟨3, 1, 15⟩), (b1, ⟨3, 1, 15⟩)] ⟨3, 1, 15⟩ 0 x y)
            case first =>
              obtain ⟨c0, c1, c2⟩ := HS5.out.cells b1 ⟨3, 1, 15⟩ (by simp)
              go_wp2_with fail
              refine (grant_any ⟨3, 1, 15⟩ 3 12 1 _ ⟨by decide, by decide⟩).mono ?_
              rw [grants.2.2.2.2.1, grants.2.2.2.2.2]
              rintro e w1 ⟨rfl, hb1⟩
              have HSx := Lib.hid (HS5.out.on hb1)
              unfold Ls.v
              go_wp2_with fail
              go_meet
              exact SmQ.mk HSx.out rfl _
            case rest =>
              obtain ⟨b6, rfl, rfl, hs⟩ := hcut
              have HS6 := Lib.hid hs
              clear hs HS5
              obtain ⟨c00, c01, c02⟩ := HS6.out.cells b1 ⟨3, 1, 15⟩ (by simp)
              obtain ⟨c10, c11, c12⟩ := HS6.out.cells b2 ⟨3, 1, 15⟩ (by simp)
              obtain ⟨c20, c21, c22⟩ := HS6.out.cells b4 ⟨4, 2, 21⟩ (by simp)
              obtain ⟨c30, c31, c32⟩ := HS6.out.cells b5 ⟨3, 1, 32⟩ (by simp)
              obtain ⟨c40, c41, c42⟩ := HS6.out.cells b6 ⟨3, 1, 15⟩ (by simp)
              go_wp2_with fail
              refine (may_any ⟨3, 1, 15⟩ 3 1 15 _).mono ?_
              rw [mays.1]
              rintro e w1 ⟨rfl, hb1⟩
              have HM0 := Lib.hid (HS6.out.on hb1)
              clear c00 c01 c02 c10 c11 c12 c20 c21 c22 c30 c31 c32 c40 c41 c42
              clear hb1 HS6
              obtain ⟨c00, c01, c02⟩ := HM0.out.cells b1 ⟨3, 1, 15⟩ (by simp)
              go_wp2_with fail
              refine (may_any ⟨3, 1, 15⟩ 3 1 16 _).mono ?_
              rw [mays.2.1]
              rintro e w1 ⟨rfl, hb1⟩
              have HM1 := Lib.hid (HM0.out.on hb1)
              clear c00 c01 c02
              clear hb1 HM0
              obtain ⟨c00, c01, c02⟩ := HM1.out.cells b1 ⟨3, 1, 15⟩ (by simp)
              go_wp2_with fail
              refine (may_any ⟨3, 1, 15⟩ 4 1 15 _).mono ?_
              rw [mays.2.2.1]
              rintro e w1 ⟨rfl, hb1⟩
              have HM2 := Lib.hid (HM1.out.on hb1)
              clear c00 c01 c02
              clear hb1 HM1
              obtain ⟨c00, c01, c02⟩ := HM2.out.cells b1 ⟨3, 1, 15⟩ (by simp)
              go_wp2_with fail
              refine (may_any ⟨3, 1, 15⟩ 3 2 15 _).mono ?_
              rw [mays.2.2.2]
              rintro e w1 ⟨rfl, hb1⟩
              have HM3 := Lib.hid (HM2.out.on hb1)
              clear c00 c01 c02
              clear hb1 HM2
              obtain ⟨c00, c01, c02⟩ := HM3.out.cells b1 ⟨3, 1, 15⟩ (by simp)
              go_wp2_with fail
              have HB0 := Lib.hid HM3.out.b
              clear HM3 c00 c01 c02
              refine (frame_any 1 [97] _ (⟨HB0.out.size, fun w' hb => HV.out.2 w' ((HB0.out.mono HV.out.le).trans (hb.mono HV.out.le))⟩ : Vs w.heap.size _) ⟨by decide, by decide⟩ (by decide)).mono ?_
              rintro e w1 ⟨rfl, hb1⟩
              have HF0 := Lib.hid (HB0.out.trans (hb1.mono HB0.out.size))
              clear hb1 HB0
              go_wp2_with fail
              refine (frame_any 2 [98] _ (⟨HF0.out.size, fun w' hb => HV.out.2 w' ((HF0.out.mono HV.out.le).trans (hb.mono HV.out.le))⟩ : Vs w.heap.size _) ⟨by decide, by decide⟩ (by decide)).mono ?_
              rintro e w1 ⟨rfl, hb1⟩
              have HF1 := Lib.hid (HF0.out.trans (hb1.mono HF0.out.size))
              clear hb1 HF0
              go_wp2_with fail
              refine (frame_any 1 [99] _ (⟨HF1.out.size, fun w' hb => HV.out.2 w' ((HF1.out.mono HV.out.le).trans (hb.mono HV.out.le))⟩ : Vs w.heap.size _) ⟨by decide, by decide⟩ (by decide)).mono ?_
              rintro e w1 ⟨rfl, hb1⟩
              have HF2 := Lib.hid (HF1.out.trans (hb1.mono HF1.out.size))
              clear hb1 HF1
              go_wp2_with fail
              refine (frame_any 2 [100] _ (⟨HF2.out.size, fun w' hb => HV.out.2 w' ((HF2.out.mono HV.out.le).trans (hb.mono HV.out.le))⟩ : Vs w.heap.size _) ⟨by decide, by decide⟩ (by decide)).mono ?_
              rintro e w1 ⟨rfl, hb1⟩
              have HF3 := Lib.hid (HF2.out.trans (hb1.mono HF2.out.size))
              clear hb1 HF2
              go_wp2_with fail
              refine (frame_any 3 [101] _ (⟨HF3.out.size, fun w' hb => HV.out.2 w' ((HF3.out.mono HV.out.le).trans (hb.mono HV.out.le))⟩ : Vs w.heap.size _) ⟨by decide, by decide⟩ (by decide)).mono ?_
              rintro e w1 ⟨rfl, hb1⟩
              have HF4 := Lib.hid (HF3.out.trans (hb1.mono HF3.out.size))
              clear hb1 HF3
              go_wp2_with fail
              have hb7 : Below w1.heap.size w1 (w1.alloc (.cells #[.string (bs (frameF 1 [97])), .string (bs (frameF 2 [98])), .string (bs (frameF 1 [99])), .string (bs (frameF 2 [100])), .string (bs (frameF 3 [101]))] 9)) := (Below.refl _ _).alloc (Nat.le_refl _) _
              have hr7 := RdL.block strLay w1 [frameF 1 [97], frameF 2 [98], frameF 1 [99], frameF 2 [100], frameF 3 [101]] #[.string (bs (frameF 1 [97])), .string (bs (frameF 2 [98])), .string (bs (frameF 1 [99])), .string (bs (frameF 2 [100])), .string (bs (frameF 3 [101]))] 9 rfl w1.heap.size rfl
              have HG0 := Lib.hid (HF4.out.trans (hb7.mono HF4.out.size))
              refine (frame_any 2 [97, 98] _ (⟨HG0.out.size, fun w' hb => HV.out.2 w' ((HG0.out.mono HV.out.le).trans (hb.mono HV.out.le))⟩ : Vs w.heap.size _) ⟨by decide, by decide⟩ (by decide)).mono ?_
              rw [frames7.2.2.2.2.2, show bs [50, 59, 50, 58, 97, 98, 44] = ⟨#[50, 59, 50, 58, 97, 98, 44]⟩ from rfl]
              rintro e w2 ⟨rfl, hb8⟩
              have HR8 := Lib.hid (hr7.now hb8)
              have HG1 := Lib.hid (HG0.out.trans (hb8.mono HG0.out.size))
              generalize w1.heap.size = s1 at *
              clear hb7 hr7 hb8 HG0 HF4
              go_wp2_with fail
              have hv := valid_any [frameF 1 [97], frameF 2 [98], frameF 1 [99], frameF 2 [100], frameF 3 [101]] (some ⟨s1, 0, none⟩) 5 w2 (⟨HG1.out.size, fun w' hb => HV.out.2 w' ((HG1.out.mono HV.out.le).trans (hb.mono HV.out.le))⟩ : Vs w.heap.size _) HR8.out (by rw [frames7.1, frames7.2.1, frames7.2.2.1, frames7.2.2.2.1, frames7.2.2.2.2.1]; decide) (by decide)
              rw [valid7] at hv
              refine hv.mono ?_
              rintro e w3 ⟨A2, c2, rfl, ho, hb3⟩
              have HO := Lib.hid ho
              have HG2 := Lib.hid (HG1.out.trans (hb3.mono HG1.out.size))
              clear hv ho hb3 HR8 HG1
              go_wp2_with fail
              have hb9 : Below w3.heap.size w3 (w3.alloc (.cells #[.string ⟨#[97]⟩, .string ⟨#[98]⟩, .string ⟨#[100]⟩, .string ⟨#[101]⟩] 9)) := (Below.refl _ _).alloc (Nat.le_refl _) _
              have hr9 := RdL.block strLay w3 [[97], [98], [100], [101]] #[.string ⟨#[97]⟩, .string ⟨#[98]⟩, .string ⟨#[100]⟩, .string ⟨#[101]⟩] 9 rfl w3.heap.size rfl
              refine (strings_any [[97], [98], [100], [101]] [[97], [98], [100], [101]] A2 (some ⟨w3.heap.size, 0, none⟩) c2 4 _ ((HO.out.rd strLay).now hb9) hr9 (by decide) (by decide)).mono ?_
              rintro e w4 ⟨rfl, hb10⟩
              have HG3 := Lib.hid ((HG2.out.trans (hb9.mono HG2.out.size)).trans (hb10.mono (HG2.out.trans (hb9.mono HG2.out.size)).size))
              clear hb9 hr9 hb10
              go_wp2_with fail
              go_ret
              exact ⟨by simp, HG3.out⟩
end Go.Proofs.YtoibgenhbpppdaaDoor
