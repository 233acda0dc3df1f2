/- Contracts and plain laws, joined: ErWd, ErPn, ErPlOpen. -/
import Derived.Test.YtjmkodkechahdaaGreatDoorQbh
import Derived.Test.YtjmkodkechahdaaGreatDoorQao
import Derived.Test.YtjmkodkechahdaaGreatDoorQbe
/- Contract of linguaref43.Plan. -/
set_option linter.unusedSimpArgs false
set_option linter.unusedVariables false
namespace Go.Proofs.YtjmkodkechahdaaGreatDoor
open Go.RowKit
set_option maxRecDepth 100000
set_option maxHeartbeats 4000000 in
theorem rPlan43_any (l : List PlM) (ev : Int) (A : Option Addr) (c : Nat) (w : World) (h : PlsAt w A l) :
    Calls Tryz.prog 19 #[.slice A l.length c, .int .i64 ev] w (PlanOut l ev w) := by
  have H := Lib.hid h
  have hln := h.len
  clear h
  go_enter Tryz.func19, Tryz.ntmps19
  go_wp2_with fail
  refine (rRight41_any l A c w H.out).mono ?_
  rintro e w1 ⟨rfl, hb1⟩
  have HB1 := Lib.hid hb1
  cases hrt : rightP l with
  | false =>
    have hc : planC l ev = 1 := by unfold planC; rw [hrt]; rfl
    have hq := plan_bad (w := w) (by rw [hc]; decide) hb1
    rw [hc] at hq
    have HQ := Lib.hid hq
    clear hb1 hrt hc hq
    go_wp2_with fail
    go_ret2
    exact HQ.out
  | true =>
  have HC : Hid (planC l ev = if rootsF ev 0 l = [] then 4 else 0) := Lib.hid (by unfold planC; rw [if_pos hrt])
  have H1 := Lib.hid (H.out.now hb1)
  clear hb1 hrt
  go_wp2_with fail
  go_loopw [6, 7] (fun o j wr => ∃ (k : Nat) (out : List Int) (A : Option Addr) (d : Nat), k ≤ l.length ∧ o = .slice A out.length d ∧ j = .int .i64 k ∧ out.length ≤ k ∧ rootsF ev 0 l = out ++ rootsF ev k (l.drop k) ∧ OwnL wr w1.heap.size 3 1 intE A d out ∧ Below w1.heap.size w1 wr) (fun _ j _ => l.length - (intOf j).toNat)
  case atStart => exact ⟨0, [], none, 0, Nat.zero_le _, rfl, rfl, Nat.le_refl _, by rw [List.drop_zero]; rfl, OwnL.nil_, Below.refl _ _⟩
  case round =>
    obtain ⟨k, out, A2, d, hk, rfl, rfl, hol, hix, hown, hbw⟩ := hrel
    have HIx := Lib.hid hix
    have HO := Lib.hid hown
    have HBw := Lib.hid hbw
    have hPl := H1.out.now hbw
    clear hix hown hbw
    by_cases hlt : k < l.length
    · have d1 : decide ((k : Int) < (l.length : Int)) = true := by simp; omega
      obtain ⟨p, hp⟩ : ∃ p, l[k]? = some p := ⟨_, List.getElem?_eq_getElem hlt⟩
      obtain ⟨b, off, rfl, hb, c0, c1, c2⟩ := rd_pl hPl.rd hp
      have HNx : Hid (rootsF ev 0 l = out ++ (if p.kind = 0 ∧ p.id = ev then (k : Int) :: rootsF ev (k + 1) (l.drop (k + 1)) else rootsF ev (k + 1) (l.drop (k + 1)))) := Lib.hid (by
        rw [HIx.out, List.drop_eq_getElem_cons hlt, rootsF]
        rw [List.getElem?_eq_getElem hlt] at hp
        injection hp with hp
        rw [hp])
      clear hp hPl HIx
      obtain ⟨pk, pi, pf, pA, pc⟩ := p
      simp only at c0 c1 c2 HNx
      by_cases hit : pk = 0 ∧ pi = ev
      · have HN2 : Hid (rootsF ev 0 l = (out ++ [(k : Int)]) ++ rootsF ev (k + 1) (l.drop (k + 1))) := Lib.hid (by rw [HNx.out, if_pos hit]; simp)
        have q1 : (pk == 0) = true := by simpa using hit.1
        have q2 : (pi == ev) = true := by simpa using hit.2
        clear HNx hit
        have HO2 := Lib.hid HO.out
        have HB2 := Lib.hid HBw.out
        clear HO HBw
        go_wp2_with (first
          | (at_builtin; refine wp_append_l rfl (.tmp 32) (.tmp 34) rfl slIntQ intLayQ w1.heap.size (xs := out) (ys := [(k : Int)]) rfl rfl (HO2.out.alloc _) rfl rfl (RdL.one wr (k : Int) _ _ rfl _ rfl) (by simp; omega) (by have := HB2.out.size; simp; omega) ?_; intro A7 c7 w7 hown7 hg7 hb7 hat7; have HO7 := Lib.hid hown7; have HB7 := Lib.hid ((HB2.out.alloc HB2.out.size _).trans hb7); clear hown7 hg7 hb7 hat7)
          | fail)
        go_roundw
        case rel => exact ⟨k + 1, out ++ [(k : Int)], A7, c7, by omega, by simp, by go_num, by simp; omega, HN2.out, HO7.out, HB7.out⟩
        case measure => simp [intOf]; omega
      · have HN2 : Hid (rootsF ev 0 l = out ++ rootsF ev (k + 1) (l.drop (k + 1))) := Lib.hid (by rw [HNx.out, if_neg hit])
        have HO2 := Lib.hid HO.out
        have HB2 := Lib.hid HBw.out
        clear HNx
        cases q1 : (pk == 0) with
        | true =>
          have q2 : (pi == ev) = false := by
            simp at q1
            simpa using fun e => hit ⟨q1, e⟩
          clear hit
          go_wp2_with fail
          go_roundw
          case rel => exact ⟨k + 1, out, A2, d, by omega, by first | rfl | trivial, by go_num, by omega, HN2.out, HO2.out, HB2.out⟩
          case measure => simp [intOf]; omega
        | false =>
          clear hit
          go_wp2_with fail
          go_roundw
          case rel => exact ⟨k + 1, out, A2, d, by omega, by first | rfl | trivial, by go_num, by omega, HN2.out, HO2.out, HB2.out⟩
          case measure => simp [intOf]; omega
    · obtain rfl : k = l.length := by omega
      have d1 : decide ((l.length : Int) < (l.length : Int)) = false := by simp
      have HZ : Hid (rootsF ev 0 l = out) := Lib.hid (by rw [HIx.out, List.drop_length]; simp [rootsF])
      have hBz : Below w.heap.size w wr := HB1.out.trans (HBw.out.mono HB1.out.size)
      have HBz := Lib.hid hBz
      clear HIx hBz
      by_cases h0 : out = []
      · subst h0
        have hc : planC l ev = 4 := by rw [HC.out, HZ.out]; rfl
        have hq := plan_bad (w := w) (by rw [hc]; decide) HBz.out
        rw [hc] at hq
        have HQ := Lib.hid hq
        clear hc hq hPl
        go_wp2_with fail
        go_ret2
        exact HQ.out
      · have hc : planC l ev = 0 := by rw [HC.out, HZ.out, if_neg h0]
        have HE : Hid (planC l ev = 0 ∧ planL l ev = orderP l (reachP l out)) := Lib.hid ⟨hc, by unfold planL; rw [if_pos hc, HZ.out]⟩
        have q1 : ((out.length : Int) == 0) = false := by
          have : 0 < out.length := List.length_pos_iff.2 h0
          simp; omega
        have HPl := Lib.hid hPl
        have hol2 : out.length ≤ 9223372036854775807 := by omega
        clear hc h0 HC hPl
        go_wp2_with fail
        refine (rReach41_any l A c out A2 d wr HPl.out (HO.out.rd intLayQ) hol2).mono ?_
        rintro e w3 ⟨A3, d3, rfl, ho3, hb3⟩
        have HO3 := Lib.hid ho3
        have HPl3 := Lib.hid (HPl.out.now hb3)
        have HB3 := Lib.hid (HBz.out.trans (hb3.mono HBz.out.size))
        have hrl : (reachP l out).length ≤ 9223372036854775807 := by have := reachP_len l out; omega
        clear ho3 hb3
        generalize reachP l out = ro at *
        go_wp2_with fail
        refine (rOrder41_any l A c ro A3 d3 w3 HPl3.out (HO3.out.rd intLayQ) hrl).mono ?_
        rintro e w4 ⟨A4, d4, rfl, ho4, hb4⟩
        have HQ : Hid (PlanOut l ev w (.returned (.tuple #[.slice A4 (orderP l ro).length d4, .int .i64 0])) w4) := Lib.hid ⟨A4, d4, by rw [HE.out.1, HE.out.2], by rw [HE.out.2]; exact ho4.mono HB3.out.size, HB3.out.trans (hb4.mono HB3.out.size)⟩
        clear ho4 hb4
        go_wp2_with fail
        go_ret2
        exact HQ.out
end Go.Proofs.YtjmkodkechahdaaGreatDoor
/- The walk of ErasePlans. -/
set_option linter.unusedSimpArgs false
set_option linter.unusedVariables false
namespace Go.Proofs.YtjmkodkechahdaaGreatDoor
open Go.RowKit
set_option maxRecDepth 100000

theorem rd_pl2 {w : World} {b off : Nat} {l : List PlM} {k : Nat} {p : PlM} (h : RdL 3 PlM.cs w w.heap.size (some ⟨b, off, none⟩) l) (hk : l[k]? = some p) : b < w.heap.size ∧ w.cell? ⟨b, off + k * 3, none⟩ = some (.int .i64 p.kind) ∧ w.cell? ⟨b, off + k * 3 + 1, none⟩ = some (.int .i64 p.id) ∧ w.cell? ⟨b, off + k * 3 + 2, none⟩ = some (.slice p.A p.fr.length p.c) := by
  obtain ⟨b2, off2, e, r⟩ := rd_pl h hk
  cases e
  exact r
def FewPP (n : Int) (l : List PlM) (w : World) (e : Ending) (w' : World) : Prop := ∃ b : Bool, e = .returned (.bool b) ∧ (b = true → (l.length : Int) ≤ n) ∧ w = w'
set_option maxHeartbeats 2000000 in
theorem rFew41_any (l : List PlM) (n : Int) (A : Option Addr) (c : Nat) (w : World) (h : PlsRaw w A l) (hn : 0 ≤ n ∧ n ≤ 100) : Calls Tryz.prog 6 #[.slice A l.length c, .int .i64 n] w (FewPP n l w) := by
  have H := Lib.hid h
  have hln := h.len
  clear h
  go_enter Tryz.func6, Tryz.ntmps6
  go_wp2_with fail
  go_loopw [5] (fun i wr => ∃ k : Nat, k ≤ l.length ∧ (k : Int) ≤ n + 1 ∧ i = .int .i64 k ∧ w = wr) (fun i _ => 102 - (intOf i).toNat)
  case atStart => exact ⟨0, Nat.zero_le _, by omega, rfl, rfl⟩
  case round =>
    obtain ⟨k, hk, hkn, rfl, rfl⟩ := hrel
    by_cases hlt : k < l.length ∧ (k : Int) ≤ n
    · obtain ⟨hlt, hk6⟩ := hlt
      have d1 : decide ((k : Int) < (l.length : Int)) = true := by simp; omega
      have d2 : decide ((k : Int) ≤ n) = true := by simpa using hk6
      obtain ⟨p, hp⟩ : ∃ p, l[k]? = some p := ⟨_, List.getElem?_eq_getElem hlt⟩
      obtain ⟨b, off, rfl, hb, c0, c1, c2⟩ := rd_pl H.out.rd hp
      have hfl := H.out.fln p (List.mem_of_getElem? hp)
      clear hp
      cases hs : decide ((40 : Int) < (p.fr.length : Int)) with
      | true =>
        go_wp2_with fail
        go_ret
        exact ⟨false, rfl, fun h => (by cases h), rfl⟩
      | false =>
        go_wp2_with fail
        go_roundw
        case rel => exact ⟨k + 1, by omega, by omega, by go_num, by trivial⟩
        case measure => simp [intOf]; omega
    · by_cases h6 : (l.length : Int) ≤ n
      · have d3 : decide ((l.length : Int) ≤ n) = true := by simpa using h6
        go_wp2
        all_goals go_ret
        all_goals exact ⟨_, rfl, fun _ => h6, rfl⟩
      · go_wp2
        all_goals go_ret
        all_goals exact ⟨_, rfl, fun h => by first | omega | (simp at h; done) | (simp at h; omega), rfl⟩
/-- A row of numbers. -/
def IAt (g : Nat) (m : List Int) (w : World) : Prop := w.heap[g]? = some (.cells (m.map (Value.int .i64)).toArray 3 (0, 0))
section
variable {g i : Nat} {m : List Int} {b : Int} {w w' : World}
theorem IAt.lt (h : IAt g m w) : g < w.heap.size := box_lt h
theorem IAt.c (h : IAt g m w) (hi : m[i]? = some b) : w.cell? ⟨g, i, none⟩ = some (.int .i64 b) := box_cell h i _ (by simp [hi])
theorem IAt.f (h : IAt g m w) (i : Nat) : w.frozen? ⟨g, i, none⟩ = false := box_free h i
theorem IAt.set (h : IAt g m w) (i : Nat) (b : Int) : IAt g (m.set i b) (w.setCell ⟨g, i, none⟩ (.int .i64 b)) := by
  have := heap_setCell_same w g i _ _ (.int .i64 b) h
  unfold IAt
  rw [this]
  simp
end
theorem below_set {B g z : Nat} {v : Value} {w wr : World} (hb : Below B w wr) (hB : B ≤ w.heap.size) (hg : B ≤ g) : Below B w (wr.setCell ⟨g, z, none⟩ v) :=
  hb.trans (((Turn.refl (fun i => i = g) wr).set g z v (.inl rfl)).to_below (Nat.le_trans hB hb.size) (fun i hi => by have : i = g := hi; omega))
-- pnIn ROOT OUT : the inner loop and the end of a round of the last loop
end Go.Proofs.YtjmkodkechahdaaGreatDoor
/- Places among the arguments of a law. -/
set_option linter.unusedSimpArgs false
set_option linter.unusedVariables false
namespace Go.Proofs.YtjmkodkechahdaaGreatDoor
open Go.ChangeShapes Go.WideShapes Go.RowKit Go.Deep
section
variable {H : Type} {enc0 : TypeId × Value → H} {w : World} {base : Nat} {spare : Nat → Bool} {held : Bool}
theorem fieldsPlace : ∃ fs : Array Field, Tryz.prog.underlying 51 = some (.struct fs) ∧ fs.size = 3 ∧ fs.toList.map (·.type) = [3, 3, 31] ∧ oneCellFields Tryz.prog fs = true :=
  ⟨_, Tryz.underlying51, by kernel_rfl, by kernel_rfl, by kernel_rfl⟩
theorem cellsPlace : Tryz.prog.cellsOf 51 = 3 := by kernel_rfl
theorem elemPlace : ∀ m cs x, DataW.trod enc0 Tryz.prog w base spare held m 51 cs = some x → ∃ y : PlM, PlM.cs y = cs ∧ (RdL 1 intE w w.heap.size y.A y.fr ∧ y.fr.length ≤ 9223372036854775807) := by
  intro m l x hf
  obtain ⟨fs, hu, hsz, hty, hone⟩ := fieldsPlace
  obtain ⟨hl, hc⟩ := struct_cells hu hone (by rw [cellsPlace, hsz]) hf
  have hg : ∀ (i : Nat) (t : TypeId), (fs.toList.map (·.type))[i]? = some t → ∃ v n y, l[i]? = some v ∧ DataW.trod enc0 Tryz.prog w base spare held n t [v] = some y := by
    intro i t hi
    rw [List.getElem?_map] at hi
    obtain ⟨f, hf, rfl⟩ := Option.map_eq_some_iff.1 hi
    exact hc i f (by simpa using hf)
  rw [hty] at hg
  have hl4 : l.length = 3 := by rw [← hsz]; exact hl
  obtain ⟨v0, n0, y0, e0, h0⟩ := hg 0 _ rfl
  obtain ⟨x0, rfl, w0⟩ := int_cell Tryz.underlying3 h0
  obtain ⟨v1, n1, y1, e1, h1⟩ := hg 1 _ rfl
  obtain ⟨x1, rfl, w1⟩ := int_cell Tryz.underlying3 h1
  obtain ⟨v2, n2, y2, e2, h2⟩ := hg 2 _ rfl
  obtain ⟨A, n, c, d4, p4, rfl, k4⟩ := slice_cell Tryz.underlying31 h2
  obtain ⟨ts, rfl, g1, g2, g3⟩ := open_intsC k4
  have hcs : l = [.int .i64 x0, .int .i64 x1, .slice A ts.length c] := List.ext_getElem? (fun i => match i with
    | 0 => e0
    | 1 => e1
    | 2 => e2
    | n + 3 => by rw [List.getElem?_eq_none (by omega), List.getElem?_eq_none (by simp)])
  subst hcs
  exact ⟨⟨x0, x1, ts, A, c⟩, rfl, g1, g3⟩
theorem open_places {A : Option Addr} {n c : Nat} {d : DataW H} {p : List MemPlace} (h : DataW.Trod enc0 Tryz.prog w base spare held 23 (.slice A n c) d p) :
    ∃ xs : List PlM, n = xs.length ∧ PlsRaw w A xs := by
  obtain ⟨xs, h1, h2, h3, h4⟩ := open_list Tryz.underlying23 cellsPlace (by decide) (fun _ => rfl) elemPlace h
  refine ⟨xs, h1, h2, fun p hp => (h3 p hp).1, ?_, fun p hp => (h3 p hp).2⟩
  simp only [maxLen] at h4
  omega
end
end Go.Proofs.YtjmkodkechahdaaGreatDoor
