/- Contracts of lingualaw01: write and equal. -/
import Derived.Test.YtijknmocidggbaaDoorWrH
namespace Go.Proofs.YtijknmocidggbaaDoor
open Go.RowKit

/-- The encoding of a value. -/
def VM.enc (v : VM) : List UInt8 :=
  if v.knd = 0 then encI (numV v.n) else if v.knd = 1 then encI v.n else if v.knd = 2 then encT v.s else if v.knd = 3 then encL encI v.l else encL encT v.t
/-- A value is of a size that can be written. -/
structure VM.Fits (v : VM) : Prop where
  s : v.s.length ≤ 1000000
  l : v.l.length ≤ 1000000
  t : v.t.length ≤ 1000000
  tt : tot v.t ≤ 1000000000
theorem row_cells {v : VM} {w : World} {b : Nat} (h : w.heap[b]? = some (.cells v.cs.toArray 25 (0, 0))) :
    w.cell? ⟨b, 0, none⟩ = some (.int .i64 v.kind) ∧ w.cell? ⟨b, 1, none⟩ = some (.int .i64 v.n) ∧ w.cell? ⟨b, 2, none⟩ = some (.string (bs v.s)) ∧ w.cell? ⟨b, 3, none⟩ = some (.slice v.lA v.l.length v.lc) ∧ w.cell? ⟨b, 4, none⟩ = some (.slice v.tA v.t.length v.tc) :=
  ⟨box_cell h 0 _ rfl, box_cell h 1 _ rfl, box_cell h 2 _ rfl, box_cell h 3 _ rfl, box_cell h 4 _ rfl⟩
set_option maxHeartbeats 1000000 in
theorem write_any {B : Nat} (v : VM) (w : World) (hV : Vs B w) (hv : v.Ok w w.heap.size) (hf : v.Fits) :
    Calls Tryd.prog 30 #[v.v] w fun e w' => e = .returned (.string (bs v.enc)) ∧ Below w.heap.size w w' := by
  have HK := Lib.hid (fun x => kind_any v x)
  have HE : Hid (∀ k, v.knd = k → v.enc = if k = 0 then encI (numV v.n) else if k = 1 then encI v.n else if k = 2 then encT v.s else if k = 3 then encL encI v.l else encL encT v.t) := Lib.hid fun k h => by subst h; rfl
  have hr0 : (w.alloc (.cells v.cs.toArray 25)).heap[w.heap.size]? = some (.cells v.cs.toArray 25 (0, 0)) := (MapKept.heap_alloc w _).1
  have hb0 : Below w.heap.size w (w.alloc (.cells v.cs.toArray 25)) := (Below.refl _ _).alloc (Nat.le_refl _) _
  have hkin := v.knd_in
  have HOk := Lib.hid hv
  have HF := Lib.hid hf
  have HV := Lib.hid hV
  have HZ := Lib.hid (show w.heap.size < (w.alloc (.cells v.cs.toArray 25)).heap.size from box_lt hr0)
  obtain ⟨c0, c1, c2, c3, c4⟩ := row_cells hr0
  clear hv hf hV
  unfold VM.v at *
  unfold VM.cs at *
  go_enter Tryd.func30, Tryd.ntmps30
  go_wp2_with fail
  refine (HK.out _).mono ?_
  rintro e w1 ⟨rfl, hb1⟩
  have hr1 := (hb1.block _ HZ.out).trans hr0
  have HB1 := Lib.hid (hb0.trans (hb1.mono hb0.size))
  have HO1 := Lib.hid (HOk.out.now HB1.out)
  have HV1 := Lib.hid (HV.out.now HB1.out)
  obtain ⟨d0, d1, d2, d3, d4⟩ := row_cells (v := v) hr1
  have HE := Lib.hid (HE.out v.knd rfl)
  clear c0 c1 c2 c3 c4 hr0 hb0 hb1 hr1 HZ HOk HV
  obtain ⟨k, hk⟩ : ∃ k, k = v.knd := ⟨_, rfl⟩
  rw [← hk] at HE hkin ⊢
  clear hk HK
  have hk5 : k = 0 ∨ k = 1 ∨ k = 2 ∨ k = 3 ∨ k = 4 := by omega
  clear hkin
  rcases hk5 with rfl | rfl | rfl | rfl | rfl
  · have HN := Lib.hid (numV_in HO1.out.n)
    go_wp2_with fail
    refine (number_law_any v.n _ HO1.out.n).mono ?_
    rintro e w2 ⟨rfl, rfl⟩
    go_wp2_with fail
    refine (wNum_any (numV v.n) _ HV1.out HN.out.1).mono ?_
    rintro e w3 ⟨rfl, hb3⟩
    rw [show encN (numV v.n) = encI (numV v.n) by unfold encN; rw [if_neg (by have := HN.out.2; omega)]]
    go_wp2_with fail
    go_ret
    exact ⟨ret_str (by rw [HE.out]; simp), HB1.out.trans (hb3.mono HB1.out.size)⟩
  · go_wp2_with fail
    refine (wInt_any v.n _ HV1.out HO1.out.n).mono ?_
    rintro e w3 ⟨rfl, hb3⟩
    go_wp2_with fail
    go_ret
    exact ⟨ret_str (by rw [HE.out]; simp), HB1.out.trans (hb3.mono HB1.out.size)⟩
  · go_wp2_with fail
    refine (wText_any v.s _ HV1.out (by have := HF.out.s; omega)).mono ?_
    rintro e w3 ⟨rfl, hb3⟩
    go_wp2_with fail
    go_ret
    exact ⟨ret_str (by rw [HE.out]; simp), HB1.out.trans (hb3.mono HB1.out.size)⟩
  · go_wp2_with fail
    refine (wNums_any v.l _ _ _ HV1.out HO1.out.rl HO1.out.li (by have := HF.out.l; omega)).mono ?_
    rintro e w3 ⟨rfl, hb3⟩
    go_wp2_with fail
    go_ret
    exact ⟨ret_str (by rw [HE.out]; simp), HB1.out.trans (hb3.mono HB1.out.size)⟩
  · go_wp2_with fail
    refine (wTexts_any v.t _ _ _ HV1.out HO1.out.rt (by have := HF.out.tt; omega) (by have := HF.out.t; omega)).mono ?_
    rintro e w3 ⟨rfl, hb3⟩
    go_wp2_with fail
    go_ret
    exact ⟨ret_str (by rw [HE.out]; simp), HB1.out.trans (hb3.mono HB1.out.size)⟩

theorem OwnL.len_max {T : Type} {sz : Nat} {enc : T → List Value} {w : World} {base : Nat} {e : TypeId} {A : Option Addr} {c : Nat} {xs : List T} (h : OwnL w base e sz enc A c xs) : xs.length ≤ 9223372036854775807 := by
  rcases h.2 with ⟨hv, hn⟩ | ⟨g, cap, cur, hv, _, _, hn, hc, _⟩
  · omega
  · simp only [maxLen] at hc
    omega
/-- What 'equal' does. -/
def VM.eq (v : VM) (s : RS) : Bool × RS :=
  if v.knd = 0 then ((rNum 59 0 s).1 == numV v.n, (rNum 59 0 s).2)
  else if v.knd = 1 then ((rNum 59 (-9223372036854775808) s).1 == v.n, (rNum 59 (-9223372036854775808) s).2)
  else if v.knd = 2 then ((rText s).1 == v.s, (rText s).2)
  else if v.knd = 3 then ((rItems (rNum 59 (-9223372036854775808)) s).1 == v.l, (rItems (rNum 59 (-9223372036854775808)) s).2)
  else ((rItems rText s).1 == v.t, (rItems rText s).2)
set_option maxHeartbeats 2000000 in
theorem equal_any {B : Nat} (b : Nat) (s : RS) (v : VM) (w : World) (hV : Vs B w) (hb : B ≤ b) (h : RdAt b s w) (hl : s.rest.length ≤ 1000000000000) (hv : v.Ok w B) :
    Calls Tryd.prog 31 #[.pointer (some ⟨b, 0, none⟩), v.v] w fun e w' => e = .returned (.bool (v.eq s).1) ∧ RdAt b (v.eq s).2 w' ∧ Turn (One b) w w' := by
  have HK := Lib.hid (fun x => kind_any v x)
  have HE : Hid (∀ k, v.knd = k → v.eq s = _) := Lib.hid (show ∀ k, v.knd = k → v.eq s = if k = 0 then ((rNum 59 0 s).1 == numV v.n, (rNum 59 0 s).2)
    else if k = 1 then ((rNum 59 (-9223372036854775808) s).1 == v.n, (rNum 59 (-9223372036854775808) s).2)
    else if k = 2 then ((rText s).1 == v.s, (rText s).2)
    else if k = 3 then ((rItems (rNum 59 (-9223372036854775808)) s).1 == v.l, (rItems (rNum 59 (-9223372036854775808)) s).2)
    else ((rItems rText s).1 == v.t, (rItems rText s).2) from fun k h => by subst h; rfl)
  have hr0 : (w.alloc (.cells v.cs.toArray 25)).heap[w.heap.size]? = some (.cells v.cs.toArray 25 (0, 0)) := (MapKept.heap_alloc w _).1
  have hb0 : Below w.heap.size w (w.alloc (.cells v.cs.toArray 25)) := (Below.refl _ _).alloc (Nat.le_refl _) _
  have hkin := v.knd_in
  have HOk := Lib.hid hv
  have HV := Lib.hid hV
  have HRd := Lib.hid h
  have HZ := Lib.hid (show w.heap.size < (w.alloc (.cells v.cs.toArray 25)).heap.size from box_lt hr0)
  obtain ⟨c0, c1, c2, c3, c4⟩ := row_cells hr0
  clear hv hV h
  unfold VM.v at *
  unfold VM.cs at *
  go_enter Tryd.func31, Tryd.ntmps31
  go_wp2_with fail
  refine (HK.out _).mono ?_
  rintro e w1 ⟨rfl, hb1⟩
  have hr1 := (hb1.block _ HZ.out).trans hr0
  have HB1 := Lib.hid (hb0.trans (hb1.mono hb0.size))
  have HR1 := Lib.hid (HRd.out.now HB1.out)
  have HV1 := Lib.hid (HV.out.now HB1.out)
  have HO1 := Lib.hid (show v.Ok w1 B from ⟨HOk.out.k, HOk.out.n, HOk.out.s, HOk.out.rl.below (HB1.out.mono HV.out.le), HOk.out.li, HOk.out.ll, HOk.out.rt.below (HB1.out.mono HV.out.le), HOk.out.ti, HOk.out.tl⟩)
  have HW := Lib.hid hr1
  have HZ1 := Lib.hid (show w.heap.size < w1.heap.size from box_lt hr1)
  have hblt := HRd.out.lt
  obtain ⟨d0, d1, d2, d3, d4⟩ := row_cells (v := v) hr1
  have HE := Lib.hid (HE.out v.knd rfl)
  clear c0 c1 c2 c3 c4 hr0 hb0 hb1 hr1 HZ HOk HV HRd
  obtain ⟨k, hk⟩ : ∃ k, k = v.knd := ⟨_, rfl⟩
  rw [← hk] at HE hkin ⊢
  clear hk HK
  have hk5 : k = 0 ∨ k = 1 ∨ k = 2 ∨ k = 3 ∨ k = 4 := by omega
  clear hkin
  rcases hk5 with rfl | rfl | rfl | rfl | rfl
  · have HN := Lib.hid (numV_in HO1.out.n)
    go_wp2_with fail
    have HVd := Lib.hid (HV1.out.now (Below.refl _ _).drew)
    have HRd := Lib.hid (show RdAt b s w1.drew from HR1.out)
    (first
      | go_region_held3 (fun w' => w'.cell? ⟨w.heap.size, 1, none⟩ = some (.int .i64 v.n)) (first | go_keep | exact (World.cell?_of_block (t2.block w.heap.size HZ1.out (by unfold One; omega))).trans d1) (first
        | (go_at_call 23; refine (rdNum_any b s _ HVd.out hb HRd.out hl).mono ?_; rintro e w2 ⟨rfl, h2, t2⟩)
        | (go_at_call 53; refine (number_law_any v.n _ HO1.out.n).mono ?_; rintro e w3 ⟨rfl, rfl⟩))
      | fail)
    have hE : v.eq s = ((rNum 59 0 s).1 == numV v.n, (rNum 59 0 s).2) := by rw [HE.out]; simp
    have HE := Lib.hid hE
    have T2 := Lib.hid ((Turn.below (F := One b) (HB1.out.trans ((Below.refl w1.heap.size w1).drew.mono HB1.out.size))).trans t2 (fun i hi => .inl hi))
    clear hE t2
    go_wp2_with fail
    go_ret
    exact ⟨by rw [HE.out]; rfl, by rw [HE.out]; exact h2, T2.out⟩
  · go_wp2_with fail
    have HVd := Lib.hid (HV1.out.now (Below.refl _ _).drew)
    have HRd := Lib.hid (show RdAt b s w1.drew from HR1.out)
    have HOd := Lib.hid HO1.out
    (first
      | go_region_held3 (fun w' => w'.cell? ⟨w.heap.size, 1, none⟩ = some (.int .i64 v.n)) (first | go_keep | exact (World.cell?_of_block (t2.block w.heap.size HZ1.out (by unfold One; omega))).trans d1) (first
        | (go_at_call 24; refine (rdInt_any b s _ HVd.out hb HRd.out hl).mono ?_; rintro e w2 ⟨rfl, h2, t2⟩))
      | fail)
    have hE : v.eq s = ((rNum 59 (-9223372036854775808) s).1 == v.n, (rNum 59 (-9223372036854775808) s).2) := by rw [HE.out]; simp
    have HE := Lib.hid hE
    have T2 := Lib.hid ((Turn.below (F := One b) (HB1.out.trans ((Below.refl w1.heap.size w1).drew.mono HB1.out.size))).trans t2 (fun i hi => .inl hi))
    clear hE t2
    go_wp2_with fail
    go_ret
    exact ⟨by rw [HE.out]; rfl, by rw [HE.out]; exact h2, T2.out⟩
  · go_wp2_with fail
    have HVd := Lib.hid (HV1.out.now (Below.refl _ _).drew)
    have HRd := Lib.hid (show RdAt b s w1.drew from HR1.out)
    have HOd := Lib.hid HO1.out
    (first
      | go_region_held3 (fun w' => w'.cell? ⟨w.heap.size, 2, none⟩ = some (.string (bs v.s))) (first | go_keep | exact (World.cell?_of_block (t2.block w.heap.size HZ1.out (by unfold One; omega))).trans d2) (first
        | (go_at_call 25; refine (rdText_any b s _ HVd.out hb HRd.out hl).mono ?_; rintro e w2 ⟨rfl, h2, t2⟩))
      | fail)
    have hE : v.eq s = ((rText s).1 == v.s, (rText s).2) := by rw [HE.out]; simp
    have HE := Lib.hid hE
    have T2 := Lib.hid ((Turn.below (F := One b) (HB1.out.trans ((Below.refl w1.heap.size w1).drew.mono HB1.out.size))).trans t2 (fun i hi => .inl hi))
    clear hE t2
    go_wp2_with fail
    go_ret
    exact ⟨by rw [HE.out]; simp [bs_toList], by rw [HE.out]; exact h2, T2.out⟩
  · go_wp2_with fail
    have HVd := Lib.hid (HV1.out.now (Below.refl _ _).drew)
    have HRd := Lib.hid (show RdAt b s w1.drew from HR1.out)
    have HOd := Lib.hid HO1.out
    (first
      | go_region_held3 (fun w' => w'.cell? ⟨w.heap.size, 3, none⟩ = some (.slice v.lA v.l.length v.lc)) (first | go_keep | exact (World.cell?_of_block (t2.block w.heap.size HZ1.out (by unfold One; omega))).trans d3 | exact ((hb3.cell (p := ⟨w.heap.size, 3, none⟩) (Nat.lt_of_lt_of_le HZ1.out t2.size)).trans ((World.cell?_of_block (t2.block w.heap.size HZ1.out (by unfold One; omega))).trans d3))) (first
        | (go_at_call 26; refine (rdNums_any b s _ HVd.out hb HRd.out hl).mono ?_; rintro e w2 ⟨A2, c2, rfl, ho2, h2, t2⟩; have hr2 := ho2.rd intLay; have HTb := Lib.hid (turn_below t2 HVd.out.le hb); have HBz := Lib.hid (t2.size))
        | (go_at_call 36; refine (sameI_any (rItems (rNum 59 (-9223372036854775808)) s).1 v.l A2 v.lA c2 v.lc _ hr2 ((HOd.out.rl.below ((Below.refl B w1).drew.trans HTb.out)).more (Nat.le_trans HVd.out.le HBz.out)) ho2.len_max HOd.out.ll).mono ?_; rintro e w3 ⟨rfl, hb3⟩))
      | fail)
    have hE : v.eq s = ((rItems (rNum 59 (-9223372036854775808)) s).1 == v.l, (rItems (rNum 59 (-9223372036854775808)) s).2) := by rw [HE.out]; simp
    have HE := Lib.hid hE
    have T2 := Lib.hid ((Turn.below (F := One b) (HB1.out.trans ((Below.refl w1.heap.size w1).drew.mono HB1.out.size))).trans t2 (fun i hi => .inl hi) |>.trans (Turn.below (F := One b) hb3) (fun i hi => .inl hi))
    have H3 := Lib.hid (h2.now hb3)
    clear hE t2 hb3 h2
    go_wp2_with fail
    go_ret
    exact ⟨by rw [HE.out]; rfl, by rw [HE.out]; exact H3.out, T2.out⟩
  · go_wp2_with fail
    have HVd := Lib.hid (HV1.out.now (Below.refl _ _).drew)
    have HRd := Lib.hid (show RdAt b s w1.drew from HR1.out)
    have HOd := Lib.hid HO1.out
    (first
      | go_region_held3 (fun w' => w'.cell? ⟨w.heap.size, 4, none⟩ = some (.slice v.tA v.t.length v.tc)) (first | go_keep | exact (World.cell?_of_block (t2.block w.heap.size HZ1.out (by unfold One; omega))).trans d4 | exact ((hb3.cell (p := ⟨w.heap.size, 4, none⟩) (Nat.lt_of_lt_of_le HZ1.out t2.size)).trans ((World.cell?_of_block (t2.block w.heap.size HZ1.out (by unfold One; omega))).trans d4))) (first
        | (go_at_call 27; refine (rdTexts_any b s _ HVd.out hb HRd.out hl).mono ?_; rintro e w2 ⟨A2, c2, rfl, ho2, h2, t2⟩; have hr2 := ho2.rd strLay; have HTb := Lib.hid (turn_below t2 HVd.out.le hb); have HBz := Lib.hid (t2.size))
        | (go_at_call 38; refine (sameS_any (rItems rText s).1 v.t A2 v.tA c2 v.tc _ hr2 ((HOd.out.rt.below ((Below.refl B w1).drew.trans HTb.out)).more (Nat.le_trans HVd.out.le HBz.out)) ho2.len_max HOd.out.tl).mono ?_; rintro e w3 ⟨rfl, hb3⟩))
      | fail)
    have hE : v.eq s = ((rItems rText s).1 == v.t, (rItems rText s).2) := by rw [HE.out]; simp
    have HE := Lib.hid hE
    have T2 := Lib.hid ((Turn.below (F := One b) (HB1.out.trans ((Below.refl w1.heap.size w1).drew.mono HB1.out.size))).trans t2 (fun i hi => .inl hi) |>.trans (Turn.below (F := One b) hb3) (fun i hi => .inl hi))
    have H3 := Lib.hid (h2.now hb3)
    clear hE t2 hb3 h2
    go_wp2_with fail
    go_ret
    exact ⟨by rw [HE.out]; rfl, by rw [HE.out]; exact H3.out, T2.out⟩
end Go.Proofs.YtijknmocidggbaaDoor
