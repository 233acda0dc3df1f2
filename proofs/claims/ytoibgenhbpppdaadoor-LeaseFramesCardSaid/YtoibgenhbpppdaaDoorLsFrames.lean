/- The walk of LeaseFrames. -/
import Derived.Test.YtoibgenhbpppdaaDoorLsH
import Derived.Test.YtoibgenhbpppdaaDoorDet
namespace Go.Proofs.YtoibgenhbpppdaaDoor
open Go.RowKit

theorem RdL.wmF {w : World} {B : Nat} {A : Option Addr} {xs : List WM} (h : RdL 5 WM.cs w B A xs) {k : Nat} (hk : k < xs.length) : ∃ b off, A = some ⟨b, off, none⟩ ∧ b < B ∧ w.cell? ⟨b, off + k * 5, none⟩ = some (.int .i64 xs[k].kind) ∧ w.cell? ⟨b, off + k * 5 + 1, none⟩ = some (.int .i64 xs[k].who) ∧ w.cell? ⟨b, off + k * 5 + 2, none⟩ = some (.int .i64 xs[k].later) ∧
    w.cell? ⟨b, off + k * 5 + 3, none⟩ = some (.int .i64 xs[k].span) ∧ w.cell? ⟨b, off + k * 5 + 4, none⟩ = some (.string (bs xs[k].txt)) := by
  obtain ⟨b, off, e, hb, hc⟩ := h.at_ hk
  exact ⟨b, off, e, hb, hc 0 _ rfl, hc 1 _ rfl, hc 2 _ rfl, hc 3 _ rfl, hc 4 _ rfl⟩
/-- The box of an act. -/
def wmObj (v : WM) : Obj := .cells #[.int .i64 v.kind, .int .i64 v.who, .int .i64 v.later, .int .i64 v.span, .string (bs v.txt)] 39 (0, 0)
theorem wm_cells {wx : World} {b : Nat} {v : WM} (h : wx.heap[b]? = some (wmObj v)) : wx.cell? ⟨b, 0, none⟩ = some (.int .i64 v.kind) ∧ wx.cell? ⟨b, 1, none⟩ = some (.int .i64 v.who) ∧ wx.cell? ⟨b, 2, none⟩ = some (.int .i64 v.later) ∧ wx.cell? ⟨b, 3, none⟩ = some (.int .i64 v.span) ∧ wx.cell? ⟨b, 4, none⟩ = some (.string (bs v.txt)) :=
  ⟨box_cell h 0 _ rfl, box_cell h 1 _ rfl, box_cell h 2 _ rfl, box_cell h 3 _ rfl, box_cell h 4 _ rfl⟩

/-- What is there behind a record that counts, or one that does not. -/
def FrQ (w wx : World) (b5 : Nat) (x : Ls) (g6 : Nat) (ms : List Int) (Af : Option Addr) (cf : Nat) (fs ws : List (List UInt8)) (now : Int) (k : Nat) (A15 : Option Addr) (eb : List (Nat × Obj)) (z g : Value) : Prop :=
  ∃ (Aw : Option Addr) (cw : Nat) (ws' : List (List UInt8)) (gr : Int), z = .slice Aw ws'.length cw ∧ g = .int .i64 gr ∧ FrI x ms fs ws' gr now k ∧ FrW w wx b5 x g6 ms Af cf fs Aw cw ws' eb ∧ RdL 1 strE wx wx.heap.size A15 ws ∧ ∃ t, ws' = ws ++ t
theorem RdL.takeF {T : Type} {sz : Nat} {enc : T → List Value} {w : World} {B : Nat} {A : Option Addr} {xs : List T} (h : RdL sz enc w B A xs) (n : Nat) : RdL sz enc w B A (xs.take n) := fun k x hx => h k x (by
  rw [List.getElem?_take] at hx
  split at hx
  · exact hx
  · cases hx)

set_option maxRecDepth 100000 in
set_option maxHeartbeats 8000000 in
theorem frames47_any (xs : List WM) (A0 : Option Addr) (c0 : Nat) (w : World) (hV : Vs w.heap.size w) (hr : RdL 5 WM.cs w w.heap.size A0 xs) (hn : xs.length ≤ 9223372036854775807) :
    Calls Tryd.prog 5 #[.slice A0 xs.length c0] w fun e w' => e = .returned (.bool true) ∧ Below w.heap.size w w' := by
  have HV := Lib.hid hV
  have HR := Lib.hid hr
  clear hV hr
  go_enter Tryd.func5, Tryd.ntmps5
  go_wp2_with fail
  refine (small47_any _ HV.out).mono ?_
  rintro e w1 ⟨rfl, hb1⟩
  have HB1 := Lib.hid hb1
  clear hb1
  by_cases g1 : (24 : Int) < xs.length
  · go_wp2_with fail
    go_ret
    exact ⟨rfl, HB1.out⟩
  obtain ⟨iu, hi, hz0, hz1, hz2⟩ := info_parts (show (Tryd.prog.info? 3).map (fun i => (i.zero, i.size, i.bytes)) = some (some (.int .i64 0), 1, 8) by kernel_rfl)
  go_upto_region 10 with (first
    | ((with_reducible show wpList _ _ _ (Oper.mk _ (Op.makeSlice _ _ _) _ _ _ _ :: _) _ _); refine wp_make_int (n := 6) rfl _ _ rfl Tryd.underlying37 hi hz0 hz1 hz2 rfl rfl (by decide) ?_)
    | fail)
  have HW0 : Hid (FrW w ((w1.alloc (.cells #[.int .i64 0, .int .i64 0, .int .i64 0] 23)).alloc (.cells #[.int .i64 0, .int .i64 0, .int .i64 0, .int .i64 0, .int .i64 0, .int .i64 0] 3)) w1.heap.size ⟨0, 0, 0⟩ (w1.heap.size + 1) (List.replicate 6 0) none 0 [] none 0 [] []) := Lib.hid (by
    have z : (w1.alloc (.cells #[.int .i64 0, .int .i64 0, .int .i64 0] 23)).heap.size = w1.heap.size + 1 := by simp
    refine ⟨(HB1.out.alloc HB1.out.size _).alloc (by rw [z]; have := HB1.out.size; omega) _, HB1.out.size, ?_, by have := HB1.out.size; omega, ?_, OwnL.nil_, OwnL.nil_, by omega, ⟨by simp [slBlk], by simp [slBlk]⟩, ⟨by simp [slBlk], by simp [slBlk]⟩, fun i hi => by simp [slBlk] at hi, fun p hp => by simp at hp⟩
    · rw [Below.heap_alloc _ _ _ (by rw [z]; omega)]
      exact heap_alloc_new w1 _
    · rw [← z]
      exact heap_alloc_new _ _)
  have HI0 : Hid (FrI ⟨0, 0, 0⟩ (List.replicate 6 0) [] [] 0 0 0) := Lib.hid ⟨by decide, by decide, by decide, by decide, by decide, rfl, fun e he => by rw [List.eq_of_mem_replicate he]; decide, rfl, by decide, fun s hs => by simp at hs⟩
  obtain ⟨g6, hg6⟩ : ∃ g, g = w1.heap.size + 1 := ⟨_, rfl⟩
  obtain ⟨b5, hb5⟩ : ∃ g, g = w1.heap.size := ⟨_, rfl⟩
  obtain ⟨w2, hw2⟩ : ∃ g, g = ((w1.alloc (.cells #[.int .i64 0, .int .i64 0, .int .i64 0] 23)).alloc (.cells #[.int .i64 0, .int .i64 0, .int .i64 0, .int .i64 0, .int .i64 0, .int .i64 0] 3)) := ⟨_, rfl⟩
  rw [← hw2, ← hg6, ← hb5] at HW0 ⊢
  clear hg6 hb5 hw2 hi hz0 hz1 hz2 HB1
  generalize List.replicate 6 (0 : Int) = ms0 at *
  go_wp2_with fail
  go_loopw [4, 7, 8, 9, 10] (fun t f v g i wr => ∃ (k : Nat) (x : Ls) (ms : List Int) (Af : Option Addr) (cf : Nat) (fs : List (List UInt8)) (Aw : Option Addr) (cw : Nat) (ws : List (List UInt8)) (gr now : Int), k ≤ xs.length ∧ i = .int .i64 k ∧ t = .int .i64 now ∧ f = .slice Af fs.length cf ∧ v = .slice Aw ws.length cw ∧ g = .int .i64 gr ∧ FrI x ms fs ws gr now k ∧ FrW w wr b5 x g6 ms Af cf fs Aw cw ws []) (fun _ _ _ _ i _ => xs.length - (intOf i).toNat)
  case atStart => exact ⟨0, ⟨0, 0, 0⟩, ms0, none, 0, [], none, 0, [], 0, 0, Nat.zero_le _, rfl, rfl, rfl, rfl, rfl, HI0.out, HW0.out⟩
  case round =>
    obtain ⟨k, x, ms, Af, cf, fs, Aw, cw, ws, gr, now, hk, rfl, rfl, rfl, rfl, rfl, hI, hW⟩ := hrel
    have HI := Lib.hid hI
    have HW := Lib.hid hW
    have hn0 := hI.n
    have hnk := hI.nk
    clear hI hW HI0 HW0
    by_cases hlt : k < xs.length
    · obtain ⟨b, off, hA, hbl, u0, u1, u2, u3, u4⟩ := RdL.wmF (HR.out.now HW.out.b) hlt
      subst hA
      generalize xs[k] = v at *
      go_upto_region 14 with fail
      have HW1 := Lib.hid (HW.out.box #[.int .i64 v.kind, .int .i64 v.who, .int .i64 v.later, .int .i64 v.span, .string (bs v.txt)] 39)
      obtain ⟨b11, hb11⟩ : ∃ g, g = wr.heap.size := ⟨_, rfl⟩
      rw [← hb11] at HW1 ⊢
      obtain ⟨w3, hw3⟩ : ∃ g, g = wr.alloc (.cells #[.int .i64 v.kind, .int .i64 v.who, .int .i64 v.later, .int .i64 v.span, .string (bs v.txt)] 39) := ⟨_, rfl⟩
      rw [← hw3] at HW1 ⊢
      clear hb11 hw3 u0 u1 u2 u3 u4 hbl HW
      have HW2 : Hid (FrW w w3 b5 x g6 ms Af cf fs Aw cw ws [(b11, wmObj v)]) := Lib.hid HW1.out
      clear HW1
      obtain ⟨v0, v1, v2, v3, v4⟩ := wm_cells (HW2.out.ex (b11, wmObj v) (by simp)).2.1
      have hsz : (bs v.txt).size = v.txt.length := bs_size _
      cases d0 : decide (v.who < 0)
      rotate_left
      · as_aux_lemma =>
          go_wp2_with fail
          go_ret
          exact ⟨rfl, HW2.out.b⟩
      cases d1 : decide (5 < v.who)
      rotate_left
      · as_aux_lemma =>
          go_wp2_with fail
          go_ret
          exact ⟨rfl, HW2.out.b⟩
      cases d2 : decide (v.later < 0)
      rotate_left
      · as_aux_lemma =>
          go_wp2_with fail
          go_ret
          exact ⟨rfl, HW2.out.b⟩
      cases d3 : decide (1000 < v.later)
      rotate_left
      · as_aux_lemma =>
          go_wp2_with fail
          go_ret
          exact ⟨rfl, HW2.out.b⟩
      cases d4 : decide (v.span < 1)
      rotate_left
      · as_aux_lemma =>
          go_wp2_with fail
          go_ret
          exact ⟨rfl, HW2.out.b⟩
      cases d5 : decide (1000 < v.span)
      rotate_left
      · as_aux_lemma =>
          go_wp2_with fail
          go_ret
          exact ⟨rfl, HW2.out.b⟩
      by_cases g300 : (300 : Int) < v.txt.length
      · as_aux_lemma =>
          go_wp2_with fail
          go_ret
          exact ⟨rfl, HW2.out.b⟩
      have d6 : decide (300 < v.txt.length) = false := by simp; omega
      have m0 : 0 ≤ v.who := by simpa using d0
      have m1 : v.who ≤ 5 := by simpa using d1
      have m2 : 0 ≤ v.later := by simpa using d2
      have m3 : v.later ≤ 1000 := by simpa using d3
      have m4 : 1 ≤ v.span := by simpa using d4
      have m5 : v.span ≤ 1000 := by simpa using d5
      go_upto_region 17 with fail
      have HAs := Lib.hid (HI.out.asks (by omega) m0 m1 m2 m3 m4 m5)
      clear d0 d1 d2 d3 d4 d5 d6 hsz
      obtain ⟨u, hu⟩ : ∃ u : Nat, v.who = u := ⟨v.who.toNat, by omega⟩
      have hu5 : u ≤ 5 := by omega
      obtain ⟨e, heu⟩ : ∃ e, ms[u]? = some e := ⟨_, List.getElem?_eq_getElem (by rw [HI.out.ml]; omega)⟩
      have HEm := Lib.hid (List.mem_of_getElem? heu)
      have HEu := Lib.hid heu
      have HIg := Lib.hid (HI.out.grant m2 m3 HAs.out u)
      have HIw := Lib.hid (HI.out.write (by omega) m2 m3 HEm.out (r := v.txt) (by omega))
      obtain ⟨now', hnw⟩ : ∃ n, n = now + v.later := ⟨_, rfl⟩
      rw [← hnw] at HAs HIg HIw ⊢
      clear hnw heu
      by_cases hkd : v.kind = 0
      · as_aux_lemma =>
          have HGr := Lib.hid (fun w => grant_any x v.who now' v.span w ⟨by omega, by omega⟩)
          rw [hu] at HGr v1 HIg
          generalize grantL x u now' v.span = m at *
          generalize grantE x u now' v.span = er at *
          obtain ⟨c0, c1, c2⟩ := HW2.out.cells5
          have q0 : (v.kind == 0) = true := by simp [hkd]
          clear hkd
          go_wp2_with fail
          refine (HGr.out _).mono ?_
          rintro e4 w4 ⟨rfl, hb4⟩
          have HW3 := Lib.hid (HW2.out.on hb4)
          clear hb4 HW2 c0 c1 c2 v0 v1 v2 v3 v4
          unfold Ls.v
          go_upto_region 19 with fail
          have HW4 := Lib.hid (HW3.out.box #[.int .i64 m.who, .int .i64 m.epoch, .int .i64 m.till] 23)
          obtain ⟨b12, hb12⟩ : ∃ g, g = w4.heap.size := ⟨_, rfl⟩
          obtain ⟨w5, hw5⟩ : ∃ g, g = w4.alloc (.cells #[.int .i64 m.who, .int .i64 m.epoch, .int .i64 m.till] 23) := ⟨_, rfl⟩
          rw [← hw5, ← hb12] at HW4 ⊢
          clear hw5 hb12 HW3
          have hm12 : w5.heap[b12]? = some (lsObj m) := (HW4.out.ex (b12, lsObj m) (by simp [lsObj])).2.1
          by_cases her : er = 0
          · have HI5 := Lib.hid (HIg.out.1 her)
            have q1 : (er == 0) = true := by simp [her]
            obtain ⟨v0, v1, v2, v3, v4⟩ := wm_cells (HW4.out.ex (b11, wmObj v) (by simp)).2.1
            rw [hu] at v1
            have e0 := box_cell hm12 0 _ rfl
            have e1 := box_cell hm12 1 _ rfl
            have e2 := box_cell hm12 2 _ rfl
            have s0 := HW4.out.cell6 HEu.out
            have s1 := box_free HW4.out.h6 u
            have hu6 : (u : Int) < 6 := by omega
            clear her
            go_upto_region 21 with fail
            have HW5 := Lib.hid (HW4.out.set6 u m.epoch)
            have HM12 := Lib.hid (HW5.out.ex (b12, lsObj m) (by simp [lsObj])).2.1
            obtain ⟨w6, hw6⟩ : ∃ g, g = w5.setCell ⟨g6, u, none⟩ (.int .i64 m.epoch) := ⟨_, rfl⟩
            rw [← hw6] at HW5 HM12 ⊢
            clear hw6 HW4 v0 v1 v2 v3 v4 e0 e1 e2 s0 s1 hm12
            have e0 := box_cell HM12.out 0 _ rfl
            have e1 := box_cell HM12.out 1 _ rfl
            have e2 := box_cell HM12.out 2 _ rfl
            obtain ⟨z0, z1, z2⟩ := HW5.out.cells5
            have k0 := box_free HW5.out.h5 0
            have k1 := box_free HW5.out.h5 1
            have k2 := box_free HW5.out.h5 2
            go_wp2_with fail
            go_roundw
            case rel => exact ⟨k + 1, m, _, Af, cf, fs, Aw, cw, ws, gr, now', by omega, by go_num, rfl, rfl, rfl, rfl, HI5.out, (HW5.out.set5 m).less (by simp)⟩
            case measure => simp [intOf]; omega
          · have HI5 := Lib.hid (HIg.out.2 her)
            have q1 : (er == 0) = false := by simpa using her
            have e0 := box_cell hm12 0 _ rfl
            have e1 := box_cell hm12 1 _ rfl
            have e2 := box_cell hm12 2 _ rfl
            obtain ⟨z0, z1, z2⟩ := HW4.out.cells5
            have k0 := box_free HW4.out.h5 0
            have k1 := box_free HW4.out.h5 1
            have k2 := box_free HW4.out.h5 2
            clear her hm12
            go_wp2_with fail
            go_roundw
            case rel => exact ⟨k + 1, m, ms, Af, cf, fs, Aw, cw, ws, gr, now', by omega, by go_num, rfl, rfl, rfl, rfl, HI5.out, (HW4.out.set5 m).less (by simp)⟩
            case measure => simp [intOf]; omega
      · as_aux_lemma =>
          have q0 : (v.kind == 0) = false := by simpa using hkd
          have HU := Lib.hid hu
          clear hu
          rw [HU.out] at v1
          have hu6 : (u : Int) < 6 := by omega
          have he0 := HI.out.mb e HEm.out
          have hxe := HI.out.e
          have hll := HI.out.fl
          have hVq := HI.out.v
          have hfb := HI.out.fb
          have HIn : Hid (InInt e) := Lib.hid ⟨by omega, by omega⟩
          have HVq := Lib.hid hVq
          have HFb := Lib.hid hfb
          have HWl : Hid (ws.length ≤ fs.length) := Lib.hid (by have := validP_len fs; rw [hVq] at this; exact this)
          clear hkd hVq hfb
          have HCv := Lib.hid (fun wq (h : Below w3.heap.size w3 wq) => wm_cells ((HW2.out.on h).ex (b11, wmObj v) (by simp)).2.1)
          have HC6 := Lib.hid (fun wq (h : Below w3.heap.size w3 wq) => (HW2.out.on h).cell6 HEu.out)
          go_upto_region 22 with fail
          go_cut [14] (fun z wx => z = .string (bs (frameF e v.txt)) ∧ Below w3.heap.size w3 wx)
          case first => as_aux_lemma =>
            refine wp_region_det (S := (fun w' => Below w3.heap.size w3 w')) (by kernel_rfl) (by kernel_rfl) ((Below.refl _ _).drew) ?_
            rw [List.toList_toArray]
            repeat (first
                | ((with_reducible show Det _ _ _ _ (Oper.mk _ (Op.call (Call.mk (Callee.value (Operand.func 13)) _ _)) _ _ _ _ :: _) _); refine Det.step (.string (bs (frameF e v.txt))) (by rfl) (fun wq hSq K hK => ?_) ?_; (· (go_simp; refine (frame_any e v.txt _ (⟨((HW2.out.on hSq).b).size, fun w' hb => HV.out.2 w' (((HW2.out.on hSq).b.mono HV.out.le).trans (hb.mono HV.out.le))⟩ : Vs w.heap.size _) HIn.out (by omega)).mono ?_; rintro e4 w4 ⟨rfl, hb4⟩; go_wp2_with fail; refine hK.out _ _ (hSq.trans (hb4.mono hSq.size)) ?_; rfl)); simp only [Act.put, List.setIfInBounds_toArray, List.set_cons_zero, List.set_cons_succ, List.getElem_toArray, List.getElem_cons_zero, List.getElem_cons_succ])
                | (refine Det.skip (by rfl) ?_; simp only [Act.put, List.setIfInBounds_toArray, List.set_cons_zero, List.set_cons_succ, List.getElem_toArray, List.getElem_cons_zero, List.getElem_cons_succ])
                | (refine Det.read (v := ?_) (by rfl) ?_ ?_; rotate_left; (· (intro wq hSq; obtain ⟨y0, y1, y2, y3, y4⟩ := HCv.out _ hSq; rw [HU.out] at y1; have y5 := HC6.out _ hSq; go_simp; try with_reducible rfl)); simp only [Act.put, List.setIfInBounds_toArray, List.set_cons_zero, List.set_cons_succ, List.getElem_toArray, List.getElem_cons_zero, List.getElem_cons_succ])
                | fail)
            refine Det.done fun wz hz => ?_
            go_wp2
            go_meet
            exact ⟨rfl, hz⟩
          case rest =>
            obtain ⟨rfl, hbc⟩ := hcut
            have HW3 := Lib.hid (HW2.out.on hbc)
            clear hbc HCv HC6 HW2 v0 v1 v2 v3 v4
            obtain ⟨s, hs⟩ : ∃ s, s = frameF e v.txt := ⟨_, rfl⟩
            rw [← hs] at HIw ⊢
            have HSl : Hid (s.length ≤ 1000) := Lib.hid (by
              have h := (HIw.out).1
              have h2 := (HIw.out).2.1
              by_cases hc : 0 < e ∧ gr ≤ e
              · exact (h2 hc).fb s (by simp)
              · exact (h hc).fb s (by simp))
            clear hs
            go_upto_region 23 with fail
            go_cut [110] (fun z wx => z = .bool false ∧ wc = wx)
            case first => as_aux_lemma =>
              obtain ⟨y0, y1, y2, y3, y4⟩ := wm_cells (HW3.out.ex (b11, wmObj v) (by simp)).2.1
              rw [HU.out] at y1
              have y5 := HW3.out.cell6 HEu.out
              have hiff := HIw.out.2.2
              by_cases hez : e = 0
              · have hs0 := hiff.2 hez
                have e1 : (bs s).toList = [] := by rw [bs_toList, hs0]
                have e2 : (bs s).toList.isEmpty = true := by rw [e1]; rfl
                have e3 : (e == 0) = true := by simp [hez]
                clear hez hs0 hiff
                go_wp2_with fail
                go_meet
                exact ⟨by simp [e3], rfl⟩
              · have hs0 : s ≠ [] := fun h => hez (hiff.1 h)
                have e1 : ¬ (bs s).toList = [] := by rw [bs_toList]; exact hs0
                have e2 : (bs s).toList.isEmpty = false := by rw [bs_toList]; simpa using hs0
                have e3 : (e == 0) = false := by simpa using hez
                clear hez hs0 hiff
                go_wp2_with fail
                go_meet
                exact ⟨by simp [e3], rfl⟩
            case rest =>
              obtain ⟨rfl, rfl⟩ := hcut
              go_wp2_with fail
              have hv := valid_any fs Af cf wc (⟨HW3.out.b.size, fun w' hb => HV.out.2 w' ((HW3.out.b.mono HV.out.le).trans (hb.mono HV.out.le))⟩ : Vs w.heap.size _) (HW3.out.o1.rd strLay) (fun x hx => by have := HFb.out x hx; omega) (by omega)
              rw [HVq.out] at hv
              refine hv.mono ?_
              rintro e5 w5 ⟨A15, c15, rfl, ho15, hb5⟩
              have HW4 := Lib.hid (HW3.out.on hb5)
              have HR15 := Lib.hid (ho15.rd strLay)
              have HB15 := Lib.hid (fun i (h : slBlk A15 = some i) => (ho15.blk_lt h).1)
              have HZ3 : Hid (∀ i, (slBlk Af = some i ∨ slBlk Aw = some i) → i < wc.heap.size) := Lib.hid (fun i h => by
                rcases h with h | h
                · exact (HW3.out.o1.blk_lt h).2
                · exact (HW3.out.o2.blk_lt h).2)
              clear hv ho15 hb5 HW3
              simp only
              go_upto_region 27 with (first
                | (at_builtin; refine wp_append_l rfl (.tmp 113) (.tmp 115) rfl slStr strLay w.heap.size (xs := fs) (ys := [s]) rfl rfl (HW4.out.o1.alloc _) rfl rfl (RdL.one w5 s _ _ rfl _ rfl) (by simp; omega) (by have := HW4.out.b.size; simp; omega) ?_; intro A3 c3 w6 hown3 hg3 hb3 hat3; have HO3 := Lib.hid hown3; have HG3 := Lib.hid hg3; have HA3 := Lib.hid hat3; clear hown3 hg3 hb3 hat3)
                | fail)
              have HW5 : Hid (FrW w w6 b5 x g6 ms A3 c3 (fs ++ [s]) Aw cw ws [(b11, wmObj v)]) := Lib.hid (by
                have hg := HG3.out
                have hat := HA3.out
                rw [own_blk] at hg hat
                rw [own_blk] at hat
                exact (HW4.out.on ((Below.refl w5.heap.size w5).alloc (Nat.le_refl _) (.cells #[.string (bs s)] 9))).app1 HO3.out hg hat)
              have HR16 : Hid (RdL 1 strE w6 w6.heap.size A15 ws) := Lib.hid (by
                have hg := HG3.out
                rw [own_blk] at hg
                refine (HR15.out.now ((Below.refl w5.heap.size w5).alloc (Nat.le_refl _) (.cells #[.string (bs s)] 9))).turn (fun i hi hlt => hg.block i hlt (fun q => ?_)) hg.size
                have := HB15.out i hi
                have := HZ3.out i (.inl q.symm)
                omega)
              clear HO3 HG3 HA3 HW4 HR15
              obtain ⟨y0, y1, y2, y3, y4⟩ := wm_cells (HW5.out.ex (b11, wmObj v) (by simp)).2.1
              rw [HU.out] at y1
              have y5 := HW5.out.cell6 HEu.out
              go_cut [131] (fun z wx => z = .bool (decide (0 < e) && decide (gr ≤ e)) ∧ w6 = wx)
              case first => as_aux_lemma =>
                by_cases p1 : 0 < e
                · by_cases p2 : gr ≤ e
                  · go_wp2_with fail
                    go_meet
                    exact ⟨by simp [p1, p2], rfl⟩
                  · go_wp2_with fail
                    go_meet
                    exact ⟨by simp [p1, p2], rfl⟩
                · go_wp2_with fail
                  go_meet
                  exact ⟨by simp; omega, rfl⟩
              case rest =>
                obtain ⟨rfl, rfl⟩ := hcut
                obtain ⟨bq, hbq⟩ : ∃ q, q = (decide (0 < e) && decide (gr ≤ e)) := ⟨_, rfl⟩
                rw [← hbq]
                have HBq := Lib.hid hbq.symm
                clear hbq
                go_upto_if 131 with fail
                go_cut [8, 9] (fun z g wx => FrQ w wx b5 x g6 ms A3 c3 (fs ++ [s]) ws now' (k + 1) A15 [(b11, wmObj v)] z g)
                case first => as_aux_lemma =>
                  cases bq
                  · have HI6 := Lib.hid (HIw.out.1 (fun h => by have h2 := HBq.out; simp [h.1, h.2] at h2))
                    go_wp2_with fail
                    go_meet
                    exact ⟨Aw, cw, ws, gr, rfl, rfl, HI6.out, HW5.out, HR16.out, [], by simp⟩
                  · have HI6 := Lib.hid (HIw.out.2.1 (by have := HBq.out; simp at this; exact this))
                    have hwl := HWl.out
                    go_wp2_with (first
                      | (at_builtin; refine wp_append_l rfl (.tmp 132) (.tmp 135) rfl slStr strLay w.heap.size (xs := ws) (ys := [v.txt]) rfl rfl (HW5.out.o2.alloc _) rfl rfl (RdL.one w6 v.txt _ _ rfl _ rfl) (by simp; omega) (by have := HW5.out.b.size; simp; omega) ?_; intro A4 c4 w8 hown4 hg4 hb4 hat4; rw [own_blk] at hg4 hat4; rw [own_blk] at hat4; have HW6 := Lib.hid ((HW5.out.on ((Below.refl w6.heap.size w6).alloc (Nat.le_refl _) (.cells #[.string (bs v.txt)] 9))).app2 hown4 hg4 hat4); have HG4 := Lib.hid hg4; obtain ⟨y0, y1, y2, y3, y4⟩ := wm_cells (HW6.out.ex (b11, wmObj v) (by simp)).2.1; rw [HU.out] at y1; have y5 := HW6.out.cell6 HEu.out; clear hown4 hg4 hb4 hat4)
                      | fail)
                    go_meet
                    refine ⟨A4, c4, ws ++ [v.txt], e, by simp, rfl, HI6.out, HW6.out, ?_, [v.txt], rfl⟩
                    refine (HR16.out.now ((Below.refl w6.heap.size w6).alloc (Nat.le_refl _) (.cells #[.string (bs v.txt)] 9))).turn (fun i hi hlt => HG4.out.block i hlt (fun q => ?_)) HG4.out.size
                    have := HB15.out i hi
                    have := HZ3.out i (.inr q.symm)
                    omega
                case rest =>
                  obtain ⟨Aw', cw', ws', gr', rfl, rfl, hI', hW', hr', tl, htl⟩ := hcut
                  have HI7 := Lib.hid hI'
                  have HW7 := Lib.hid hW'
                  have HR7 := Lib.hid hr'
                  have HTl := Lib.hid htl
                  have HWl7 : Hid (ws'.length ≤ fs.length + 1) := Lib.hid (by have := validP_len (fs ++ [s]); rw [hI'.v] at this; simpa using this)
                  clear hI' hW' hr' htl HW5 HR16 y0 y1 y2 y3 y4 y5 HIw HIg HAs
                  go_wp2_with fail
                  have hv := valid_any (fs ++ [s]) A3 c3 wc (⟨HW7.out.b.size, fun w' hb => HV.out.2 w' ((HW7.out.b.mono HV.out.le).trans (hb.mono HV.out.le))⟩ : Vs w.heap.size _) (HW7.out.o1.rd strLay) (fun y hy => by have := HI7.out.fb y hy; omega) (by simp; omega)
                  rw [HI7.out.v] at hv
                  simp only [List.length_append, List.length_cons, List.length_nil, Nat.zero_add] at hv
                  refine hv.mono ?_
                  rintro e9 w9 ⟨A16, c16, rfl, ho16, hb9⟩
                  have HW9 := Lib.hid (HW7.out.on hb9)
                  have HR9 := Lib.hid (HR7.out.now hb9)
                  have HR16 := Lib.hid (ho16.rd strLay)
                  have HO16 := Lib.hid (show ws'.length ≤ c16 ∧ c16 ≤ maxLen from by
                    rcases ho16.2 with ⟨h1, h2⟩ | ⟨g, cap, cur, h1, _, _, h2, h3, _⟩
                    · injection h1 with _ _ e3; simp only [maxLen]; omega
                    · injection h1 with _ _ e3; exact ⟨by omega, by omega⟩)
                  clear hv ho16 hb9 HW7 HR7
                  have hl1 : ws.length ≤ ws'.length := by rw [HTl.out]; simp
                  have hl2 := HO16.out.1
                  have hl3 := HO16.out.2
                  have hl4 := HWl7.out
                  unfold maxLen at hl3
                  have t1 : decide ((ws'.length : Int) < ws.length) = false := by simp; omega
                  have t2 : decide (ws'.length < ws.length) = false := by simp; omega
                  have HTk : Hid (RdL 1 strE w9 w9.heap.size A16 ws) := Lib.hid (by
                    have h := HR16.out.takeF ws.length
                    have e1 : ws'.take ws.length = ws := by rw [HTl.out]; simp
                    rw [e1] at h
                    exact h)
                  go_wp2_with fail
                  refine (strings_any ws ws A16 A15 c16 c15 _ HTk.out HR9.out (by omega) (by omega)).mono ?_
                  rintro e10 w10 ⟨rfl, hb10⟩
                  have HW10 := Lib.hid (HW9.out.on hb10)
                  have HR10 := Lib.hid (HR16.out.now hb10)
                  have q9 : (ws == ws) = true := by simp
                  rw [q9]
                  clear hb10 HW9 q9
                  go_wp2_with fail
                  refine (strings_any ws' ws' A16 Aw' c16 cw' _ HR10.out (HW10.out.o2.rd strLay) (by omega) (by omega)).mono ?_
                  rintro e11 w11 ⟨rfl, hb11⟩
                  have HW11 := Lib.hid (HW10.out.on hb11)
                  have q9 : (ws' == ws') = true := by simp
                  rw [q9]
                  clear hb11 HW10 q9
                  go_wp2_with fail
                  go_roundw
                  case rel => exact ⟨k + 1, x, ms, A3, c3, fs ++ [s], Aw', cw', ws', gr', now', by omega, by go_num, rfl, by simp, rfl, rfl, HI7.out, HW11.out.less (by simp)⟩
                  case measure => simp [intOf]; omega
    · go_wp2_with fail
      go_ret
      exact ⟨rfl, HW.out.b⟩
end Go.Proofs.YtoibgenhbpppdaaDoor
