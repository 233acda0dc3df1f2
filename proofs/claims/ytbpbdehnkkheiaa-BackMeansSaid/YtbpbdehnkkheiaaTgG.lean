/- Contracts of layer 22: DeleteFunc, and Drop of the program. -/
import Derived.Test.YtbpbdehnkkheiaaTgD
import Derived.Test.YtbpbdehnkkheiaaTgE
namespace Go.Proofs.Ytbpbdehnkkheiaa
open Go.RowKit

theorem oneP : ∀ z, (Try.prog.info? 38).bind (·.zero) = some z → ∀ u ∈ z.cells.toList, u.oneCell' = true := by
  intro z hz
  have h0 : (Try.prog.info? 38).bind (·.zero) = some (.agg #[.int .i64 0, .int .i64 0, .int .i64 0, .int .i64 0]) := by kernel_rfl
  rw [h0] at hz
  injection hz with hz
  subst hz
  intro u hu
  simp [Value.cells] at hu
  subst hu
  rfl

theorem filter_all {T : Type} (f : T → Bool) (xs : List T) (h : xs.find? f = none) : xs.filter (fun p => !f p) = xs := by
  rw [List.filter_eq_self]
  intro a ha
  have := List.find?_eq_none.1 h a ha
  simpa using this
theorem filter_take_all {T : Type} (f : T → Bool) (xs : List T) (i : Nat) (h : xs.findIdx? f = some i) : (xs.take i).filter (fun p => !f p) = xs.take i ∧ (xs.take (i + 1)).filter (fun p => !f p) = xs.take i := by
  rw [List.findIdx?_eq_some_iff_getElem] at h
  obtain ⟨hi, hf, hn⟩ := h
  have h1 : (xs.take i).filter (fun p => !f p) = xs.take i := by
    rw [List.filter_eq_self]
    intro a ha
    obtain ⟨j, hj, rfl⟩ := List.mem_take_iff_getElem.1 ha
    have := hn j (by omega)
    simpa using this
  refine ⟨h1, ?_⟩
  rw [List.take_succ_eq_append_getElem hi, List.filter_append, h1, List.filter_cons_of_neg (by simp [hf])]
  simp
theorem take_set {T : Type} (ys : List T) (i : Nat) (p : T) (hi : i < ys.length) : (ys.set i p).take (i + 1) = ys.take i ++ [p] := by
  rw [List.take_succ_eq_append_getElem (by simpa using hi), List.getElem_set_self, List.take_set, List.set_eq_of_length_le (by simp; omega)]
theorem filter_snoc {T : Type} (f : T → Bool) (xs : List T) (j : Nat) {p : T} (h : xs[j]? = some p) : (xs.take (j + 1)).filter (fun p => !f p) = (xs.take j).filter (fun p => !f p) ++ if f p then [] else [p] := by
  obtain ⟨hj, rfl⟩ := List.getElem?_eq_some_iff.1 h
  rw [List.take_succ_eq_append_getElem hj, List.filter_append]
  cases hf : f xs[j]
  · rw [List.filter_cons_of_pos (by simp [hf])]; rfl
  · rw [List.filter_cons_of_neg (by simp [hf])]; rfl

set_option maxHeartbeats 1000000 in
theorem deleteF_any (xs : List Pair) (A : Option Addr) (c : Nat) (base : Nat) (K : FuncId) (caps : Array Value) (f : Pair → Bool) (w : World) (hown : OwnP w base A c xs) (hbase : base ≤ w.heap.size) (hm : xs.length ≤ 9223372036854775807)
    (hK : ∀ (args : Array Value) (w : World), (callFunc K args).run Try.prog w = .ok (.enter K args) w)
    (hF : ∀ (w' : World) (p : Pair), w.grownBy w' (Value.slice A xs.length c).ownBlock → Calls Try.prog K (#[p.v] ++ caps) w' fun e w'' => e = .returned (.bool (f p)) ∧ Below w'.heap.size w' w'') :
    Calls Try.prog 23 #[.slice A xs.length c, .func (.func K) #[] caps] w fun e w' => ∃ A' c', e = .returned (.slice A' (xs.filter (fun p => !f p)).length c') ∧ OwnP w' base A' c' (xs.filter (fun p => !f p)) ∧ Below base w w' := by
  have hc := indexF_any xs A c K caps f w (hown.rd layP) hm hK (fun w' p hb => hF w' p (grown_of_below hb _))
  have HC := Lib.hid hc
  have HFF := Lib.hid hF
  clear hc hF
  rcases hi : xs.findIdx? f with _ | i
  · have hix : idxF f xs = -1 := by simp [idxF, hi]
    have hfi : xs.filter (fun p => !f p) = xs := filter_all f xs (by
      rw [List.find?_eq_none]
      intro x hx
      have := List.findIdx?_eq_none_iff.1 hi x hx
      simpa using this)
    rw [hfi]
    have HX := Lib.hid hix
    clear hix hi hfi
    go_enter Try.func23, Try.ntmps23
    go_wp2_with (go_at_call 38; refine HC.out.mono ?_; rintro e w1 ⟨rfl, hb1⟩; rw [HX.out])
    go_ret
    exact ⟨A, c, rfl, hown.below hb1, hb1.mono hbase⟩
  · have hix : idxF f xs = (i : Int) := by simp [idxF, hi]
    obtain ⟨p0, hp0, _⟩ := idx_some f xs i hi
    have hilt : i < xs.length := (List.getElem?_eq_some_iff.1 hp0).1
    have hft := (filter_take_all f xs i hi).2
    obtain ⟨g, rfl⟩ : ∃ g, A = some ⟨g, 0, none⟩ := by
      rcases hown.2 with ⟨hv, hn⟩ | ⟨g, cap, cur, hv, _⟩
      · omega
      · injection hv with hv
        exact ⟨g, hv⟩
    have hcap := hown.cap_le.1
    have hgb : base ≤ g ∧ g < w.heap.size := hown.lt g rfl
    have HX := Lib.hid hix
    have HT := Lib.hid hft
    have hne : ((i : Int) == -1) = false := by simp
    clear hix hi hft hp0
    go_enter Try.func23, Try.ntmps23
    go_wp2_with (go_at_call 38; refine HC.out.mono ?_; rintro e w1 ⟨rfl, hb1⟩; rw [HX.out])
    have hown1 := hown.below hb1
    have hg1 : w.grownBy w1 (some g) := grown_of_below hb1 _
    clear hown hb1 hne
    go_loopw [5, 6, 7] (fun si sj _ wr => ∃ (k j : Nat) (ys : List Pair), k < j ∧ j ≤ xs.length ∧ si = .int .i64 k ∧ sj = .int .i64 j ∧ OwnP wr base (some ⟨g, 0, none⟩) c ys ∧ ys.length = xs.length ∧ ys.take k = (xs.take j).filter (fun p => !f p) ∧ ys.drop j = xs.drop j ∧ w.grownBy wr (some g)) (fun _ j _ _ => xs.length - (intOf j).toNat)
    case atStart => exact ⟨i, i + 1, xs, by omega, by omega, rfl, by go_num, hown1, rfl, HT.out.symm, rfl, hg1⟩
    case round =>
      clear hown1 hg1
      obtain ⟨k, j, ys, hkj, hj, rfl, rfl, hown, hyl, hyt, hyd, hg⟩ := hrel
      have HYT := Lib.hid hyt
      have HYD := Lib.hid hyd
      have hyl1 : ys.length ≤ xs.length := by omega
      have hyl2 : xs.length ≤ ys.length := by omega
      have hgl := hown.lt g rfl
      have hown0 : OwnP wr base (some ⟨g, 0, none⟩) c ys := hown
      clear hyt hyd
      by_cases hlt : j < xs.length
      · obtain ⟨b, off, p, he, hbb, hp, c0, c1, c2, c3⟩ := RdP_at (hown.rd layP) (k := j) (by omega)
        have hxp : xs[j]? = some p := by
          have h1 : (ys.drop j)[0]? = (xs.drop j)[0]? := by rw [HYD.out]
          rw [List.getElem?_drop, List.getElem?_drop] at h1
          exact h1.symm.trans hp
        obtain ⟨rfl, rfl⟩ : g = b ∧ 0 = off := by simpa using he
        have HP := Lib.hid hxp
        clear hp hxp he
        have HS := Lib.hid (filter_snoc f xs j HP.out)
        simp only [Nat.zero_add] at c0 c1 c2 c3
        have hga : w.grownBy (wr.alloc (.cells #[.int .i64 p.net, .int .i64 p.loc, .int .i64 p.ev, .int .i64 p.part] 38)) (some g) := hg.trans (World.grownBy_alloc _ _ _)
        have hcall := HFF.out _ p hga
        have HCA := Lib.hid hcall
        have HYL := Lib.hid hyl
        clear hcall hyl
        cases hv : f p
        · have hst : (xs.take (j + 1)).filter (fun p => !f p) = (xs.take j).filter (fun p => !f p) ++ [p] := by rw [HS.out, hv]; rfl
          have HST := Lib.hid hst
          have hkl : k < ys.length := by omega
          clear hst
          go_wp2_with fail
          refine HCA.out.mono ?_
          rintro e w2 ⟨rfl, hb2⟩
          obtain ⟨hcell, hfroz⟩ := bcell hb2
          have hz : wr.heap.size < w2.heap.size := Nat.lt_of_lt_of_le (by simp) hb2.size
          have hown2 : OwnP w2 base (some ⟨g, 0, none⟩) c ys := (hown.alloc _).below hb2
          have hg2 : w.grownBy w2 (some g) := hga.trans (grown_of_below hb2 _)
          rw [hv]
          go_wp2_with (first | (refine wp_store_l rfl (.tmp 33) (.tmp 32) rfl slP layP hown2 k hkl _ rfl (by first | rfl | omega) p _ rfl rfl ?_; intro w3 hown3 hg3))
          go_roundw
          case rel =>
            refine ⟨k + 1, j + 1, ys.set k p, by omega, by omega, by go_num, by go_num, hown3, by rw [List.length_set]; exact HYL.out, ?_, ?_, hg2.trans hg3⟩
            · rw [take_set ys k p hkl, HYT.out, HST.out]
            · rw [List.drop_set_of_lt (by omega)]
              have := congrArg (List.drop 1) HYD.out
              simpa [List.drop_drop] using this
          case measure => simp [intOf]; omega
        · have hst : (xs.take (j + 1)).filter (fun p => !f p) = (xs.take j).filter (fun p => !f p) := by rw [HS.out, hv]; simp
          have HST := Lib.hid hst
          clear hst
          go_wp2_with fail
          refine HCA.out.mono ?_
          rintro e w2 ⟨rfl, hb2⟩
          have hown2 : OwnP w2 base (some ⟨g, 0, none⟩) c ys := (hown.alloc _).below hb2
          have hg2 : w.grownBy w2 (some g) := hga.trans (grown_of_below hb2 _)
          rw [hv]
          go_wp2
          go_roundw
          case rel =>
            refine ⟨k, j + 1, ys, by omega, by omega, rfl, by go_num, hown2, HYL.out, by rw [HST.out]; exact HYT.out, ?_, hg2⟩
            have := congrArg (List.drop 1) HYD.out
            simpa [List.drop_drop] using this
          case measure => simp [intOf]; omega
      · obtain rfl : j = xs.length := by omega
        have hcap1 : ¬ c = k := by omega
        have hkc : k ≤ c := by omega
        have hlast : xs.filter (fun p => !f p) = ys.take k := by
          have := HYT.out
          rw [List.take_of_length_le (Nat.le_refl _)] at this
          exact this.symm
        have HL := Lib.hid hlast
        have HYL := Lib.hid hyl
        clear hlast hyl
        have e1 : k + (xs.length - k) = ys.length := by have := HYL.out; omega
        have E1 := Lib.hid e1
        clear e1
        go_wp2_with (first | (refine wp_clear_l rfl (.tmp 38) rfl slP layP oneP hown k rfl E1.out (by omega) ?_; intro w3 hown3 hg3))
        go_ret
        have hl := HL.out
        rw [hl]
        have hlen : (ys.take k).length = k := by rw [List.length_take]; omega
        refine ⟨_, c, by rw [hlen]; rfl, hown3, ?_⟩
        exact (Below.refl base w).grown (hg.trans hg3) hbase (fun x hx => by injection hx with hx; omega)

theorem enters_pDrop1 : ∀ (args : Array Value) (w : World), (callFunc 25 args).run Try.prog w = .ok (.enter 25 args) w := fun _ _ => by kernel_rfl

set_option maxHeartbeats 400000 in
theorem drop1_any (p : Pair) (net ev : Int) (a b : Nat) (w : World) (h1 : w.cell? ⟨a, 0, none⟩ = some (.int .i64 net)) (h2 : w.cell? ⟨b, 0, none⟩ = some (.int .i64 ev)) :
    Calls Try.prog 25 #[p.v, .pointer (some ⟨a, 0, none⟩), .pointer (some ⟨b, 0, none⟩)] w fun e w' => e = .returned (.bool (p.net == net && p.ev == ev)) ∧ Below w.heap.size w w' := by
  have l1 := World.block_lt_of_cell? w _ h1
  have l2 := World.block_lt_of_cell? w _ h2
  dsimp only at l1 l2
  obtain ⟨x, y, z, t⟩ := p
  unfold Pair.v
  go_enter Try.func25, Try.ntmps25
  go_wp2
  all_goals go_ret
  all_goals refine ⟨?_, ((Below.refl _ _).alloc (Nat.le_refl _) _)⟩
  all_goals simp_all

theorem grown_cell' {w w' : World} {r : Option Nat} {b : Nat} (hg : w.grownBy w' r) (h : b < w.heap.size) (hne : some b ≠ r) (o : Nat) : w'.cell? ⟨b, o, none⟩ = w.cell? ⟨b, o, none⟩ :=
  World.cell?_of_block (hg.block b h hne)

set_option maxHeartbeats 400000 in
theorem pdrop_any (xs : List Pair) (A : Option Addr) (c : Nat) (net ev : Int) (w : World) (hr : RdP w w.heap.size A xs) (hm : xs.length ≤ 1000000) :
    Calls Try.prog 11 #[.slice A xs.length c, .int .i64 net, .int .i64 ev] w fun e w' => ∃ A' c', e = .returned (.slice A' (dropF net ev xs).length c') ∧ OwnP w' w.heap.size A' c' (dropF net ev xs) ∧ Below w.heap.size w w' := by
  have hb0 : Below w.heap.size w ((w.alloc (.cells #[.int .i64 net] 3)).alloc (.cells #[.int .i64 ev] 3)) := ((Below.refl _ _).alloc (Nat.le_refl _) _).alloc (by simp) _
  have k1 : ((w.alloc (.cells #[.int .i64 net] 3)).alloc (.cells #[.int .i64 ev] 3)).cell? ⟨w.heap.size, 0, none⟩ = some (.int .i64 net) := by simp
  have k2 : ((w.alloc (.cells #[.int .i64 net] 3)).alloc (.cells #[.int .i64 ev] 3)).cell? ⟨w.heap.size + 1, 0, none⟩ = some (.int .i64 ev) := by simp
  have hc := clone_any xs A c _ (hr.now hb0) hm
  have hsz : ((w.alloc (.cells #[.int .i64 net] 3)).alloc (.cells #[.int .i64 ev] 3)).heap.size = w.heap.size + 2 := by simp
  rw [hsz] at hc
  have HC := Lib.hid hc
  have HB := Lib.hid hb0
  have HK1 := Lib.hid k1
  have HK2 := Lib.hid k2
  have HZ := Lib.hid hsz
  clear hc hb0 k1 k2 hsz
  go_enter Try.func11, Try.ntmps11
  go_wp2_with fail
  refine HC.out.mono ?_
  rintro e w1 ⟨A', c', rfl, hown, hb1⟩
  have hbig : w.heap.size + 2 ≤ w1.heap.size := by have := hb1.size; simp at this; omega
  have hc2 : Calls Try.prog 23 #[.slice A' xs.length c', .func (.func 25) #[] #[.pointer (some ⟨w.heap.size, 0, none⟩), .pointer (some ⟨w.heap.size + 1, 0, none⟩)]] w1 fun e w' => ∃ A' c', e = .returned (.slice A' (dropF net ev xs).length c') ∧ OwnP w' (w.heap.size + 2) A' c' (dropF net ev xs) ∧ Below (w.heap.size + 2) w1 w' := deleteF_any xs A' c' (w.heap.size + 2) 25 #[.pointer (some ⟨w.heap.size, 0, none⟩), .pointer (some ⟨w.heap.size + 1, 0, none⟩)] (fun p => p.net == net && p.ev == ev) w1 hown hbig (by omega) enters_pDrop1 (fun w' p hg => by
    have hne : ∀ b, b < w.heap.size + 2 → some b ≠ (Value.slice A' xs.length c').ownBlock := fun b hb he => by
      have := (hown.lt b he.symm).1
      omega
    exact drop1_any p net ev w.heap.size (w.heap.size + 1) w'
      ((grown_cell' hg (by omega) (hne _ (by omega)) 0).trans ((hb1.cell (show w.heap.size < w.heap.size + 2 by omega)).trans HK1.out))
      ((grown_cell' hg (by omega) (hne _ (by omega)) 0).trans ((hb1.cell (show w.heap.size + 1 < w.heap.size + 2 by omega)).trans HK2.out)))
  have HC2 := Lib.hid hc2
  clear hc2
  go_wp2_with (go_at_call 23; refine HC2.out.mono ?_; rintro e w2 ⟨A2, c2, rfl, hown2, hb2⟩)
  go_ret
  exact ⟨A2, c2, rfl, hown2.mono (by omega), (HB.out.trans (hb1.mono (by omega))).trans (hb2.mono (by omega))⟩
end Go.Proofs.Ytbpbdehnkkheiaa
