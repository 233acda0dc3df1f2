/- Contracts of slices.IndexFunc and slices.DeleteFunc at sectors, and of the closures of settle. -/
import Derived.Test.YtjgeefagnddpfaaDkD
namespace Go.Proofs.Ytjgeefagnddpfaa
open Go.RowKit

theorem clo1_any (p : Int × Int) (f : Int) (b : Nat) (w : World) (hb : w.cell? ⟨b, 0, none⟩ = some (.int .i64 f)) (hl : b < w.heap.size) :
    Calls Try.prog 57 #[.agg #[.int .i64 p.1, .int .i64 p.2], .pointer (some ⟨b, 0, none⟩)] w fun e w' => e = .returned (.bool (p.1 == f)) ∧ Below w.heap.size w w' := by
  go_enter Try.func57, Try.ntmps57
  go_wp2
  go_ret
  exact ⟨rfl, by repeat (first | with_reducible exact Below.refl _ _ | with_reducible assumption | with_reducible refine Below.drew ?_ | with_reducible refine Below.alloc ?_ (by first | omega | (simp; done) | (simp; omega)) _)⟩
theorem clo2_any (p : Int × Int) (x : Bool) (f : Int) (b : Nat) (w : World) (hb : w.cell? ⟨b, 0, none⟩ = some (.int .i64 f)) (hl : b < w.heap.size) :
    Calls Try.prog 59 #[.agg #[.int .i64 p.1, .int .i64 p.2], .bool x, .pointer (some ⟨b, 0, none⟩)] w fun e w' => e = .returned (.bool (p.1 == f)) ∧ Below w.heap.size w w' := by
  go_enter Try.func59, Try.ntmps59
  go_wp2
  go_ret
  exact ⟨rfl, by repeat (first | with_reducible exact Below.refl _ _ | with_reducible assumption | with_reducible refine Below.drew ?_ | with_reducible refine Below.alloc ?_ (by first | omega | (simp; done) | (simp; omega)) _)⟩
theorem RdL.sec {w : World} {B : Nat} {A : Option Addr} {xs : List (Int × Int)} (h : RdL 2 secC w B A xs) {k : Nat} (hk : k < xs.length) : ∃ b off, A = some ⟨b, off, none⟩ ∧ b < B ∧ w.cell? ⟨b, off + k * 2, none⟩ = some (.int .i64 xs[k].1) ∧ w.cell? ⟨b, off + k * 2 + 1, none⟩ = some (.int .i64 xs[k].2) := by
  obtain ⟨b, off, e, hb, hc⟩ := h.at_ hk
  exact ⟨b, off, e, hb, hc 0 _ rfl, hc 1 _ rfl⟩
def idxOf (f : Int) (q : List (Int × Int)) : Int := match q.findIdx? (fun p => p.1 == f) with
  | some i => (i : Int)
  | none => -1
theorem idxOf_hit (f : Int) (q : List (Int × Int)) (k : Nat) (hk : k < q.length) (hn : ∀ p ∈ q.take k, (p.1 == f) = false) (h : (q[k].1 == f) = true) : idxOf f q = k := by
  unfold idxOf
  rw [List.findIdx?_eq_some_iff_getElem.2 ⟨hk, h, fun j hj => ?_⟩]
  have := hn q[j] (List.mem_take_iff_getElem.2 ⟨j, by omega, rfl⟩)
  simpa using this
theorem idxOf_none (f : Int) (q : List (Int × Int)) (hn : ∀ p ∈ q, (p.1 == f) = false) : idxOf f q = -1 := by
  unfold idxOf
  rw [List.findIdx?_eq_none_iff.2 hn]
theorem take_step {T : Type} (P : T → Prop) (q : List T) (k : Nat) (hk : k < q.length) (h : ∀ p ∈ q.take k, P p) (h1 : P q[k]) : ∀ p ∈ q.take (k + 1), P p := by
  intro p hp
  rw [List.take_succ_eq_append_getElem hk, List.mem_append, List.mem_singleton] at hp
  rcases hp with hp | rfl
  · exact h p hp
  · exact h1
set_option maxHeartbeats 1000000 in
theorem idxFn_any (q : List (Int × Int)) (A : Option Addr) (c : Nat) (f : Int) (b : Nat) (w : World) (hr : RdL 2 secC w w.heap.size A q) (hm : q.length ≤ 4194320) (hb : w.cell? ⟨b, 0, none⟩ = some (.int .i64 f)) (hl : b < w.heap.size) :
    Calls Try.prog 63 #[.slice A q.length c, .func (.func 57) #[] #[.pointer (some ⟨b, 0, none⟩)]] w fun e w' => e = .returned (.int .i64 (idxOf f q)) ∧ Below w.heap.size w w' := by
  have HR := Lib.hid hr
  have HB := Lib.hid hb
  clear hr hb
  go_enter Try.func63, Try.ntmps63
  go_wp2
  go_loopw [5, 8] (fun _ i wr => ∃ k : Nat, k ≤ q.length ∧ i = .int .i64 k ∧ (∀ p ∈ q.take k, (p.1 == f) = false) ∧ Below w.heap.size w wr) (fun _ i _ => q.length - (intOf i).toNat)
  case atStart => exact ⟨0, Nat.zero_le _, rfl, fun p hp => by simp at hp, Below.refl _ _⟩
  case round =>
    obtain ⟨k, hk, rfl, hf, hbw⟩ := hrel
    have HF := Lib.hid hf
    clear hf
    by_cases hlt : k < q.length
    · obtain ⟨g, off, rfl, hg, c0, c1⟩ := (HR.out.below hbw).sec hlt
      have hbc : wr.cell? ⟨b, 0, none⟩ = some (.int .i64 f) := (hbw.cell (p := ⟨b, 0, none⟩) hl).trans HB.out
      have hbl : b < wr.heap.size := Nat.lt_of_lt_of_le hl hbw.size
      have hc := clo1_any q[k] f b wr hbc hbl
      have HC := Lib.hid hc
      clear hc hbc
      cases hv : (q[k].1 == f)
      · rw [hv] at HC
        go_wp2_with fail
        refine HC.out.mono ?_
        rintro e w1 ⟨rfl, hb1⟩
        go_wp2
        go_roundw
        case rel => exact ⟨k + 1, by omega, by go_num, take_step _ q k hlt HF.out hv, hbw.trans (hb1.mono hbw.size)⟩
        case measure => simp [intOf]; omega
      · rw [hv] at HC
        go_wp2_with fail
        refine HC.out.mono ?_
        rintro e w1 ⟨rfl, hb1⟩
        go_wp2
        go_ret
        exact ⟨by rw [idxOf_hit f q k hlt HF.out hv]; rfl, hbw.trans (hb1.mono hbw.size)⟩
    · go_wp2
      go_ret
      refine ⟨?_, hbw⟩
      rw [idxOf_none f q (fun p hp => HF.out p (by rw [List.take_of_length_le (by omega)]; exact hp))]
      rfl

theorem box_new {w w' : World} {o : Obj} (hb : Below (w.alloc o).heap.size (w.alloc o) w') : w'.heap[w.heap.size]? = some o := by
  rw [hb.block w.heap.size (by simp)]
  exact heap_alloc_new w o
def notF (f : Int) : Int × Int → Bool := fun p => !(p.1 == f)
theorem filter_all {T : Type} (P : T → Bool) (l : List T) (h : ∀ x ∈ l, P x = true) : l.filter P = l := List.filter_eq_self.2 h
theorem idx_split (f : Int) (q : List (Int × Int)) : (idxOf f q = -1 ∧ q.filter (notF f) = q) ∨ ∃ k, k < q.length ∧ idxOf f q = (k : Int) ∧ (q.take (k + 1)).filter (notF f) = q.take k := by
  rcases hf : q.findIdx? (fun p => p.1 == f) with _ | k
  · have hn := List.findIdx?_eq_none_iff.1 hf
    exact .inl ⟨idxOf_none f q hn, filter_all _ _ (fun x hx => by have := hn x hx; simp only [notF]; rw [this]; rfl)⟩
  · obtain ⟨hk, h1, h2⟩ := List.findIdx?_eq_some_iff_getElem.1 hf
    refine .inr ⟨k, hk, by unfold idxOf; rw [hf], ?_⟩
    rw [List.take_succ_eq_append_getElem hk, List.filter_append, filter_all, List.filter_cons_of_neg (by simp only [notF]; rw [h1]; simp)]
    · simp
    · intro x hx
      obtain ⟨j, hj, rfl⟩ := List.mem_take_iff_getElem.1 hx
      have := h2 j (by omega)
      simp only [notF]
      simpa using this
theorem filter_step {T : Type} (P : T → Bool) (q : List T) (j : Nat) (hj : j < q.length) : (q.take (j + 1)).filter P = if P q[j] = true then (q.take j).filter P ++ [q[j]] else (q.take j).filter P := by
  rw [List.take_succ_eq_append_getElem hj, List.filter_append]
  by_cases h : P q[j] = true <;> simp [h]
/-- The row under way: i elements kept, j looked at. -/
structure Half (f : Int) (q xs : List (Int × Int)) (i j : Nat) : Prop where
  len : xs.length = q.length
  ij : i < j
  jn : j ≤ q.length
  kept : xs.take i = (q.take j).filter (notF f)
  rest : xs.drop j = q.drop j
theorem Half.at_ {f : Int} {q xs : List (Int × Int)} {i j : Nat} (h : Half f q xs i j) (hj : j < q.length) (hx : j < xs.length) : xs[j] = q[j] := by
  have h1 : (xs.drop j)[0]? = (q.drop j)[0]? := by rw [h.rest]
  rw [List.getElem?_drop, List.getElem?_drop, Nat.add_zero, List.getElem?_eq_getElem hx, List.getElem?_eq_getElem hj] at h1
  exact Option.some.inj h1
theorem Half.skip {f : Int} {q xs : List (Int × Int)} {i j : Nat} (h : Half f q xs i j) (hj : j < q.length) (hv : (q[j].1 == f) = true) : Half f q xs i (j + 1) := by
  refine ⟨h.len, by have := h.ij; omega, hj, ?_, ?_⟩
  · rw [filter_step _ _ _ hj, if_neg (by simp only [notF]; rw [hv]; simp), h.kept]
  · rw [← List.drop_drop, ← List.drop_drop, h.rest]
theorem Half.take {f : Int} {q xs : List (Int × Int)} {i j : Nat} (h : Half f q xs i j) (hj : j < q.length) (hv : (q[j].1 == f) = false) : Half f q (xs.set i q[j]) (i + 1) (j + 1) := by
  have h1 := h.ij
  have h2 := h.len
  refine ⟨by rw [List.length_set, h.len], by omega, hj, ?_, ?_⟩
  · rw [filter_step _ _ _ hj, if_pos (by simp only [notF]; rw [hv]; rfl), ← h.kept, List.take_succ_eq_append_getElem (by rw [List.length_set]; omega), List.take_set_of_le (Nat.le_refl _), List.getElem_set_self]
  · rw [List.drop_set_of_lt (by omega), ← List.drop_drop, ← List.drop_drop, h.rest]
theorem oneSec : ∀ z, (Try.prog.info? 70).bind (·.zero) = some z → ∀ u ∈ z.cells.toList, u.oneCell' = true := by
  intro z hz
  have h0 : (Try.prog.info? 70).bind (·.zero) = some (.agg #[.int .i64 0, .int .i64 0]) := by kernel_rfl
  rw [h0] at hz
  injection hz with hz
  subst hz
  decide
set_option maxHeartbeats 2000000 in
theorem delFn_any (q : List (Int × Int)) (A : Option Addr) (c : Nat) (f : Int) (b : Nat) (w : World) (hown : OwnL w 0 70 2 secC A c q) (hm : q.length ≤ 4194320) (hb : w.cell? ⟨b, 0, none⟩ = some (.int .i64 f)) (hl : b < w.heap.size) (hne : slBlk A ≠ some b) :
    Calls Try.prog 56 #[.slice A q.length c, .func (.func 57) #[] #[.pointer (some ⟨b, 0, none⟩)]] w fun e w' => e = .returned (.slice A (q.filter (notF f)).length c) ∧ OwnL w' 0 70 2 secC A c (q.filter (notF f)) ∧ w.grownBy w' (slBlk A) := by
  have hi := idxFn_any q A c f b w (hown.rd secLay) hm hb hl
  have HO := Lib.hid hown
  have HB := Lib.hid hb
  have HI := Lib.hid hi
  clear hown hb hi
  rcases idx_split f q with ⟨h1, h2⟩ | ⟨k, hk, h1, h2⟩
  · rw [h1] at HI
    rw [h2]
    clear h1 h2
    go_enter Try.func56, Try.ntmps56
    go_wp2_with (go_at_call 63; refine HI.out.mono ?_; rintro e w1 ⟨rfl, hb1⟩)
    go_ret
    exact ⟨rfl, HO.out.below hb1, grown_of_below hb1 _⟩
  · rw [h1] at HI
    clear h1
    have HS := Lib.hid h2
    clear h2
    obtain ⟨g, rfl⟩ : ∃ g, A = some ⟨g, 0, none⟩ := by
      rcases HO.out.2 with ⟨hv, hn⟩ | ⟨g, cap, cur, hv, _⟩
      · rw [hn] at hk
        omega
      · injection hv with e1
        exact ⟨g, e1⟩
    have hk1 : ((k : Int) == -1) = false := by
      rw [beq_eq_false_iff_ne]
      omega
    go_enter Try.func56, Try.ntmps56
    go_wp2_with (go_at_call 63; refine HI.out.mono ?_; rintro e w1 ⟨rfl, hb1⟩)
    go_loopw [5, 6, 7] (fun i j _ wr => ∃ (ii jj : Nat) (xs : List (Int × Int)), i = .int .i64 ii ∧ j = .int .i64 jj ∧ Half f q xs ii jj ∧ OwnL wr 0 70 2 secC (some ⟨g, 0, none⟩) c xs ∧ w.grownBy wr (some g)) (fun _ j _ _ => q.length - (intOf j).toNat)
    case atStart => exact ⟨k, k + 1, q, rfl, by go_num, ⟨rfl, by omega, hk, HS.out.symm, rfl⟩, HO.out.below hb1, grown_of_below hb1 _⟩
    case round =>
      obtain ⟨ii, jj, xs, rfl, rfl, hh, hox, hgw⟩ := hrel
      have hij := hh.ij
      have hjn := hh.jn
      have hxl := hh.len
      have HH := Lib.hid hh
      have HX := Lib.hid hox
      clear hh
      by_cases hlt : jj < q.length
      · obtain ⟨g', off, hgo, hg, c0, c1⟩ := (hox.rd secLay).sec (by omega : jj < xs.length)
        injection hgo with hgo
        injection hgo with hgo1 hgo2
        subst hgo1 hgo2
        rw [HH.out.at_ hlt (by omega), Nat.zero_add] at c0 c1
        have hsz := hgw.size
        have hgb : slBlk (some (⟨g, 0, none⟩ : Addr)) ≠ some b := hne
        have hbc : wr.cell? ⟨b, 0, none⟩ = some (.int .i64 f) := (grown_cell hgw hl (fun e => hgb (by rw [e]; rfl)) 0).trans HB.out
        have HBC := Lib.hid hbc
        clear hbc hox
        go_wp2_with fail
        refine (clo1_any q[jj] f b _ ?_ ?_).mono ?_
        · exact (cell_old _ _ _ _ (by omega)).trans HBC.out
        · simp
          omega
        rintro e w2 ⟨rfl, hb2⟩
        have HX2 := Lib.hid ((HX.out.alloc (.cells #[.int .i64 q[jj].1, .int .i64 q[jj].2] 70)).below hb2)
        have HG2 := Lib.hid (hgw.andThen (grown_of_below (((Below.refl wr.heap.size wr).alloc (Nat.le_refl _) _).trans (hb2.mono (by simp))) none) (fun _ h => by cases h))
        have d0 := box_cell (box_new hb2) 0 _ rfl
        have d1 := box_cell (box_new hb2) 1 _ rfl
        clear hb2
        have hix : ii < xs.length := by omega
        cases hv : (q[jj].1 == f)
        · have HT := Lib.hid (HH.out.take hlt hv)
          go_wp2_with ((with_reducible show wpList _ _ _ (Oper.mk none (Op.store 70 _ _) _ _ _ _ :: _) _ _); refine wp_store_l rfl _ _ rfl slSec secLay HX2.out ii hix _ rfl rfl q[jj] _ rfl rfl ?_; intro w3 hown3 hg3; have HX3 := Lib.hid hown3; have HG3 := Lib.hid (HG2.out.andThen hg3 (fun j h => .inr (by rw [h]))); clear hown3 hg3)
          go_roundw
          case rel => exact ⟨ii + 1, jj + 1, _, by go_num, by go_num, HT.out, HX3.out, HG3.out⟩
          case measure => simp [intOf]; omega
        · have HT := Lib.hid (HH.out.skip hlt hv)
          go_wp2
          go_roundw
          case rel => exact ⟨ii, jj + 1, xs, rfl, by go_num, HT.out, HX2.out, HG2.out⟩
          case measure => simp [intOf]; omega
      · have hjq : jj = q.length := by omega
        have hkept : xs.take ii = q.filter (notF f) := by rw [HH.out.kept, hjq, List.take_length]
        have hs0 : ii + (q.length - ii) = xs.length := by omega
        have hcap1 := HX.out.cap_le.1
        have hcap2 := HX.out.cap_le.2
        simp only [maxLen] at hcap2
        go_wp2_with ((with_reducible show wpList _ _ _ (Oper.mk none (Op.call _) _ _ _ _ :: _) _ _); refine wp_clear_l rfl (.tmp 38) rfl slSec secLay oneSec HX.out ii rfl hs0 rfl ?_; intro w2 hown2 hg2)
        go_ret
        rw [hkept] at hown2
        refine ⟨?_, hown2, hgw.andThen hg2 (fun j h => .inr (by rw [h]))⟩
        have hkl := congrArg List.length hkept
        rw [List.length_take] at hkl
        show Ending.returned (.slice (some ⟨g, 0, none⟩) ii c) = _
        congr 2
        omega

/-! maps.DeleteFunc over the set of sectors -/
def dropF (f : Int) (m : Int × Int → Option Bool) : Int × Int → Option Bool := fun x => if (x.1 == f) = true then none else m x
/-- The map under way: what is still to come stands, of the rest those of f are struck. -/
def underway (f : Int) (m : Int × Int → Option Bool) (left : Int × Int → Bool) : Int × Int → Option Bool := fun x => if ((x.1 == f) && !left x) = true then none else m x
theorem underway_start (f : Int) (m : Int × Int → Option Bool) : underway f m (fun a => (m a).isSome) = m := by
  funext x
  unfold underway
  cases hf : (x.1 == f) <;> cases hm : m x <;> simp [hm]
theorem underway_end (f : Int) (m : Int × Int → Option Bool) (left : Int × Int → Bool) (h : ∀ a, left a = false) : underway f m left = dropF f m := by
  funext x
  unfold underway dropF
  rw [h x]
  simp
theorem underway_stay (f : Int) (m : Int × Int → Option Bool) (left : Int × Int → Bool) (a : Int × Int) (ha : (a.1 == f) = false) : underway f m (fun x => left x && !decide (x = a)) = underway f m left := by
  funext x
  unfold underway
  by_cases hx : x = a
  · subst hx
    simp [ha]
  · simp [hx]
theorem underway_strike (f : Int) (m : Int × Int → Option Bool) (left : Int × Int → Bool) (a : Int × Int) (ha : (a.1 == f) = true) : (fun x => if x = a then none else underway f m left x) = underway f m (fun x => left x && !decide (x = a)) := by
  funext x
  unfold underway
  by_cases hx : x = a
  · subst hx
    simp [ha]
  · simp [hx]
theorem wp_range_f {α β : Type} {P : Program} {w : World} {ops : Array Oper} {rest : List Oper} {o : Oper} {a : Act} {Q : Exit → Act → World → Prop} {ok : α → Prop} {kv : α → Value} {vv : β → Value} {f : α → Option β} {b : Nat}
    (hg : o.guard = none) (m : Operand) (t : TypeId) (hop : o.op = Op.range t m) (k e : TypeId) (KT : KeyTy P k ok kv) (ht : P.underlying t = some (.map k e)) (hm : a.eval m = .map (some b)) (h : MapF w b ok kv vv f)
    (hK : ∀ w', MapR w' b w.heap.size ok kv vv f (fun a => (f a).isSome) → w.grownBy w' none → w'.heap.size = w.heap.size + 1 → wpList P ops Q rest (a.put o.dst (.pointer (some ⟨w.heap.size, 0, none⟩))) w') :
    wpList P ops Q (o :: rest) a w := by
  refine wpList_plain hg fun K' hK' => ?_
  obtain ⟨w', hrun, r1, r2, r3⟩ := h.range KT ht
  unfold Oper.wp
  simp [execOp, hop, hm, hrun, Result.andThen]
  exact hK' _ _ (hK w' r1 r2 r3)
theorem wp_next_f {α β : Type} [DecidableEq α] {P : Program} {w : World} {ops : Array Oper} {rest : List Oper} {o : Oper} {a : Act} {Q : Exit → Act → World → Prop} {ok : α → Prop} {kv : α → Value} {vv : β → Value} {f : α → Option β} {b r : Nat} {left : α → Bool} {k : TypeId}
    (hg : o.guard = none) (it : Operand) (hop : o.op = Op.next it false) (KT : KeyTy P k ok kv) (kx : α → Value) (vx : β → Value) (hkx : kv = kx) (hvx : vv = vx) (hit : a.eval it = .pointer (some ⟨r, 0, none⟩)) (h : MapR w b r ok kv vv f left)
    (hDone : Hid (∀ x, left x = false) → wpList P ops Q rest (a.put o.dst (.tuple #[.bool false])) w)
    (hMore : ∀ (x : α) (v : β) (w' : World), Hid (ok x ∧ left x = true ∧ f x = some v) → Hid (MapR w' b r ok kv vv f (fun y => left y && !decide (y = x))) → w'.rangeLeft b r < w.rangeLeft b r → w.grownBy w' (some r) → w'.heap.size = w.heap.size →
      (Instr.entry (.pointer (some ⟨r, 0, none⟩))).run P w' = .ok (.tuple #[kx x, vx v]) w' → wpList P ops Q rest (a.put o.dst (.tuple #[.bool true, kx x, vx v])) w') :
    wpList P ops Q (o :: rest) a w := by
  subst hkx hvx
  refine wpList_plain hg fun K' hK' => ?_
  unfold Oper.wp
  rcases h.next KT o.type with ⟨hl, hrun⟩ | ⟨x, v, w', h1, h2, h3, hrun, h4, h5, h6, h7, h8⟩
  · simp [execOp, hop, hit, hrun, Result.andThen]
    exact hK' _ _ (hDone (Lib.hid hl))
  · simp [execOp, hop, hit, hrun, Result.andThen]
    exact hK' _ _ (hMore x v w' (Lib.hid ⟨h1, h2, h3⟩) (Lib.hid h4) h5 h6 h7 h8)
theorem wp_delete_f {α β : Type} [DecidableEq α] {P : Program} {w : World} {ops : Array Oper} {rest : List Oper} {o : Oper} {a : Act} {Q : Exit → Act → World → Prop} {ok : α → Prop} {kv : α → Value} {vv : β → Value} {f : α → Option β} {b r : Nat} {left : α → Bool} {t k e : TypeId}
    (hg : o.guard = none) (m x : Operand) (hop : o.op = Op.call { callee := Callee.builtin Builtin.delete, args := #[m, x], argTypes := #[t, k] }) (KT : KeyTy P k ok kv) (ht : P.underlying t = some (.map k e)) (hm : a.eval m = .map (some b)) (h : MapR w b r ok kv vv f left)
    (y : α) (hx : a.eval x = kv y) (hok : ok y) (hs : (f y).isSome = true) (hl : left y = false)
    (hK : ∀ w', MapR w' b r ok kv vv (fun x => if x = y then none else f x) left → w'.rangeLeft b r ≤ w.rangeLeft b r → w.grownBy w' (some b) → w'.heap.size = w.heap.size → wpList P ops Q rest (a.put o.dst (.tuple #[])) w') :
    wpList P ops Q (o :: rest) a w := by
  refine wpList_plain hg fun K' hK' => ?_
  obtain ⟨w', hrun, r1, r2, r3, r4⟩ := h.delete KT ht y hok hs hl o.type
  unfold Oper.wp
  simp [execOp, hop, resolve, invoke, builtin, hm, hx, hrun, Result.andThen]
  exact hK' _ _ (hK w' r1 r2 r3 r4)

set_option maxHeartbeats 2000000 in
theorem delMap_any (m : Int × Int → Option Bool) (f : Int) (b bs : Nat) (w : World) (hm : MapF w bs okS secV Value.bool m) (hb : w.cell? ⟨b, 0, none⟩ = some (.int .i64 f)) (hl : b < w.heap.size) (hne : bs ≠ b) :
    Calls Try.prog 58 #[.map (some bs), .func (.func 59) #[] #[.pointer (some ⟨b, 0, none⟩)]] w fun e w' => e = .returned (.tuple #[]) ∧ MapF w' bs okS secV Value.bool (dropF f m) ∧ w.grownBy w' (some bs) := by
  have HM := Lib.hid hm
  have HB := Lib.hid hb
  have hml := hm.lt
  clear hm hb
  go_enter Try.func58, Try.ntmps58
  go_wp2_with (at_range; refine wp_range_f rfl _ 53 rfl 70 4 keyS Try.underlying53 rfl HM.out ?_; intro w0 hr0 hg0 hs0)
  go_frame
  go_loopw [4, 5, 8, 9, 10, 11, 12] (fun _ _ _ _ _ _ _ wr => ∃ left : Int × Int → Bool, MapR wr bs w.heap.size okS secV Value.bool (underway f m left) left ∧ w.grownBy wr (some bs)) (fun _ _ _ _ _ _ _ wr => wr.rangeLeft bs w.heap.size)
  case atStart => exact ⟨_, by rw [underway_start]; exact hr0, hg0.but _⟩
  case round =>
    obtain ⟨left, hrg, hgw⟩ := hrel
    go_wp2_with (at_next; refine wp_next_f rfl _ rfl keyS (fun x => .agg #[.int .i64 x.1, .int .i64 x.2]) (fun v => .bool v) rfl rfl rfl hrg (fun HL => ?_) (fun x v w1 HX HR1 hlt hg1 hs1 hen => ?_))
    · go_end0
      exact ⟨rfl, by rw [← underway_end f m left HL.out]; exact hrg.map, hgw⟩
    · have hgw1 : w.grownBy w1 (some bs) := hgw.andThen hg1 (fun j h => by cases h; exact .inl (Nat.le_refl _))
      have hsz := hgw1.size
      have hbs := (HR1.out.lt).1
      have hrs := (HR1.out.lt).2
      have HG1 := Lib.hid hgw1
      have hbc : w1.cell? ⟨b, 0, none⟩ = some (.int .i64 f) := (grown_cell hgw1 hl (fun e => hne e.symm) 0).trans HB.out
      refine (clo2_any x v f b _ ?_ ?_).mono ?_
      · exact (cell_old _ _ _ _ (by omega)).trans hbc
      · simp
        omega
      rintro e w2 ⟨rfl, hb2⟩
      have d0 := box_cell (box_new hb2) 0 _ rfl
      have d1 := box_cell (box_new hb2) 1 _ rfl
      rw [hs1] at d0 d1
      have hg2 := grown_of_below (((Below.refl w1.heap.size w1).alloc (Nat.le_refl _) (.cells #[.int .i64 x.1, .int .i64 x.2] 70)).trans (hb2.mono (by simp))) none
      obtain ⟨hr2, hrl2⟩ := HR1.out.of_block (hg2.block _ hbs (by simp)) (hg2.block _ hrs (by simp))
      have HR2 := Lib.hid hr2
      have HG2 := Lib.hid (HG1.out.andThen hg2 (fun j h => by cases h))
      clear hbc hb2 hr2 hg2 hgw1
      cases hv : (x.1 == f)
      · go_wp2
        go_roundw
        case rel => exact ⟨_, by rw [underway_stay f m left x hv]; exact HR2.out, HG2.out⟩
        case measure => omega
      · go_wp2_with ((with_reducible show wpList _ _ _ (Oper.mk none (Op.call _) _ _ _ _ :: _) _ _); refine wp_delete_f rfl _ _ rfl keyS Try.underlying53 rfl HR2.out x rfl HX.out.1 (by rw [HX.out.2.2]; rfl) (by simp) ?_; intro w3 hr3 hrl3 hg3 hs3; have HR3 := Lib.hid hr3; have HG3 := Lib.hid (HG2.out.andThen hg3 (fun j h => by cases h; exact .inr rfl)); clear hr3 hg3)
        go_frame
        go_roundw
        case rel => exact ⟨_, by rw [← underway_strike f m left x hv]; exact HR3.out, HG3.out⟩
        case measure => omega
end Go.Proofs.Ytjgeefagnddpfaa
