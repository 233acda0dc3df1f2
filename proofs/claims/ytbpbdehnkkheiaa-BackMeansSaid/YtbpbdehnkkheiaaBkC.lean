/- Contract of back.Back, first part: where things lie, and what the early returns give. -/
import Derived.Test.YtbpbdehnkkheiaaBkB
namespace Go.Proofs.Ytbpbdehnkkheiaa
open Go.RowKit

theorem slIntE : SlTy Try.prog 26 3 1 8 := by
  obtain ⟨i, hi, h0, h1, h2⟩ := info_parts (show (Try.prog.info? 3).map (fun i => (i.zero, i.size, i.bytes)) = some (some (.int .i64 0), 1, 8) by kernel_rfl)
  exact ⟨Try.underlying26, ⟨i, _, hi, h0, h1, h2, rfl⟩, by decide, by decide⟩
theorem equalIn_slice_nilE {P : Program} (w : World) (d : Nat) (t e : TypeId) (a : Option Addr) (l c : Nat) (h : P.underlying t = some (.slice e)) : (Op.equalIn (d + 1) t (.slice a l c) (.slice none 0 0)).run P w = .ok a.isNone w := by
  cases a <;> simp [Op.equalIn, run_underlying h]
theorem run_eql_slice_nilE {P : Program} (w : World) (t e : TypeId) (a : Option Addr) (l c : Nat) (h : P.underlying t = some (.slice e)) : (binOp .eql t (.slice a l c) (.slice none 0 0)).run P w = .ok (.bool a.isNone) w := by
  simp [binOp, show Op.equal t (.slice a l c) (.slice none 0 0) = Op.equalIn (9999 + 1) t (.slice a l c) (.slice none 0 0) from rfl, equalIn_slice_nilE w 9999 t e a l c h]
theorem OwnL.len_le {T : Type} {sz : Nat} {enc : T → List Value} {w : World} {base : Nat} {e : TypeId} {A : Option Addr} {c : Nat} {xs : List T} (h : OwnL w base e sz enc A c xs) : xs.length ≤ c := by
  rcases h.2 with ⟨hv, hn⟩ | ⟨g, cap, cur, hv, _, _, hn, _⟩
  · injection hv with _ _ e3
    omega
  · injection hv with _ _ e3
    omega
set_option maxHeartbeats 1000000 in
theorem intClone_any (xs : List Int) (A : Option Addr) (n c : Nat) (w : World) (hn : n = xs.length) (hr : RdI w w.heap.size A xs) (hm : xs.length ≤ 4194320) :
    Calls Try.prog 21 #[.slice A n c] w fun e w' => ∃ A' c', e = .returned (.slice A' xs.length c') ∧ OwnL w' w.heap.size 3 1 intC A' c' xs ∧ Below w.heap.size w w' := by
  subst hn
  have hq := @run_eql_slice_nilE Try.prog
  rcases A with _ | a
  · obtain rfl : xs = [] := by
      rcases xs with _ | ⟨x, r⟩
      · rfl
      · obtain ⟨b, off, h, _⟩ := hr 0 x rfl
        cases h
    have q := hq w 26 3 none 0 c Try.underlying26
    clear hq
    go_enter Try.func21, Try.ntmps21
    go_wp2
    go_ret
    exact ⟨none, 0, rfl, OwnL.nil_, Below.refl _ _⟩
  · have q := hq w 26 3 (some a) xs.length c Try.underlying26
    clear hq
    have HO := Lib.hid (OwnL.empty (T := Int) (sz := 1) (enc := intC) w 3 w.heap.size (Nat.le_refl _) _ rfl)
    have HR := Lib.hid (hr.now ((Below.refl _ _).alloc (Nat.le_refl _) (.cells #[] 3)))
    go_enter Try.func21, Try.ntmps21
    go_wp2_with (at_builtin; refine wp_append_l rfl (.tmp 5) (.tmp 6) rfl slIntE intLay w.heap.size (xs := ([] : List Int)) (ys := xs) rfl rfl HO.out rfl rfl HR.out (by simp; omega) (by simp) ?_; intro A2 c2 w2 hown hg hb hat; have HO2 := Lib.hid hown; have HB2 := Lib.hid hb; clear hown hg hb hat)
    go_ret
    exact ⟨A2, c2, rfl, HO2.out, ((Below.refl _ _).alloc (Nat.le_refl _) _).trans HB2.out⟩

/-- Two results: a struct that lies in a box, and a slot. -/
theorem ret_box2 {P : Program} {fn : Func} {R : Ending → World → Prop} {a : Act} {w : World} (s t : Nat) (ty : TypeId) (hf : fn.results = #[.cell s ty, .tmp t]) (b : Nat) (cs : List Value) (d : TypeDesc) (v : Value)
    (hs : a.tmps.getD s undef = .pointer (some ⟨b, 0, none⟩)) (hv : a.tmps.getD t undef = v) (hc : w.rangeAt b 0 cs) (hu : P.underlying ty = some d) (hd : d.isRow = true) (hi : (P.info? ty).map (·.size) = some cs.length)
    (hdf : a.defers = []) (hR : R (.returned (.tuple #[.agg cs.toArray, v])) w) : bodyPost P fn R .ret a w := by
  refine bodyPost_ret (v := .tuple #[.agg cs.toArray, v]) ?_ hdf hR
  unfold results
  rw [hf]
  simp only [List.mapM_toArray, List.mapM_cons, List.mapM_nil, hs, hv, asAddr, Sem.run_bind, Sem.run_pure, Result.andThen_ok, Sem.run_map, run_loadVar_mid w b 0 ty cs d hc hu hd hi]
  simp

def BackOut (p : Prof) (xs : List Pair) (net : Int) (r : RawM) (step : Int) (w : World) (en : Ending) (w' : World) : Prop :=
  Below w.heap.size w w' ∧ ∃ fA fc, en = .returned (.tuple #[(backS p xs net r step).1.v none 0 fA fc, .int .i64 (backS p xs net r step).2]) ∧ RdI w' w'.heap.size fA (backS p xs net r step).1.files ∧ (backS p xs net r step).1.files.length ≤ fc ∧ ∀ j, slBlk fA = some j → w.heap.size ≤ j
/-- The three boxes at the head of the call. -/
structure BkW (p : Prof) (A : Option Addr) (c : Nat) (r : RawM) (fA : Option Addr) (fc : Nat) (w wx : World) : Prop where
  b : Below w.heap.size w wx
  z : w.heap.size + 3 ≤ wx.heap.size
  p0 : wx.heap[w.heap.size]? = some (.cells (p.cs A c) 24 (0, 0))
  r1 : wx.heap[w.heap.size + 1]? = some (.cells (r.cs fA fc) 28 (0, 0))
  o2 : wx.heap[w.heap.size + 2]? = some (.cells zeroE 33 (0, 0))
theorem BkW.start (p : Prof) (A : Option Addr) (c : Nat) (r : RawM) (fA : Option Addr) (fc : Nat) (w : World) : BkW p A c r fA fc w (((w.alloc (.cells (p.cs A c) 24)).alloc (.cells (r.cs fA fc) 28)).alloc (.cells zeroE 33)) := by
  refine ⟨by repeat (first | with_reducible exact Below.refl _ _ | with_reducible assumption | with_reducible refine Below.drew ?_ | with_reducible refine Below.alloc ?_ (by first | omega | (simp; done) | (simp; omega)) _), by simp, ?_, ?_, ?_⟩
  · rw [Below.heap_alloc _ _ _ (by simp; omega), Below.heap_alloc _ _ _ (by simp)]
    exact (MapKept.heap_alloc w _).1
  · rw [Below.heap_alloc _ _ _ (by simp)]
    exact (by simpa using (MapKept.heap_alloc (w.alloc (.cells (p.cs A c) 24)) (.cells (r.cs fA fc) 28)).1)
  · exact (by simpa using (MapKept.heap_alloc ((w.alloc (.cells (p.cs A c) 24)).alloc (.cells (r.cs fA fc) 28)) (.cells zeroE 33)).1)
section
variable {p : Prof} {A : Option Addr} {c : Nat} {r : RawM} {fA : Option Addr} {fc : Nat} {w wx wy : World}
theorem BkW.turn (h : BkW p A c r fA fc w wx) (t : Turn (fun i => w.heap.size + 3 ≤ i) wx wy) : BkW p A c r fA fc w wy := by
  have hz := h.z
  refine ⟨h.b.trans (t.to_below h.b.size (fun i hi => by omega)), Nat.le_trans h.z t.size, (t.block _ (by omega) (by omega)).trans h.p0, (t.block _ (by omega) (by omega)).trans h.r1, (t.block _ (by omega) (by omega)).trans h.o2⟩
theorem BkW.below (h : BkW p A c r fA fc w wx) (hb : Below wx.heap.size wx wy) : BkW p A c r fA fc w wy := h.turn (Turn.below hb)
theorem BkW.prof (h : BkW p A c r fA fc w wx) : wx.rangeAt w.heap.size 0 (p.cs A c).toList := range_block h.p0 rfl
theorem BkW.raw (h : BkW p A c r fA fc w wx) : wx.rangeAt (w.heap.size + 1) 0 (r.cs fA fc).toList := range_block h.r1 rfl
theorem BkW.there (h : BkW p A c r fA fc w wx) : wx.there (w.heap.size + 2) 0 12 := by
  intro j hj
  rw [Nat.zero_add]
  refine ⟨?_, box_free h.o2 j⟩
  unfold World.cell?
  simp [h.o2, zeroE]
  omega
end
theorem zeroOne : zeroE.all (·.oneCell') = true := by
  simp [zeroE, Value.oneCell']
/-- What an early return gives. -/
theorem backErr {p : Prof} {xs : List Pair} {net : Int} {r : RawM} {step : Int} {w w' : World} {n : Int} (h : backS p xs net r step = (zeroEv, n)) (hb : Below w.heap.size w w') : BackOut p xs net r step w (.returned (.tuple #[.agg zeroE, .int .i64 n])) w' := by
  unfold BackOut
  rw [h]
  exact ⟨hb, none, 0, rfl, RdL.nil_, Nat.le_refl _, fun j hj => by cases hj⟩
end Go.Proofs.Ytbpbdehnkkheiaa
