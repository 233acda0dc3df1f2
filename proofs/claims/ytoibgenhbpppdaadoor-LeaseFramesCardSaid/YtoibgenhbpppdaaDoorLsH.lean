/- What LeaseFrames keeps, in plain Lean, and its objects in memory. -/
import Derived.Test.YtoibgenhbpppdaaDoorLsG
import Derived.Test.YtoibgenhbpppdaaDoorLsReads
import Derived.Test.YtoibgenhbpppdaaDoorWrI
import Derived.Laws.MakeOwn
namespace Go.Proofs.YtoibgenhbpppdaaDoor
open Go.RowKit

/-- Boxes and slices that one call owns. -/
structure FrW (w wx : World) (b5 : Nat) (x : Ls) (g6 : Nat) (ms : List Int) (Af : Option Addr) (cf : Nat) (fs : List (List UInt8)) (Aw : Option Addr) (cw : Nat) (ws : List (List UInt8)) (eb : List (Nat × Obj)) : Prop where
  b : Below w.heap.size w wx
  l5 : w.heap.size ≤ b5
  h5 : wx.heap[b5]? = some (lsObj x)
  l6 : w.heap.size ≤ g6
  h6 : wx.heap[g6]? = some (.cells (ms.map fun n => Value.int .i64 n).toArray 3 (0, 0))
  o1 : OwnL wx w.heap.size 9 1 strE Af cf fs
  o2 : OwnL wx w.heap.size 9 1 strE Aw cw ws
  n56 : b5 ≠ g6
  nf : slBlk Af ≠ some b5 ∧ slBlk Af ≠ some g6
  nw : slBlk Aw ≠ some b5 ∧ slBlk Aw ≠ some g6
  nn : ∀ i, slBlk Af = some i → slBlk Aw ≠ some i
  ex : ∀ p ∈ eb, w.heap.size ≤ p.1 ∧ wx.heap[p.1]? = some p.2 ∧ p.1 ≠ b5 ∧ p.1 ≠ g6 ∧ slBlk Af ≠ some p.1 ∧ slBlk Aw ≠ some p.1
section
variable {w wx wy : World} {b5 g6 cf cw : Nat} {x : Ls} {ms : List Int} {Af Aw : Option Addr} {fs ws : List (List UInt8)} {eb : List (Nat × Obj)}
theorem FrW.on (h : FrW w wx b5 x g6 ms Af cf fs Aw cw ws eb) (hb : Below wx.heap.size wx wy) : FrW w wy b5 x g6 ms Af cf fs Aw cw ws eb :=
  ⟨h.b.trans (hb.mono h.b.size), h.l5, (hb.block _ (box_lt h.h5)).trans h.h5, h.l6, (hb.block _ (box_lt h.h6)).trans h.h6, h.o1.below hb, h.o2.below hb, h.n56, h.nf, h.nw, h.nn, fun p hp => by
    obtain ⟨h1, h2, h3⟩ := h.ex p hp
    exact ⟨h1, (hb.block _ (box_lt h2)).trans h2, h3⟩⟩
theorem FrW.less (h : FrW w wx b5 x g6 ms Af cf fs Aw cw ws eb) {ec : List (Nat × Obj)} (hs : ∀ p ∈ ec, p ∈ eb) : FrW w wx b5 x g6 ms Af cf fs Aw cw ws ec :=
  ⟨h.b, h.l5, h.h5, h.l6, h.h6, h.o1, h.o2, h.n56, h.nf, h.nw, h.nn, fun p hp => h.ex p (hs p hp)⟩
/-- Another box was made. -/
theorem FrW.box (h : FrW w wx b5 x g6 ms Af cf fs Aw cw ws eb) (cs : Array Value) (t : TypeId) : FrW w (wx.alloc (.cells cs t)) b5 x g6 ms Af cf fs Aw cw ws ((wx.heap.size, .cells cs t (0, 0)) :: eb) := by
  have h1 := h.on ((Below.refl wx.heap.size wx).alloc (Nat.le_refl _) (.cells cs t))
  refine ⟨h1.b, h1.l5, h1.h5, h1.l6, h1.h6, h1.o1, h1.o2, h1.n56, h1.nf, h1.nw, h1.nn, fun p hp => ?_⟩
  rcases List.mem_cons.1 hp with rfl | hp
  · have z5 := box_lt h.h5
    have z6 := box_lt h.h6
    refine ⟨h.b.size, heap_alloc_new wx _, by simp only; omega, by simp only; omega, fun e => ?_, fun e => ?_⟩
    · have := (h.o1.blk_lt e).2; simp only at this; omega
    · have := (h.o2.blk_lt e).2; simp only at this; omega
  · exact h1.ex p hp
/-- The lease is another. -/
theorem FrW.set5 (h : FrW w wx b5 x g6 ms Af cf fs Aw cw ws eb) (m : Ls) : FrW w (set3 wx b5 m) b5 m g6 ms Af cf fs Aw cw ws eb :=
  ⟨set3_below b5 m h.l5 h.b, h.l5, set3_same b5 m x h.h5, h.l6, (set3_other b5 m g6 (fun e => h.n56 e.symm)).trans h.h6, h.o1.turn (fun i hi _ => set3_other b5 m i (fun e => h.nf.1 (by rw [← e]; exact hi))), h.o2.turn (fun i hi _ => set3_other b5 m i (fun e => h.nw.1 (by rw [← e]; exact hi))), h.n56, h.nf, h.nw, h.nn, fun p hp => by
    obtain ⟨h1, h2, h3, h4⟩ := h.ex p hp
    exact ⟨h1, (set3_other b5 m p.1 h3).trans h2, h3, h4⟩⟩
/-- One of the numbers is another. -/
theorem FrW.set6 (h : FrW w wx b5 x g6 ms Af cf fs Aw cw ws eb) (u : Nat) (n : Int) : FrW w (wx.setCell ⟨g6, u, none⟩ (.int .i64 n)) b5 x g6 (ms.set u n) Af cf fs Aw cw ws eb := by
  have ho : ∀ i, i ≠ g6 → (wx.setCell ⟨g6, u, none⟩ (.int .i64 n)).heap[i]? = wx.heap[i]? := fun i hi => heap_setCell_other _ _ _ _ (by simpa using hi)
  refine ⟨h.b.setCell (p := ⟨g6, u, none⟩) h.l6 _, h.l5, (ho b5 h.n56).trans h.h5, h.l6, ?_, h.o1.turn (fun i hi _ => ho i (fun e => h.nf.2 (by rw [← e]; exact hi))), h.o2.turn (fun i hi _ => ho i (fun e => h.nw.2 (by rw [← e]; exact hi))), h.n56, h.nf, h.nw, h.nn, fun p hp => ?_⟩
  · have := h.h6
    simp [World.setCell, Array.getElem?_modify, this, List.map_set]
  · obtain ⟨h1, h2, h3, h4, h5⟩ := h.ex p hp
    exact ⟨h1, (ho p.1 h4).trans h2, h3, h4, h5⟩
/-- A frame more. -/
theorem FrW.app1 (h : FrW w wx b5 x g6 ms Af cf fs Aw cw ws eb) {A2 : Option Addr} {c2 : Nat} {fs2 : List (List UInt8)}
    (ho : OwnL wy w.heap.size 9 1 strE A2 c2 fs2) (hg : wx.grownBy wy (slBlk Af)) (hat : slBlk A2 = slBlk Af ∨ slBlk A2 = some wx.heap.size) : FrW w wy b5 x g6 ms A2 c2 fs2 Aw cw ws eb := by
  have z5 := box_lt h.h5
  have z6 := box_lt h.h6
  have k : ∀ i o, wx.heap[i]? = some o → slBlk Af ≠ some i → wy.heap[i]? = some o := fun i o hi hn => (hg.block i (box_lt hi) (fun e => hn e.symm)).trans hi
  refine ⟨h.b.grown hg h.b.size (fun j hj => (h.o1.blk_lt hj).1), h.l5, k _ _ h.h5 h.nf.1, h.l6, k _ _ h.h6 h.nf.2, ho, h.o2.turn (fun i hi hlt => hg.block i hlt (fun e => h.nn i e.symm hi)), h.n56, ?_, h.nw, ?_, fun p hp => ?_⟩
  · rcases hat with e | e
    · rw [e]; exact h.nf
    · rw [e]; exact ⟨fun q => by have := Option.some.inj q; omega, fun q => by have := Option.some.inj q; omega⟩
  · intro i hi hq
    rcases hat with e | e
    · exact h.nn i (e ▸ hi) hq
    · rw [e] at hi
      have := (h.o2.blk_lt hq).2
      have := Option.some.inj hi
      omega
  · obtain ⟨h1, h2, h3, h4, h5, h6⟩ := h.ex p hp
    refine ⟨h1, k _ _ h2 h5, h3, h4, ?_, h6⟩
    rcases hat with e | e
    · rw [e]; exact h5
    · rw [e]
      intro q
      have := Option.some.inj q
      have := box_lt h2
      omega
/-- A record more. -/
theorem FrW.app2 (h : FrW w wx b5 x g6 ms Af cf fs Aw cw ws eb) {A2 : Option Addr} {c2 : Nat} {ws2 : List (List UInt8)}
    (ho : OwnL wy w.heap.size 9 1 strE A2 c2 ws2) (hg : wx.grownBy wy (slBlk Aw)) (hat : slBlk A2 = slBlk Aw ∨ slBlk A2 = some wx.heap.size) : FrW w wy b5 x g6 ms Af cf fs A2 c2 ws2 eb := by
  have z5 := box_lt h.h5
  have z6 := box_lt h.h6
  have k : ∀ i o, wx.heap[i]? = some o → slBlk Aw ≠ some i → wy.heap[i]? = some o := fun i o hi hn => (hg.block i (box_lt hi) (fun e => hn e.symm)).trans hi
  refine ⟨h.b.grown hg h.b.size (fun j hj => (h.o2.blk_lt hj).1), h.l5, k _ _ h.h5 h.nw.1, h.l6, k _ _ h.h6 h.nw.2, h.o1.turn (fun i hi hlt => hg.block i hlt (fun e => h.nn i hi e.symm)), ho, h.n56, h.nf, ?_, ?_, fun p hp => ?_⟩
  · rcases hat with e | e
    · rw [e]; exact h.nw
    · rw [e]; exact ⟨fun q => by have := Option.some.inj q; omega, fun q => by have := Option.some.inj q; omega⟩
  · intro i hi hq
    rcases hat with e | e
    · exact h.nn i hi (e ▸ hq)
    · rw [e] at hq
      have := (h.o1.blk_lt hi).2
      have := Option.some.inj hq
      omega
  · obtain ⟨h1, h2, h3, h4, h5, h6⟩ := h.ex p hp
    refine ⟨h1, k _ _ h2 h6, h3, h4, h5, ?_⟩
    rcases hat with e | e
    · rw [e]; exact h6
    · rw [e]
      intro q
      have := Option.some.inj q
      have := box_lt h2
      omega
theorem FrW.cells5 (h : FrW w wx b5 x g6 ms Af cf fs Aw cw ws eb) : wx.cell? ⟨b5, 0, none⟩ = some (.int .i64 x.who) ∧ wx.cell? ⟨b5, 1, none⟩ = some (.int .i64 x.epoch) ∧ wx.cell? ⟨b5, 2, none⟩ = some (.int .i64 x.till) :=
  ⟨box_cell h.h5 0 _ rfl, box_cell h.h5 1 _ rfl, box_cell h.h5 2 _ rfl⟩
theorem FrW.cell6 (h : FrW w wx b5 x g6 ms Af cf fs Aw cw ws eb) {u : Nat} {n : Int} (hu : ms[u]? = some n) : wx.cell? ⟨g6, u, none⟩ = some (.int .i64 n) := box_cell h.h6 u _ (by simp [hu])
end

/-- What LeaseFrames keeps. -/
structure FrI (x : Ls) (ms : List Int) (fs ws : List (List UInt8)) (g now : Int) (k : Nat) : Prop where
  f : x.fine = true
  n : 0 ≤ now
  nk : now ≤ 1000 * k
  t : x.till ≤ now + 1000
  e : x.epoch ≤ k
  ml : ms.length = 6
  mb : ∀ e ∈ ms, 0 ≤ e ∧ e ≤ x.epoch
  v : validP fs = (ws, g)
  fl : fs.length ≤ k
  fb : ∀ s ∈ fs, s.length ≤ 1000
theorem FrI.asks {x : Ls} {ms : List Int} {fs ws : List (List UInt8)} {g now : Int} {k : Nat} (h : FrI x ms fs ws g now k) (hk : k ≤ 24) {who later span : Int} (h0 : 0 ≤ who) (h1 : who ≤ 5) (h2 : 0 ≤ later) (h3 : later ≤ 1000) (h4 : 1 ≤ span) (h5 : span ≤ 1000) : Asks x who (now + later) span := by
  have := h.n
  have := h.nk
  have := h.e
  exact ⟨h.f, h0, h1, by omega, by omega, h4, h5, by omega⟩
theorem FrI.grant {x : Ls} {ms : List Int} {fs ws : List (List UInt8)} {g now : Int} {k : Nat} (h : FrI x ms fs ws g now k) {who later span : Int} (h2 : 0 ≤ later) (h3 : later ≤ 1000) (ha : Asks x who (now + later) span) (u : Nat) :
    (grantE x who (now + later) span = 0 → FrI (grantL x who (now + later) span) (ms.set u (grantL x who (now + later) span).epoch) fs ws g (now + later) (k + 1)) ∧
    (grantE x who (now + later) span ≠ 0 → FrI (grantL x who (now + later) span) ms fs ws g (now + later) (k + 1)) := by
  have hf := (fine_iff x).1 h.f
  have h6 := h.n
  have h7 := h.nk
  have h8 := h.t
  have h9 := h.e
  have h10 := h.fl
  have ha2 := ha
  unfold Asks at ha2
  rcases grant_case ha with ⟨g1, g2, g3, g4, g5⟩ | ⟨g1, g2, g3, g4, g5⟩ | ⟨g1, g4, g5⟩
  · rw [g4, g5]
    exact ⟨fun e => by simp at e, fun _ => ⟨h.f, by omega, by omega, by omega, by omega, h.ml, h.mb, h.v, by omega, h.fb⟩⟩
  · rw [g4, g5]
    refine ⟨fun _ => ⟨(fine_iff _).2 ⟨by simp only; omega, by simp only; omega, by simp only; omega⟩, by omega, by omega, by simp only; omega, by simp only; omega, by simp [h.ml], fun e he => ?_, h.v, by omega, h.fb⟩, fun e => absurd rfl e⟩
    rcases List.mem_or_eq_of_mem_set he with he | rfl
    · exact h.mb e he
    · exact ⟨by show 0 ≤ x.epoch; omega, Int.le_refl _⟩
  · rw [g4, g5]
    refine ⟨fun _ => ⟨(fine_iff _).2 ⟨by simp only; omega, by simp only; omega, by simp only; omega⟩, by omega, by omega, by simp only; omega, by simp only; omega, by simp [h.ml], fun e he => ?_, h.v, by omega, h.fb⟩, fun e => absurd rfl e⟩
    rcases List.mem_or_eq_of_mem_set he with he | rfl
    · have := h.mb e he
      simp only
      omega
    · simp only; omega
/-- What is written. -/
theorem FrI.write {x : Ls} {ms : List Int} {fs ws : List (List UInt8)} {g now : Int} {k : Nat} (h : FrI x ms fs ws g now k) (hk : k ≤ 24) {later e : Int} (h2 : 0 ≤ later) (h3 : later ≤ 1000) (he : e ∈ ms) {r : List UInt8} (hr : r.length ≤ 300) :
    (¬ (0 < e ∧ g ≤ e) → FrI x ms (fs ++ [frameF e r]) ws g (now + later) (k + 1)) ∧ (0 < e ∧ g ≤ e → FrI x ms (fs ++ [frameF e r]) (ws ++ [r]) e (now + later) (k + 1)) ∧ (frameF e r = [] ↔ e = 0) := by
  have h6 := h.n
  have h7 := h.nk
  have h8 := h.t
  have h9 := h.e
  have h10 := h.fl
  have h11 := h.mb e he
  have hfr : ∀ (_ : 0 < e), framedB e r = true := fun h0 => (framedB_iff _ _).2 ⟨by omega, by omega, by omega⟩
  have hlen : (frameF e r).length ≤ 1000 := by
    by_cases h0 : 0 < e
    · rw [frame_yes (hfr h0), List.length_append]
      have := encI_len e ⟨by omega, by omega⟩
      have := encT_len r ⟨by omega, by omega⟩
      omega
    · rw [frame_no (by simp [framedB]; omega)]
      simp
  have hb : ∀ s ∈ fs ++ [frameF e r], s.length ≤ 1000 := fun s hs => by
    rcases List.mem_append.1 hs with hs | hs
    · exact h.fb s hs
    · simp only [List.mem_singleton] at hs; rw [hs]; exact hlen
  have hv : validP (fs ++ [frameF e r]) = vstep (ws, g) (frameF e r) := by
    have := h.v
    unfold validP at *
    rw [List.foldl_append, this]
    rfl
  refine ⟨fun hn => ⟨h.f, by omega, by omega, by omega, by omega, h.ml, h.mb, ?_, by simp; omega, hb⟩, fun hn => ⟨h.f, by omega, by omega, by omega, by omega, h.ml, h.mb, ?_, by simp; omega, hb⟩, ?_⟩
  · rw [hv]
    by_cases h0 : 0 < e
    · rw [vstep, openF_back (hfr h0), if_neg]
      rintro ⟨_, h1⟩
      simp only at h1
      omega
    · rw [vstep, if_neg]
      rintro ⟨h1, _⟩
      have h2 := openF_inv h1
      rw [frame_no (by simp [framedB]; omega)] at h2
      have h3 := frame_ne ((framedB_iff _ _).2 h2.1)
      exact h3 h2.2.symm
  · rw [hv, vstep, openF_back (hfr hn.1), if_pos ⟨rfl, hn.2⟩]
  · by_cases h0 : 0 < e
    · have := frame_ne (hfr h0)
      exact ⟨fun q => absurd q this, fun q => by omega⟩
    · rw [frame_no (by simp [framedB]; omega)]
      exact ⟨fun _ => by omega, fun _ => rfl⟩
/-- make([]int, n) -/
theorem wp_make_int {P : Program} {w : World} {e t : TypeId} {ops : Array Oper} {rest : List Oper} {o : Oper} {a : Act} {Q : Exit → Act → World → Prop} (hgd : o.guard = none) (x y : Operand)
    (ho : o.op = .makeSlice t x y) {inf : TypeInfo} (ht : P.underlying t = some (.slice e)) (hi : P.info? e = some inf) (hz : inf.zero = some (.int .i64 0)) (hsz : inf.size = 1) (hby : inf.bytes = 8)
    {n : Nat} (hx : a.eval x = .int .i64 n) (hy : a.eval y = .int .i64 n) (hn : n ≤ 1000000000000)
    (hK : wpList P ops Q rest (a.put o.dst (.slice (some ⟨w.heap.size, 0, none⟩) n n)) (w.alloc (.cells ((List.replicate n (0 : Int)).map fun n => Value.int .i64 n).toArray e))) : wpList P ops Q (o :: rest) a w := by
  refine wpList_plain hgd fun K hK' => ?_
  have hrun := run_make (P := P) w t e inf (.int .i64 0) ht hi hz .i64 .i64 n n (by omega) (Int.le_refl _) (by rw [hby]; omega) (by omega)
  have hm : madeCells (Value.int .i64 0).cells (n * 1) = ((List.replicate n (0 : Int)).map fun n => Value.int .i64 n).toArray := by
    unfold madeCells
    apply Array.ext
    · simp
    · intro i h1 h2
      have : (Value.int IntKind.i64 0).cells = #[Value.int .i64 0] := rfl
      simp [this, Nat.mod_one]
  rw [hsz, Int.toNat_natCast, hm] at hrun
  unfold Oper.wp
  simp [execOp, ho, hx, hy, hrun, Result.andThen]
  simp at hK
  exact hK' _ _ hK
end Go.Proofs.YtoibgenhbpppdaaDoor
