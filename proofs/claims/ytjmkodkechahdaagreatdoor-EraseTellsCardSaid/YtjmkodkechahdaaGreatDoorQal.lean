/- Contracts and plain laws, joined: Byt. -/
import Derived.Test.YtjmkodkechahdaaGreatDoorQaf
import Derived.Lib.ConvBytes
import Derived.Lib.BufferMore
import Derived.Lib.BufferWrite
import Derived.Laws.IdiomStrings
/- A slice of bytes that the call owns, whatever mark its row bears (a conversion's row bears one): conversion, append of a byte, a store, and the string again; over any program. -/
set_option linter.unusedSimpArgs false
set_option linter.unusedVariables false
namespace Go.Proofs.YtjmkodkechahdaaGreatDoor
open Go.RowKit

/-- The slice '.slice (some ⟨g, 0, none⟩) l.length c' holds the bytes l, and may be written. -/
structure OwnB (w : World) (base : Nat) (e : TypeId) (g c : Nat) (l : List UInt8) : Prop where
  lo : base ≤ g
  row : ∃ cur fr, w.heap[g]? = some (.cells cur e fr) ∧ (∀ j, j < cur.size → ¬ (fr.1 ≤ j ∧ j < fr.2)) ∧ cur.size = c ∧ cur.toList.take l.length = Lib.byteCells l
  len : l.length ≤ c
  cap : c ≤ maxLen

section
variable {P : Program} {w w' : World} {base g c : Nat} {e t : TypeId} {l : List UInt8}
theorem byteCells_len (l : List UInt8) : (Lib.byteCells l).length = l.length := by simp [Lib.byteCells]
theorem byteCells_get (l : List UInt8) (j : Nat) (x : UInt8) (h : l[j]? = some x) : (Lib.byteCells l)[j]? = some (.int .u8 x.toNat) := by
  simp [Lib.byteCells, h]
theorem OwnB.lt (h : OwnB w base e g c l) : g < w.heap.size := by
  obtain ⟨cur, fr, hg, _⟩ := h.row
  exact (Array.getElem?_eq_some_iff.1 hg).1
theorem OwnB.cells (h : OwnB w base e g c l) (j : Nat) (u : Value) (hu : (Lib.byteCells l)[j]? = some u) : w.cell? ⟨g, j, none⟩ = some u := by
  obtain ⟨cur, fr, hg, _, _, ht⟩ := h.row
  rw [← ht, List.getElem?_take] at hu
  unfold World.cell?
  simp only [hg]
  split at hu
  · simpa using hu
  · cases hu
theorem OwnB.cell (h : OwnB w base e g c l) (j : Nat) (hj : j < l.length) : w.cell? ⟨g, j, none⟩ = some (.int .u8 l[j].toNat) :=
  h.cells j _ (byteCells_get l j _ (List.getElem?_eq_getElem hj))
theorem OwnB.free (h : OwnB w base e g c l) (j : Nat) (hj : j < c) : w.frozen? ⟨g, j, none⟩ = false := by
  obtain ⟨cur, fr, hg, hf, hs, _⟩ := h.row
  have := hf j (by omega)
  unfold World.frozen?
  simp only [hg]
  simpa using this
theorem OwnB.of_block (h : OwnB w base e g c l) (hb : w'.heap[g]? = w.heap[g]?) : OwnB w' base e g c l := by
  obtain ⟨cur, fr, hg, rest⟩ := h.row
  exact ⟨h.lo, ⟨cur, fr, hb.trans hg, rest⟩, h.len, h.cap⟩
theorem OwnB.below (h : OwnB w base e g c l) (hb : Below w.heap.size w w') : OwnB w' base e g c l := h.of_block (hb.block g h.lt)

/-- []byte(s) -/
theorem OwnB.conv (w : World) (e : TypeId) (s : ByteArray) (hs : s.size ≤ maxLen) : OwnB (Lib.bytesWorld w e s) w.heap.size e w.heap.size (grownCap w s.size 0 e) s.data.toList := by
  have hge := grownCap_ge w s.size 0 e
  have hl : s.data.toList.length = s.size := by rw [Array.length_toList]; rfl
  have hz : (Lib.bytesCells w e s).size = grownCap w s.size 0 e := by
    have : s.data.size = s.size := rfl
    simp [Lib.bytesCells, this]
    omega
  refine ⟨Nat.le_refl _, ⟨_, _, Lib.bytesWorld_at_new w e s, fun j hj h => by have := h.1; simp only at this; omega, hz, ?_⟩, by omega, grownCap_le_maxLen w _ _ _ hs⟩
  have hbc : (s.data.map (fun b => Value.int .u8 b.toNat)).toList = Lib.byteCells s.data.toList := by simp [Lib.byteCells]
  rw [Lib.bytesCells, Array.toList_append, hbc]
  have hbl := byteCells_len s.data.toList
  rw [← hbl]
  exact List.take_left
theorem below_conv (w : World) (e : TypeId) (s : ByteArray) : Below w.heap.size w (Lib.bytesWorld w e s) :=
  ⟨rfl, rfl, rfl, by rw [Lib.bytesWorld_size]; omega, fun j hj => Lib.bytesWorld_at_old w e s j hj⟩

theorem setCell_row {cur : Array Value} {fr : Nat × Nat} (hg : w.heap[g]? = some (.cells cur e fr)) (i : Nat) (v : Value) : (w.setCell ⟨g, i, none⟩ v).heap[g]? = some (.cells (cur.setIfInBounds i v) e fr) := Lib.heap_setCell_same hg v
theorem byteCells_set (l : List UInt8) (i : Nat) (x : UInt8) : Lib.byteCells (l.set i x) = (Lib.byteCells l).set i (.int .u8 x.toNat) := by
  simp [Lib.byteCells, List.map_set]
/-- s[i] = x -/
theorem OwnB.set (h : OwnB w base e g c l) (i : Nat) (x : UInt8) : OwnB (w.setCell ⟨g, i, none⟩ (.int .u8 x.toNat)) base e g c (l.set i x) := by
  obtain ⟨cur, fr, hg, hf, hs, ht⟩ := h.row
  refine ⟨h.lo, ⟨_, fr, setCell_row hg i _, by simpa using hf, by simpa using hs, ?_⟩, by rw [List.length_set]; exact h.len, h.cap⟩
  rw [List.length_set, Array.toList_setIfInBounds, byteCells_set, ← ht, List.take_set]

theorem OwnB.take (h : OwnB w base e g c l) (n : Nat) : OwnB w base e g c (l.take n) := by
  obtain ⟨lo, ⟨cur, fr, hg, hf, hs, ht⟩, len, cap⟩ := h
  refine ⟨lo, ⟨cur, fr, hg, hf, hs, ?_⟩, by rw [List.length_take]; omega, cap⟩
  have e1 : Lib.byteCells (l.take n) = (Lib.byteCells l).take n := by simp [Lib.byteCells]
  rw [e1, ← ht, List.take_take, List.length_take]
theorem run_store1 (h : OwnB w base e g c l) (i : Nat) (hi : i < c) (x : Value) (hx : x.oneCell' = true) (m : Mode) : (store ⟨g, i, none⟩ x m).run P w = .ok () (w.setCell ⟨g, i, none⟩ x) := by
  obtain ⟨cur, fr, hg, hf, hs, ht⟩ := h.row
  have hc : w.cell? ⟨g, i, none⟩ = some cur[i] := by
    unfold World.cell?
    simp [hg, show i < cur.size by omega]
  rw [run_store P w _ x m hx, hc]
  simp [h.free i hi]

/-- append(s, x) -/
theorem run_append_b {inf : TypeInfo} (ht : P.underlying t = some (.slice e)) (hi : P.info? e = some inf) (hz : inf.zero = some (.int .u8 0)) (hsz : inf.size = 1) (hby : inf.bytes = 1)
    (h : OwnB w base e g c l) (x : UInt8) (ad : Addr) (d : Nat) (hx : w.cell? ad = some (.int .u8 x.toNat)) (hl : l.length < 140737488355328) (hbase : base ≤ w.heap.size) (ty : TypeId) :
    ∃ g2 c2 w2, (Builtin.append_ #[t, t] ty #[.slice (some ⟨g, 0, none⟩) l.length c, .slice (some ad) 1 d]).run P w = .ok (.slice (some ⟨g2, 0, none⟩) (l.length + 1) c2) w2 ∧ OwnB w2 base e g2 c2 (l ++ [x]) ∧ w.grownBy w2 (some g) := by
  have hl1 := h.len
  have hl2 := h.cap
  have hnews : ∀ j v, [Value.int .u8 x.toNat][j]? = some v → w.cell? (ad.add j) = some v := by
    intro j v hv
    have hj : j = 0 := by have := (List.getElem?_eq_some_iff.1 hv).1; simp at this; omega
    subst hj
    have : ad.add 0 = ad := by unfold Addr.add; simp
    rw [this, hx]
    simpa using hv
  by_cases hr : l.length + 1 ≤ c
  · have hf := run_firstCells_some (P := P) w inf.size 1 ad 1 d [.int .u8 x.toNat] (by simp [hsz]) hnews
    have hst := run_store1 (P := P) h l.length (by omega) (.int .u8 x.toNat) rfl .plain
    obtain ⟨cur, fr, hg, hfz, hs, htk⟩ := h.row
    have hadd : (⟨g, l.length, none⟩ : Addr).add 0 = ⟨g, l.length, none⟩ := by unfold Addr.add; simp
    refine ⟨g, c, w.setCell ⟨g, l.length, none⟩ (.int .u8 x.toNat), ?_, ⟨h.lo, ⟨_, fr, setCell_row hg _ _, by simpa using hfz, by simpa using hs, ?_⟩, by simpa using hr, h.cap⟩, ⟨rfl, rfl, rfl, by simp [World.setCell], fun k _ hk => heap_setCell_other w ⟨g, l.length, none⟩ k _ (fun e => hk (by rw [e]))⟩⟩
    · simp [Builtin.append_, run_underlying ht, sizeOf, typeInfo, hi, Builtin.lenOf, hr, hsz] at hf ⊢
      simp [hf, Addr.add_lit, storeCells, hst]
    · rw [List.length_append, List.length_singleton, Array.toList_setIfInBounds]
      have hlt : l.length < cur.toList.length := by have := Array.length_toList (xs := cur); omega
      rw [List.take_succ_eq_append_getElem (by rw [List.length_set]; exact hlt), List.take_set_of_le (Nat.le_refl _), List.getElem_set_self, htk]
      simp [Lib.byteCells]
  · have hcells : ∀ j v, (Lib.byteCells l)[j]? = some v → w.cell? ((⟨g, 0, none⟩ : Addr).add j) = some v := by
      intro j v hv
      have : (⟨g, 0, none⟩ : Addr).add j = ⟨g, j, none⟩ := by unfold Addr.add; split <;> simp_all
      rw [this]
      exact h.cells j v hv
    have hrun := run_append_grow (P := P) w t ty e inf (.int .u8 0) ht hi hz ⟨g, 0, none⟩ l.length c (Lib.byteCells l) (by rw [byteCells_len, hsz, Nat.mul_one]) hcells ad 1 d [.int .u8 x.toNat] (by simp [hsz]) hnews (by omega) (by omega) (growslice_fits (by omega) (by rw [hby]; omega))
    refine ⟨_, _, _, hrun, ⟨hbase, ⟨_, (0, 0), heap_alloc_new w.drew _, fun j _ h => by have := h.2; simp only at this; omega, ?_, ?_⟩, ?_, grownCap_le_maxLen w _ _ _ (by simp only [maxLen]; omega)⟩, ⟨rfl, rfl, rfl, by simp, fun k hk _ => Below.heap_alloc w.drew _ k hk⟩⟩
    · have := grownCap_ge w (l.length + 1) c e
      have h0 := size_zeroCells (Value.int .u8 0).cells (grownCap w (l.length + 1) c e - (l.length + 1))
      have hc1 : (Value.int .u8 0).cells.size = 1 := rfl
      rw [hc1, Nat.mul_one] at h0
      rw [Array.size_append, Array.size_append, h0]
      simp [Lib.byteCells]
      omega
    · have h1 : Lib.byteCells (l ++ [x]) = Lib.byteCells l ++ [.int .u8 x.toNat] := by simp [Lib.byteCells]
      have hln : (l ++ [x]).length = (Lib.byteCells l ++ [Value.int .u8 x.toNat]).length := by simp [Lib.byteCells]
      rw [h1, hln]
      simp only [Array.toList_append]
      exact List.take_left
    · have := grownCap_ge w (l.length + 1) c e
      simpa using this
theorem wp_append_b {ops : Array Oper} {rest : List Oper} {o : Oper} {a : Act} {Q : Exit → Act → World → Prop} (hgd : o.guard = none) (s y : Operand)
    (ho : o.op = .call { callee := .builtin .append, args := #[s, y], argTypes := #[t, t] }) {inf : TypeInfo} (ht : P.underlying t = some (.slice e)) (hi : P.info? e = some inf) (hz : inf.zero = some (.int .u8 0)) (hsz : inf.size = 1) (hby : inf.bytes = 1)
    {n : Nat} (hs : a.eval s = .slice (some ⟨g, 0, none⟩) n c) (hn : n = l.length) (h : OwnB w base e g c l) (x : UInt8) {ad : Addr} {d : Nat} (hy : a.eval y = .slice (some ad) 1 d) (hx : w.cell? ad = some (.int .u8 x.toNat)) (hl : l.length < 140737488355328) (hbase : base ≤ w.heap.size)
    (hK : ∀ g2 c2 w2, OwnB w2 base e g2 c2 (l ++ [x]) → w.grownBy w2 (some g) → wpList P ops Q rest (a.put o.dst (.slice (some ⟨g2, 0, none⟩) (l.length + 1) c2)) w2) : wpList P ops Q (o :: rest) a w := by
  subst hn
  refine wpList_plain hgd fun K hK' => ?_
  obtain ⟨g2, c2, w2, hrun, h1, h2⟩ := run_append_b ht hi hz hsz hby h x ad d hx hl hbase o.type
  unfold Oper.wp execOp
  simp only [ho, resolve, invoke, builtin, Sem.run_bind, Sem.run_pure, Result.andThen_ok, List.map_toArray, List.map_cons, List.map_nil, hs, hy, hrun]
  exact hK' _ _ (hK g2 c2 w2 h1 h2)
/-- string(s) -/
theorem wp_string_b {ops : Array Oper} {rest : List Oper} {o : Oper} {a : Act} {Q : Exit → Act → World → Prop} (hgd : o.guard = none) (x : Operand) (src dst : TypeId)
    (ho : o.op = .convert src dst x) (hs : P.underlying src = some (.slice e)) (he : P.underlying e = some (.int .u8)) (hd : P.underlying dst = some .string)
    {n : Nat} (hx : a.eval x = .slice (some ⟨g, 0, none⟩) n c) (hn : n = l.length) (h : OwnB w base e g c l)
    (hK : wpList P ops Q rest (a.put o.dst (.string ⟨l.toArray⟩)) w) : wpList P ops Q (o :: rest) a w := by
  subst hn
  refine wpList_plain hgd fun K hK' => ?_
  have hrun := run_convert_bytes_back (P := P) w src dst e ⟨g, 0, none⟩ c l hs he hd (fun j hj => by
    have h1 : (⟨g, 0, none⟩ : Addr).add j = ⟨g, j, none⟩ := by unfold Addr.add; split <;> simp_all
    rw [h1]
    exact h.cell j hj)
  unfold Oper.wp
  simp [execOp, ho, hx, hrun, Result.andThen]
  exact hK' _ _ hK
/-- []byte(s), at the operation -/
theorem wp_bytes_b {ops : Array Oper} {rest : List Oper} {o : Oper} {a : Act} {Q : Exit → Act → World → Prop} (hgd : o.guard = none) (x : Operand) (src dst : TypeId)
    (ho : o.op = .convert src dst x) {u : TypeDesc} (hs : P.underlying src = some u) (hd : P.underlying dst = some (.slice e)) (he : P.underlying e = some (.int .u8))
    (s : ByteArray) (hx : a.eval x = .string s) (hl : s.size ≤ maxLen)
    (hK : ∀ c2 w2, OwnB w2 w.heap.size e w.heap.size c2 s.data.toList → Below w.heap.size w w2 → wpList P ops Q rest (a.put o.dst (.slice (some ⟨w.heap.size, 0, none⟩) s.size c2)) w2) : wpList P ops Q (o :: rest) a w := by
  refine wpList_plain hgd fun K hK' => ?_
  have hrun := Lib.run_convert_string_bytes (P := P) w src dst e s hs hd he
  unfold Oper.wp
  simp [execOp, ho, hx, hrun, Result.andThen]
  exact hK' _ _ (hK _ _ (OwnB.conv w e s hl) (below_conv w e s))
end
end Go.Proofs.YtjmkodkechahdaaGreatDoor
