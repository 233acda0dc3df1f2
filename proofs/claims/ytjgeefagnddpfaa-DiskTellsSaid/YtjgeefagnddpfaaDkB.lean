/- Contract of disk.put. -/
import Derived.Test.YtjgeefagnddpfaaRows
import Derived.Test.YtjgeefagnddpfaaDkA
import Derived.Lib.BufferWrite
import Derived.Laws.IdiomStrings
namespace Go.Proofs.Ytjgeefagnddpfaa
open Go.RowKit

theorem dlen (s : ByteArray) : s.data.toList.length = s.size := by
  rw [Array.length_toList]
  rfl
theorem str_eq0 {t : ByteArray} (h : t.size = 0) : t = e0 := by
  obtain ⟨⟨l⟩⟩ := t
  have : l = [] := List.eq_nil_of_length_eq_zero h
  subst this
  rfl
theorem str_ne0 {t : ByteArray} (h : t.size ≠ 0) : t.toList.isEmpty = false := by
  rw [ByteArray.toList_eq]
  rcases hl : t.data.toList with _ | ⟨x, r⟩
  · exact absurd (by rw [← dlen, hl]; rfl) h
  · rfl
theorem e0_empty : e0.toList.isEmpty = true := by
  rw [ByteArray.toList_eq]
  rfl
/-- copy(dst, s), s a string, at the operation. -/
theorem wpList_copy_str {P : Program} {w : World} {ops : Array Oper} {rest : List Oper} {o : Oper} {a : Act} {Q : Exit → Act → World → Prop} (hgd : o.guard = none) (d s : Operand) (dT sT : TypeId)
    (ho : o.op = .call { callee := .builtin .copy, args := #[d, s], argTypes := #[dT, sT] }) (elem : TypeId) (hu : P.underlying dT = some (.slice elem)) (hsz : (P.info? elem).map (·.size) = some 1)
    (g off dLen dCap : Nat) (hd : a.eval d = .slice (some ⟨g, off, none⟩) dLen dCap) (x : ByteArray) (hs : a.eval s = .string x)
    (cur : Array Value) (t : TypeId) (hg : w.heap[g]? = some (.cells cur t (0, 0))) (hle : x.size ≤ dLen) (hfit : off + x.size ≤ cur.size)
    (new : List Value) (hnew : cur.toList.take off ++ Lib.byteCells x.data.toList ++ cur.toList.drop (off + x.size) = new)
    (h : ∀ w2, w2.heap[g]? = some (.cells new.toArray t (0, 0)) → w.grownBy w2 (some g) → wpList P ops Q rest (a.put o.dst (goInt x.size)) w2) : wpList P ops Q (o :: rest) a w := by
  subst hnew
  refine wpList_plain hgd fun K hK => ?_
  have hrun := Lib.run_copy_row_string (P := P) w dT sT o.type elem g off dLen dCap x cur t hu hsz hg hle hfit
  unfold Oper.wp
  simp [execOp, ho, resolve, invoke, builtin, hd, hs, hrun, Result.andThen]
  refine hK _ _ ?_
  have h2 := h (w.setRow g (cur.toList.take off ++ Lib.byteCells x.data.toList ++ cur.toList.drop (off + x.size)).toArray) (setRow_heap w g cur _ t _ hg) ⟨rfl, rfl, rfl, by simp, fun k _ hk => setRow_other w g k _ (fun e => hk (by rw [e]))⟩
  simpa using h2
/-- string(b), b a whole row of bytes. -/
theorem wpList_conv_str {P : Program} {w : World} {ops : Array Oper} {rest : List Oper} {o : Oper} {a : Act} {Q : Exit → Act → World → Prop} (hgd : o.guard = none) (x : Operand) (src dst e : TypeId)
    (ho : o.op = .convert src dst x) (hs : P.underlying src = some (.slice e)) (he : P.underlying e = some (.int .u8)) (hd : P.underlying dst = some .string)
    (g n c : Nat) (hx : a.eval x = .slice (some ⟨g, 0, none⟩) n c) (l : List UInt8) (hn : n = l.length) (t : TypeId) (fr : Nat × Nat) (more : List Value) (hg : w.heap[g]? = some (.cells (Lib.byteCells l ++ more).toArray t fr))
    (h : wpList P ops Q rest (a.put o.dst (.string ⟨l.toArray⟩)) w) : wpList P ops Q (o :: rest) a w := by
  subst hn
  refine wpList_plain hgd fun K hK => ?_
  have hrun := run_convert_bytes_back (P := P) w src dst e ⟨g, 0, none⟩ c l hs he hd (fun j hj => by
    have h1 : (⟨g, 0, none⟩ : Addr).add j = ⟨g, j, none⟩ := by unfold Addr.add; split <;> simp_all
    rw [h1]
    unfold World.cell?
    simp only [hg]
    rw [List.getElem?_toArray, List.getElem?_append_left (by simpa [Lib.byteCells] using hj)]
    simp [Lib.byteCells, hj])
  unfold Oper.wp
  simp [execOp, ho, hx, hrun, Result.andThen]
  exact hK _ _ h
def zcells (n : Nat) : List Value := List.replicate n (.int .u8 0)
theorem byteCells_pad (s : ByteArray) (n : Nat) : Lib.byteCells (padL s.data.toList n) = Lib.byteCells s.data.toList ++ zcells (n - s.size) := by
  simp [Lib.byteCells, padL, zcells, -Array.length_toList, dlen]
theorem infoU8 : ∃ i, Try.prog.info? 5 = some i ∧ i.zero = some (.int .u8 0) ∧ i.size = 1 ∧ i.bytes = 1 := by
  refine info_parts ?_
  kernel_rfl
theorem sizeU8 : (Try.prog.info? 5).map (·.size) = some 1 := by kernel_rfl
theorem madeU8 (n : Nat) : (madeCells (Value.int .u8 0).cells (n * 1)).toList = zcells n := by
  rw [Nat.mul_one]
  exact toList_madeCells_one _ n
/-- The row behind the first copy. -/
theorem row1 (s : ByteArray) (n : Nat) : (((zcells (max s.size n)).toArray.toList.take 0 ++ Lib.byteCells s.data.toList ++ (zcells (max s.size n)).toArray.toList.drop (0 + s.size))) = Lib.byteCells (padL s.data.toList n) := by
  rw [byteCells_pad]
  simp [zcells]
  omega
theorem row2 (s t : ByteArray) (a : Nat) : ((Lib.byteCells (padL s.data.toList (a + t.size))).toArray.toList.take a ++ Lib.byteCells t.data.toList ++ (Lib.byteCells (padL s.data.toList (a + t.size))).toArray.toList.drop (a + t.size)) = Lib.byteCells (putL s.data.toList a t.data.toList) := by
  simp [Lib.byteCells, putL, -Array.length_toList, dlen]

theorem made_row {w1 : World} {base g n : Nat} {e : TypeId} (h : w1.ownsRow base e 1 (.slice (some ⟨g, 0, none⟩) n n) n (madeCells (Value.int .u8 0).cells (n * 1)).toList) : w1.heap[g]? = some (.cells (zcells n).toArray e (0, 0)) := by
  rcases h.2 with ⟨hv, _⟩ | ⟨g', cap, cur, hv, _, hg, _, _, hs, ht⟩
  · cases hv
  · injection hv with e1 e2 e3
    injection e1 with e1
    injection e1 with e1
    subst e1 e3
    rw [madeU8, List.take_of_length_le (by rw [Array.length_toList]; omega)] at ht
    rw [hg, ← ht]

set_option maxHeartbeats 1000000 in
theorem dput_any (s t : ByteArray) (a : Int) (w : World) (ha : 0 ≤ a) (hs : s.size ≤ 1073741824) (ht : a + t.size ≤ 1073741824) :
    Calls Try.prog 47 #[.string s, .int .i64 a, .string t] w fun e w' => e = .returned (.string (putB s a.toNat t)) ∧ Below w.heap.size w w' := by
  obtain ⟨i, hi1, hi2, hi3, hi4⟩ := infoU8
  by_cases h0 : t.size = 0
  · obtain rfl := str_eq0 h0
    have hem := e0_empty
    go_enter Try.func47, Try.ntmps47
    go_wp2
    go_ret
    exact ⟨rfl, Below.refl _ _⟩
  · have hne := str_ne0 h0
    have hd0 : t.toList.length = t.size := by rw [ByteArray.toList_eq, dlen]
    go_enter Try.func47, Try.ntmps47
    go_wp2_with (first
      | (at_make; refine wpList_make_full _ rfl _ _ _ rfl w.heap.size 5 i _ 1 Try.underlying85 hi1 hi2 hi3 .i64 .i64 _ _ (max s.size (a.toNat + t.size)) rfl rfl (by omega) (by omega) (by rw [hi4]; omega) (by simp [maxLen]; omega) (Nat.le_refl _) ?_; intro w1 hown hg1; have HR1 := Lib.hid (made_row hown); clear hown)
      | ((with_reducible show wpList _ _ _ (Oper.mk (some 21) _ _ _ _ _ :: _) _ _); refine wpList_copy_str rfl _ _ _ _ rfl 5 Try.underlying85 sizeU8 w.heap.size 0 _ _ rfl s rfl _ _ HR1.out (by omega) (by simp [zcells]; omega) _ (row1 s (a.toNat + t.size)) ?_; intro w2 hr2 hg2; have HR2 := Lib.hid hr2; clear hr2)
      | ((with_reducible show wpList _ _ _ (Oper.mk (some 26) _ _ _ _ _ :: _) _ _); refine wpList_copy_str rfl _ _ _ _ rfl 5 Try.underlying85 sizeU8 w.heap.size a.toNat _ _ rfl t rfl _ _ HR2.out (by omega) (by simp [Lib.byteCells, padL_len, -Array.length_toList, dlen]; omega) _ (row2 s t a.toNat) ?_; intro w3 hr3 hg3; have HR3 := Lib.hid hr3; clear hr3)
      | ((with_reducible show wpList _ _ _ (Oper.mk (some 28) _ _ _ _ _ :: _) _ _); refine wpList_conv_str rfl _ _ _ 5 rfl Try.underlying85 Try.underlying5 Try.underlying9 w.heap.size _ _ rfl (putL s.data.toList a.toNat t.data.toList) (by rw [putL_len, dlen, dlen]) _ _ [] (by simpa using HR3.out) ?_))
    all_goals go_ret
    all_goals exact ⟨by rw [putB, if_neg h0]; rfl, (((Below.refl _ _).grown hg1 (Nat.le_refl _) (fun k hk => by cases hk)).grown hg2 hg1.size (fun k hk => by cases hk; exact Nat.le_refl _)).grown hg3 (Nat.le_trans hg1.size hg2.size) (fun k hk => by cases hk; exact Nat.le_refl _)⟩
end Go.Proofs.Ytjgeefagnddpfaa
