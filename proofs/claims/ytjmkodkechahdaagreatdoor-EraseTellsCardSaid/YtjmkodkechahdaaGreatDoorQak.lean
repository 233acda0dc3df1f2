/- Contracts and plain laws, joined: Cpy. -/
import Derived.Test.YtjmkodkechahdaaGreatDoorQaf
import Derived.Test.YtjmkodkechahdaaGreatDoorQac
import Derived.Laws.MakeOwn
import Derived.Laws.CopyOwn
/- make([]string, n) and a copy of a whole slice into a row of the call's own; over any program. -/
set_option linter.unusedSimpArgs false
set_option linter.unusedVariables false
namespace Go.Proofs.YtjmkodkechahdaaGreatDoor
open Go.RowKit

section
variable {P : Program} {w : World} {T : Type} {sz : Nat} {enc : T → List Value} {e t : TypeId}
/-- A slice that is a whole row. -/
theorem OwnL.of_block {base g : Nat} {xs : List T} (L : Lay sz enc) (hg : w.heap[g]? = some (.cells (xs.flatMap enc).toArray e (0, 0))) (hb : base ≤ g) (hm : xs.length ≤ maxLen) : OwnL w base e sz enc (some ⟨g, 0, none⟩) xs.length xs :=
  ⟨flat_len L xs, .inr ⟨g, xs.length, _, rfl, hb, hg, Nat.le_refl _, hm, by simp [flat_len L], List.take_of_length_le (by simp [flat_len L])⟩⟩
/-- make([]T, n), T of one cell. -/
theorem wp_make_1 {ops : Array Oper} {rest : List Oper} {o : Oper} {a : Act} {Q : Exit → Act → World → Prop} (hgd : o.guard = none) (x y : Operand)
    (ho : o.op = .makeSlice t x y) {inf : TypeInfo} {z : Value} (ht : P.underlying t = some (.slice e)) (hi : P.info? e = some inf) (hz : inf.zero = some z) (hsz : inf.size = 1) (hby : inf.bytes ≤ 16) (hc : z.cells = #[z])
    {n : Nat} (hx : a.eval x = .int .i64 n) (hy : a.eval y = .int .i64 n) (hn : n ≤ 1000000000000)
    (hK : wpList P ops Q rest (a.put o.dst (.slice (some ⟨w.heap.size, 0, none⟩) n n)) (w.alloc (.cells (Array.replicate n z) e))) : wpList P ops Q (o :: rest) a w := by
  refine wpList_plain hgd fun K hK' => ?_
  have hb : (inf.bytes : Int) * n ≤ 16 * 1000000000000 := Int.mul_le_mul (by omega) (by omega) (by omega) (by omega)
  have hrun := run_make (P := P) w t e inf z ht hi hz .i64 .i64 n n (by omega) (Int.le_refl _) (by omega) (by omega)
  have hm : madeCells z.cells (n * 1) = Array.replicate n z := by
    unfold madeCells
    apply Array.ext
    · simp
    · intro i h1 h2
      simp [hc, Nat.mod_one]
  rw [hsz, Int.toNat_natCast, hm] at hrun
  unfold Oper.wp
  simp [execOp, ho, hx, hy, hrun, Result.andThen]
  try simp at hK
  exact hK' _ _ hK
/-- copy(dst, src): the whole of src over a row of as many cells. -/
theorem wp_copy_whole {ops : Array Oper} {rest : List Oper} {o : Oper} {a : Act} {Q : Exit → Act → World → Prop} (hgd : o.guard = none) (d s : Operand) (dT sT : TypeId)
    (ho : o.op = .call { callee := .builtin .copy, args := #[d, s], argTypes := #[dT, sT] }) (elem : TypeId) (hu : P.underlying dT = some (.slice elem)) (hsz : (P.info? elem).map (·.size) = some 1)
    (L : Lay 1 enc) (h1 : ∀ x : T, ∀ v ∈ enc x, v.oneCell' = true) {xs : List T} {A : Option Addr} {c g n : Nat} (hd : a.eval d = .slice (some ⟨g, 0, none⟩) n n) (hn : n = xs.length) (hs : a.eval s = .slice A xs.length c)
    {cur : Array Value} (hg : w.heap[g]? = some (.cells cur e (0, 0))) (hc : cur.size = xs.length) {B : Nat} (hr : RdL 1 enc w B A xs) {w0 : World} {b : Nat} (hb : Below b w0 w) (hbg : b ≤ g)
    (h : ∀ w', w'.heap[g]? = some (.cells (xs.flatMap enc).toArray e (0, 0)) → Below b w0 w' → wpList P ops Q rest (a.put o.dst (goInt (xs.flatMap enc).length)) w') : wpList P ops Q (o :: rest) a w := by
  subst hn
  have hf := flat_len L xs
  have h9 : cur.toList.length = xs.length := by simpa using hc
  refine wpList_copy_splice hgd d s dT sT ho elem hu hsz _ A xs.length xs.length xs.length c hd hs g 0 cur.toList e hg (xs.flatMap enc) (by rw [hf]; simp) (fun hp => ⟨rfl, ?_⟩) (by omega) (fun v hv => ?_) b w0 hb hbg (fun w' hw hb' => ?_)
  · have h0 : 0 < xs.length := by omega
    obtain ⟨b, off, rfl, _, _⟩ := hr.at_ h0
    refine ⟨_, rfl, fun j v hj => ?_⟩
    obtain ⟨k, j', x, hm, hx, hv⟩ := flat_at L xs j v hj
    obtain ⟨b2, off2, e2, _, hcell⟩ := hr.at_ (List.getElem?_eq_some_iff.1 hx).1
    cases e2
    have hx2 := (List.getElem?_eq_some_iff.1 hx).2
    rw [hx2] at hcell
    have := hcell j' v hv
    rw [hm]
    simp only [Addr.add, Nat.mul_one] at this ⊢
    simp only [Nat.add_assoc] at this
    simp
    split
    · rename_i h
      simpa [h.1, h.2] using this
    · exact this
  · obtain ⟨x, _, hx⟩ := List.mem_flatMap.1 hv
    exact h1 x v hx
  · refine h w' ?_ hb'
    have := hw.out
    have e2 : splice cur.toList 0 (xs.flatMap enc) = xs.flatMap enc := by
      unfold splice
      rw [List.take_zero, List.nil_append, Nat.zero_add, List.drop_of_length_le (by omega), List.append_nil]
    rwa [e2] at this
end
end Go.Proofs.YtjmkodkechahdaaGreatDoor
