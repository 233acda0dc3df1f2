/- Contracts and plain laws, joined: Opt. -/
import Derived.Test.YtnaejabgkfhlbaaDoorQab
import Derived.BigFrame
import Derived.Lib.Hide
/- A long '&&' of reads: each guarded operation in one way (its slot holds 'if the guard then the value else nothing'), and the pick closes with a name for the truth so far; over any program. -/
set_option linter.unusedSimpArgs false
set_option linter.unusedVariables false
namespace Go.Proofs.YtnaejabgkfhlbaaDoor
open Go.RowKit

section
variable {P : Program} {ops : Array Oper} {Q : Exit → Act → World → Prop} {a : Act} {w : World} {rest : List Oper} {o : Oper}
theorem wpList_opt {k : Nat} {v : Value} (q : Bool) (hg : o.guard = some (k, true)) (hy : yielded ops a.tmps k = some q) (hrun : q = true → (execOp a.eval o).run P w = .ok (.value v) w)
    (h : wpList P ops Q rest (a.put o.dst (if q then v else undef)) w) : wpList P ops Q (o :: rest) a w := by
  have hw : Region.wanted o (yielded ops a.tmps) = q := by
    unfold Region.wanted
    rw [hg]
    simp only [hy]
    cases q <;> rfl
  cases q with
  | true =>
    refine BigFrame.wpList_want hw fun K hK => ?_
    unfold Oper.wp
    rw [hrun rfl]
    exact hK _ _ h
  | false => exact wpList_skip hw h
theorem wpList_val {v : Value} (hg : o.guard = none) (hrun : (execOp a.eval o).run P w = .ok (.value v) w) (h : wpList P ops Q rest (a.put o.dst v) w) : wpList P ops Q (o :: rest) a w := by
  refine wpList_plain hg fun K hK => ?_
  unfold Oper.wp
  rw [hrun]
  exact hK _ _ h
theorem wpList_pick {c x : Operand} (q r : Bool) (hg : o.guard = none) (ho : o.op = .pick c x (.const (.bool false))) (hc : a.eval c = .bool q) (hx : a.eval x = (if q then .bool r else undef))
    (h : ∀ q' : Bool, Hid (q' = (q && r)) → wpList P ops Q rest (a.put o.dst (.bool q')) w) : wpList P ops Q (o :: rest) a w := by
  refine wpList_plain hg fun K hK => ?_
  unfold Oper.wp
  have hrun : (execOp a.eval o).run P w = .ok (.value (.bool (q && r))) w := by
    unfold execOp
    simp only [ho, hc, hx]
    cases q <;> rfl
  rw [hrun]
  exact hK _ _ (h _ (Lib.hid rfl))
end
-- by hand: oV (an unguarded one: a move), oO (a guarded one), oL FACT (a guarded read), oP (a pick)
end Go.Proofs.YtnaejabgkfhlbaaDoor
