/- Two strings, one behind the other, in a drawn region whose every operation comes to one value; over any program. -/
import Derived.Test.YtpcfmmiiokbjbaaDoorDet
import Derived.Test.YtpcfmmiiokbjbaaDoorStr
namespace Go.Proofs.YtpcfmmiiokbjbaaDoor
open Go.RowKit

section
variable {P : Program} {ops : Array Oper} {S : World → Prop}
theorem Det.cat {Z : Act → World → Prop} {o : Oper} {r : List Oper} {a : Act} {t t' : TypeId} {x y : Operand} {l m : List UInt8} (hw : Region.wanted o (yielded ops a.tmps) = true)
    (ho : o.op = .binOp .add t x y t') (ht : P.underlying t = some .string) (hx : a.eval x = .string (bs l)) (hy : a.eval y = .string (bs m)) (hb : l.length + m.length ≤ 9223372036854775807)
    (h : Det P ops S Z r (a.put o.dst (.string (bs (l ++ m))))) : Det P ops S Z (o :: r) a := by
  refine Det.step (.string (bs (l ++ m))) hw (fun w hS K hK => ?_) h
  have hrun : (binOp .add t (.string (bs l)) (.string (bs m))).run P w = .ok (.string (bs (l ++ m))) w := by
    rw [← bs_app]
    have hc' : (bs l).size + (bs m).size ≤ 9223372036854775807 := by rw [bs_size, bs_size]; omega
    simp [binOp, Op.stringOp]
    omega
  unfold Oper.wp
  simp [execOp, ho, hx, hy, hrun, eqGuard, Result.andThen]
  exact hK.out _ _ hS rfl
end
end Go.Proofs.YtpcfmmiiokbjbaaDoor
