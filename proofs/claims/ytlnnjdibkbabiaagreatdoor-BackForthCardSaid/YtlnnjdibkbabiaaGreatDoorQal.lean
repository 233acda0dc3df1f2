/- Contracts and plain laws, joined: Cat. -/
import Derived.Test.YtlnnjdibkbabiaaGreatDoorQae
import Derived.Test.YtlnnjdibkbabiaaGreatDoorQad
/- Two strings,one behind the other,and a cell that stays,in a region that draws its order with calls and allocs;over any program. -/
set_option linter.unusedSimpArgs false
set_option linter.unusedVariables false
namespace Go.Proofs.YtlnnjdibkbabiaaGreatDoor
open Go.RowKit
theorem run_cat {P:Program} {ρ:Operand→Value} {o:Oper} {w:World} {t t':TypeId} {x y:Operand} {l m:List UInt8} (ho:o.op=.binOp .add t x y t') (ht:P.underlying t=some .string) (hx:ρ x=.string (bs l)) (hy:ρ y=.string (bs m)) (hb:l.length+m.length≤9223372036854775807) :
  (execOp ρ o).run P w=.ok (.value (.string (bs (l++m)))) w:=by
 have hrun:(binOp .add t (.string (bs l)) (.string (bs m))).run P w=.ok (.string (bs (l++m))) w:=by
  rw [← bs_app]
  have hc':(bs l).size+(bs m).size≤9223372036854775807:=by rw [bs_size,bs_size];omega
  simp [binOp,Op.stringOp]
  omega
 simp [execOp,ho,hx,hy,hrun,eqGuard,Result.andThen]
section
variable {P:Program} {ops:Array Oper} {G:Type} {S:World→Prop} {T:World→World→Prop} {Fs:Nat→Option ((G→Value) × (G→World→Prop))}
theorem DetE.cat {Z:Act→World→Prop} {o:Oper} {r:List Oper} {i:Nat} {Γ:List (Nat × (World→Prop))} {a:Act} {t t':TypeId} {x y:Operand} {l m:List UInt8} (hF:Fs i=none) (hw:Region.wanted o (yielded ops a.tmps)=true)
  (ho:o.op=.binOp .add t x y t') (ht:P.underlying t=some .string) (hx:a.eval x=.string (bs l)) (hy:a.eval y=.string (bs m)) (hb:l.length+m.length≤9223372036854775807)
  (h:DetE P ops S T Fs Z r (i+1) Γ (a.put o.dst (.string (bs (l++m))))):DetE P ops S T Fs Z (o::r) i Γ a :=
 DetE.read hF hw (fun _ _ _=>run_cat ho ht hx hy hb) h
end
structure CellAt (b k:Nat) (v:Value) (w:World):Prop where
 lt:b<w.heap.size
 c:w.cell? ⟨b,k,none⟩=some v
theorem CellAt.now {b k:Nat} {v:Value} {w w':World} (h:CellAt b k v w) (hb:Below w.heap.size w w'):CellAt b k v w':=⟨Nat.lt_of_lt_of_le h.lt hb.size,(hb.cell (p:=⟨b,k,none⟩) h.lt).trans h.c⟩
end Go.Proofs.YtlnnjdibkbabiaaGreatDoor
