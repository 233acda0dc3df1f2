/- Contracts and plain laws, joined: WrB, WrC. -/
import Derived.Test.YtlnnjdibkbabiaaGreatDoorQad
import Derived.Test.YtlnnjdibkbabiaaGreatDoorQag
import Derived.Test.YtlnnjdibkbabiaaGreatDoorShelf
import Derived.Test.YtlnnjdibkbabiaaGreatDoorChecked
import Derived.Lib.AppendIntMem
import Derived.Lib.ItoaLen
/- Contracts of package wire: the writers. -/
set_option linter.unusedSimpArgs false
set_option linter.unusedVariables false
namespace Go.Proofs.YtlnnjdibkbabiaaGreatDoor
open Go.RowKit
def Facts (w:World):Prop :=
 Lib.TabIs Tryz.prog w "internal/strconv.uint64pow10" .u64 Lib.pow10Tab ∧
 ((Tryz.prog.globalNamed "strconv.ErrSyntax").isSome = true → ∃ tp p, w.var? Tryz.prog "strconv.ErrSyntax" = some #[.iface tp p]) ∧ ((Tryz.prog.globalNamed "strconv.ErrRange").isSome = true → ∃ tp p, w.var? Tryz.prog "strconv.ErrRange" = some #[.iface tp p])
def Vs (B:Nat) (w:World):Prop:=B≤w.heap.size∧∀ w',Below B w w'→Facts w'
theorem Vs.here {B:Nat} {w:World} (h:Vs B w):Facts w:=h.2 w (Below.refl _ _)
theorem Vs.on {B:Nat} {w w':World} (h:Vs B w) (hb:Below B w w'):Vs B w':=⟨Nat.le_trans h.1 hb.size,fun x hx=>h.2 x (hb.trans hx)⟩
theorem Vs.now {B:Nat} {w w':World} (h:Vs B w) (hb:Below w.heap.size w w'):Vs B w':=h.on (hb.mono h.1)
def InInt (n:Int):Prop:=-9223372036854775808≤n∧n≤9223372036854775807
theorem itoa_any {B:Nat} (n:Int) (w:World) (hV:Vs B w) (hn:InInt n) :
  Calls Tryz.prog 139 #[.int .i64 n] w fun e w'=>e=.returned (.string (bs (Lib.itoa n)))∧Below w.heap.size w w' :=
 (Tryz.strconv_Itoa n hn.1 hn.2 w hV.here.1).mono fun e w' ⟨he,k,os,hw⟩=>⟨he,hw ▸ Lib.below_grow _ w (Nat.le_refl _) k os⟩
def encI (n:Int):List UInt8:=Lib.itoa n++[59]
theorem encI_len (n:Int) (hn:InInt n):(encI n).length≤22:=by
 have:=Lib.itoa_length_le n hn.1 hn.2
 simp [encI];omega
/- Contracts of package wire: lists. -/
def strE (l:List UInt8):List Value:=[.string (bs l)]
def Bld (B b:Nat) (l:List UInt8) (w:World):Prop:=Lib.IsBuilderF 140 5 B b (Lib.byteCells l) w
theorem Bld.now {B b:Nat} {l:List UInt8} {w w':World} (h:Bld B b l w) (hb:Below w.heap.size w w'):Bld B b l w':=by
 have one:∀ p,Lib.BuilderAtF 140 5 B b p (Lib.byteCells l) w→Lib.BuilderAtF 140 5 B b p (Lib.byteCells l) w':=by
  rintro p ⟨hB,v,hv,hown,hne⟩
  refine ⟨hB,v,(hb.block _ (box_lt hv)).trans hv,hown.kept (grown_of_below hb none) ?_,hne⟩
  cases h:v.ownBlock with
  | none=>exact .inl rfl
  | some k=>exact .inr (by simp)
 rcases h with h | h
 ·exact .inl (one _ h)
 ·exact .inr (one _ h)
end Go.Proofs.YtlnnjdibkbabiaaGreatDoor
