/- Contracts and plain laws, joined: WrB, WrC. -/
import Derived.Test.YtlnnjdibkbabiaaGreatDoorQad
import Derived.Test.YtlnnjdibkbabiaaGreatDoorQag
import Derived.Test.YtlnnjdibkbabiaaGreatDoorShelf
import Derived.Test.YtlnnjdibkbabiaaGreatDoorChecked
import Derived.Lib.AppendIntMem
import Derived.Lib.ItoaLen
/- Contracts of package wire: the writers. -/
set_option linter.unusedSimpArgs false
set_option linter.unusedVariables false
namespace Go.Proofs.YtlnnjdibkbabiaaGreatDoor
open Go.RowKit
def Facts (w:World):Prop :=
 Lib.TabIs Tryz.prog w "internal/strconv.uint64pow10" .u64 Lib.pow10Tab ∧
 ((Tryz.prog.globalNamed "strconv.ErrSyntax").isSome = true → ∃ tp p, w.var? Tryz.prog "strconv.ErrSyntax" = some #[.iface tp p]) ∧ ((Tryz.prog.globalNamed "strconv.ErrRange").isSome = true → ∃ tp p, w.var? Tryz.prog "strconv.ErrRange" = some #[.iface tp p])
def Vs (B:Nat) (w:World):Prop:=B≤w.heap.size∧∀ w',Below B w w'→Facts w'
theorem Vs.here {B:Nat} {w:World} (h:Vs B w):Facts w:=h.2 w (Below.refl _ _)
theorem Vs.on {B:Nat} {w w':World} (h:Vs B w) (hb:Below B w w'):Vs B w':=⟨Nat.le_trans h.1 hb.size,fun x hx=>h.2 x (hb.trans hx)⟩
theorem Vs.now {B:Nat} {w w':World} (h:Vs B w) (hb:Below w.heap.size w w'):Vs B w':=h.on (hb.mono h.1)
def InInt (n:Int):Prop:=-9223372036854775808≤n∧n≤9223372036854775807
theorem itoa_any {B:Nat} (n:Int) (w:World) (hV:Vs B w) (hn:InInt n) :
  Calls Tryz.prog 139 #[.int .i64 n] w fun e w'=>e=.returned (.string (bs (Lib.itoa n)))∧Below w.heap.size w w' :=
 (Tryz.strconv_Itoa n hn.1 hn.2 w hV.here.1).mono fun e w' ⟨he,k,os,hw⟩=>⟨he,hw ▸ Lib.below_grow _ w (Nat.le_refl _) k os⟩
def encI (n:Int):List UInt8:=Lib.itoa n++[59]
theorem encI_len (n:Int) (hn:InInt n):(encI n).length≤22:=by
 have:=Lib.itoa_length_le n hn.1 hn.2
 simp [encI];omega
set_option maxRecDepth 100000 in
theorem copyCheck_any (B b:Nat) (cs:List Value) (w:World) (h:Lib.IsBuilderF 140 5 B b cs w) :
  Calls Tryz.prog 146 #[.pointer (some ⟨b,0,none⟩)] w fun e w'=>e=.returned (.tuple #[])∧(Lib.BuilderAtF 140 5 B b (.pointer (some ⟨b,0,none⟩)) cs w'∧Below B w w'):=by
 have X:Builder.Extra Tryz.prog Tryz.lays169_ren:=Tryz.Builder_Extra_169
 obtain ⟨j,hj,hjs⟩:=Option.map_eq_some_iff.1 X.sizeBuilder
 rcases h with h | h
 ·have c0:=h.cell0
  have f0:=h.frozen0
  have hsh:=h.shape
  go_enter Tryz.func146,Tryz.ntmps146
  go_wp2_with fail
  rw [Lib.run_to_unsafe w ⟨b,0,none⟩ Tryz.underlying138 Tryz.underlying186 hj (by rw [hjs];decide) hsh (Nat.zero_lt_succ 1)]
  simp only [Result.andThen]
  rw [Oper.upon_value]
  go_wp2_with fail
  rw [run_callFunc_extern Tryz.func168 (by kernel_rfl) (by kernel_rfl) (by kernel_rfl) (e:=Extern.AbiNoEscape.same) (by kernel_rfl)]
  rw [Lib.run_noEscape]
  simp only [Result.andThen]
  rw [Oper.upon_value]
  go_wp2_with fail
  rw [Lib.run_from_unsafe w ⟨b,0,none⟩ Tryz.underlying186 Tryz.underlying138 hj hsh X.liesBuilder]
  simp only [Result.andThen]
  rw [Oper.upon_value]
  go_wp2_with fail
  go_end0
  exact ⟨rfl,h.used _,(Below.refl B w).setCell (p:=⟨b,0,none⟩) h.1 _⟩
 ·have c0:=h.cell0
  go_enter Tryz.func146,Tryz.ntmps146
  go_wp2_with fail
  rw [Lib.run_neq_ptr_same w _ Tryz.underlying138 hj]
  go_wp2_with fail
  go_end0
  exact ⟨rfl,h,Below.refl B _⟩
set_option maxHeartbeats 2000000 in
set_option maxRecDepth 100000 in
theorem writeString_any (B b:Nat) (cs:List Value) (s:ByteArray) (w:World) (h:Lib.IsBuilderF 140 5 B b cs w) (hlen:cs.length+s.size≤140737488355328) (hBw:B≤w.heap.size) :
  Calls Tryz.prog 89 #[.pointer (some ⟨b,0,none⟩),.string s] w fun e w'=>e=.returned (.tuple #[.int .i64 s.size,.nilIface])∧(Lib.IsBuilderF 140 5 B b (cs++Lib.strCells s) w'∧Below B w w'):=by
 have X:Builder.Extra Tryz.prog Tryz.lays169_ren:=Tryz.Builder_Extra_169
 obtain ⟨i0,hi,hz0,hz1,hz2⟩:=info_parts X.infoByte
 go_enter Tryz.func89,Tryz.ntmps89
 go_wp2_with fail
 refine (copyCheck_any B b cs _ h).mono ?_
 rintro e w1 ⟨rfl,h1,hb1⟩
 obtain ⟨hB,v,hbk,hown,hne⟩:=h1
 have c0:w1.cell? ⟨b,0,none⟩=some (.pointer (some ⟨b,0,none⟩)):=by rw [Lib.cell_of_heap hbk];rfl
 have c1:w1.cell? ⟨b,1,none⟩=some v:=by rw [Lib.cell_of_heap hbk];rfl
 go_wp2_with (at_builtin;refine Lib.wpList_append_own_stringF _ rfl _ _ 117 9 rfl B 5 i0 Tryz.underlying117 Tryz.underlying9 hi hz0 hz1 hz2 _ _ _ rfl hown s rfl ?c3 ?c4 ?c5 ?_)
 case c3=>unfold maxLen;omega
 case c4=>omega
 case c5=>have:=hb1.size;omega
 intro v' w2 hown' hgrow _
 have hlt:b<w1.heap.size:=box_lt hbk
 have hb2:w2.heap[b]?=some (.cells #[.pointer (some ⟨b,0,none⟩),v] 140 (0,0)):=by
  rw [hgrow.block b hlt (fun e=>hne e.symm)]
  exact hbk
 have d0:w2.cell? ⟨b,0,none⟩=some (.pointer (some ⟨b,0,none⟩)):=by rw [Lib.cell_of_heap hb2];rfl
 have d1:w2.cell? ⟨b,1,none⟩=some v:=by rw [Lib.cell_of_heap hb2];rfl
 have f1:w2.frozen? ⟨b,1,none⟩=false:=Lib.frozen_of_heap hb2 1
 obtain ⟨ao,n',cap,rfl⟩:∃ ao n' cap,v'=.slice ao n' cap:=by
  rcases hown'.2 with ⟨hv,_⟩ | ⟨g,cap,cur,fz,hv,_⟩
  ·exact ⟨_,_,_,hv⟩
  ·exact ⟨_,_,_,hv⟩
 go_wp2_with fail
 go_ret2
 refine ⟨rfl,.inr ?_,?_⟩
 ·exact Lib.BuilderAtF.put (T:=140) (e:=5) hB hb2 (bs':=cs++Lib.strCells s) (by simpa [Lib.strCells_length] using hown') X.neB5
 ·exact (hb1.grown hgrow (by have:=hb1.size;omega) (fun k hk=>(hown.lt k hk).1)).setCell (p:=⟨b,1,none⟩) hB _
/- Contracts of package wire: lists. -/
def intE (n:Int):List Value:=[.int .i64 n]
def strE (l:List UInt8):List Value:=[.string (bs l)]
def Bld (B b:Nat) (l:List UInt8) (w:World):Prop:=Lib.IsBuilderF 140 5 B b (Lib.byteCells l) w
theorem strCells_bs (l:List UInt8):Lib.strCells (bs l)=Lib.byteCells l:=by simp [Lib.strCells,Lib.byteCells,bs]
theorem Bld.now {B b:Nat} {l:List UInt8} {w w':World} (h:Bld B b l w) (hb:Below w.heap.size w w'):Bld B b l w':=by
 have one:∀ p,Lib.BuilderAtF 140 5 B b p (Lib.byteCells l) w→Lib.BuilderAtF 140 5 B b p (Lib.byteCells l) w':=by
  rintro p ⟨hB,v,hv,hown,hne⟩
  refine ⟨hB,v,(hb.block _ (box_lt hv)).trans hv,hown.kept (grown_of_below hb none) ?_,hne⟩
  cases h:v.ownBlock with
  | none=>exact .inl rfl
  | some k=>exact .inr (by simp)
 rcases h with h | h
 ·exact .inl (one _ h)
 ·exact .inr (one _ h)
theorem bld_write {B b:Nat} {l m:List UInt8} {w:World} (h:Bld B b l w) (hlen:l.length+m.length≤140737488355328) (hBw:B≤w.heap.size) :
  Calls Tryz.prog 89 #[.pointer (some ⟨b,0,none⟩),.string (bs m)] w fun e w'=>e=.returned (.tuple #[.int .i64 m.length,.nilIface])∧Bld B b (l++m) w'∧Below B w w':=by
 refine (writeString_any B b _ (bs m) w h (by rw [Lib.byteCells_length,bs_size];omega) hBw).mono ?_
 rintro e w' ⟨rfl,h1,h2⟩
 refine ⟨by rw [bs_size],?_,h2⟩
 unfold Bld
 rw [Lib.byteCells_append,← strCells_bs m]
 exact h1
theorem bld_string {B b:Nat} {l:List UInt8} {w:World} (h:Bld B b l w) (hBw:B≤w.heap.size) :
  Calls Tryz.prog 90 #[.pointer (some ⟨b,0,none⟩)] w fun e w'=>e=.returned (.string (bs l))∧Bld B b l w'∧Below B w w':=by
 refine (Tryz.Builder_String_any_k B b l w h hBw).mono ?_
 rintro e w' ⟨rfl,h1,h2,_⟩
 exact ⟨rfl,h1,h2⟩
theorem bld_new (w:World):Bld w.heap.size w.heap.size [] (w.alloc (.cells #[.pointer none,.slice none 0 0] 140)) :=
 .of (Lib.fresh_isBuilder 140 5 w)
theorem flat_succ {T:Type} (one:T→List UInt8) (xs:List T) (k:Nat) (hk:k<xs.length):(xs.take (k+1)).flatMap one=(xs.take k).flatMap one++one xs[k]:=by
 rw [List.take_succ_eq_append_getElem hk,List.flatMap_append];simp
theorem flat_le {T:Type} (one:T→List UInt8) (xs:List T) (k:Nat):((xs.take k).flatMap one).length≤(xs.flatMap one).length:=by
 conv=>rhs;rw [← List.take_append_drop k xs,List.flatMap_append,List.length_append]
 omega
end Go.Proofs.YtlnnjdibkbabiaaGreatDoor
