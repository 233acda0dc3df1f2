/- Contracts and plain laws, joined: WrB, WrC, StU. -/
import Derived.Test.YthlpehhlhebhbaaGreatDoorQae
import Derived.Test.YthlpehhlhebhbaaGreatDoorQah
import Derived.Test.YthlpehhlhebhbaaGreatDoorShelf
import Derived.Test.YthlpehhlhebhbaaGreatDoorChecked
import Derived.Lib.AppendIntMem
import Derived.Lib.ItoaLen
/- Contracts of package wire: the writers. -/
set_option linter.unusedSimpArgs false
set_option linter.unusedVariables false
namespace Go.Proofs.YthlpehhlhebhbaaGreatDoor
set_option maxHeartbeats 2000000
open Lib (hid)
open Go.RowKit
def Facts (w:World):Prop :=
 Lib.TabIs Tryz.prog w "internal/strconv.uint64pow10" .u64 Lib.pow10Tab ∧
 ((Tryz.prog.globalNamed "strconv.ErrSyntax").isSome = true → ∃ tp p, w.var? Tryz.prog "strconv.ErrSyntax" = some #[.iface tp p]) ∧ ((Tryz.prog.globalNamed "strconv.ErrRange").isSome = true → ∃ tp p, w.var? Tryz.prog "strconv.ErrRange" = some #[.iface tp p])
def Vs (B:Nat) (w:World):Prop:=B≤w.heap.size∧∀ w',Below B w w'→Facts w'
theorem Vs.le {B:Nat} {w:World} (h:Vs B w):B≤w.heap.size:=h.1
theorem Vs.here {B:Nat} {w:World} (h:Vs B w):Facts w:=h.2 w (Below.refl _ _)
theorem Vs.on {B:Nat} {w w':World} (h:Vs B w) (hb:Below B w w'):Vs B w':=⟨Nat.le_trans h.1 hb.size,fun x hx=>h.2 x (hb.trans hx)⟩
theorem Vs.now {B:Nat} {w w':World} (h:Vs B w) (hb:Below w.heap.size w w'):Vs B w':=h.on (hb.mono h.1)
def InInt (n:Int):Prop:=-9223372036854775808≤n∧n≤9223372036854775807
theorem itoa_any {B:Nat} (n:Int) (w:World) (hV:Vs B w) (hn:InInt n) :
  Calls Tryz.prog 212 #[.int .i64 n] w fun e w'=>e=.returned (.string (bs (Lib.itoa n)))∧Below w.heap.size w w' :=
 (Tryz.strconv_Itoa n hn.1 hn.2 w hV.here.1).mono fun e w' ⟨he,k,os,hw⟩=>⟨he,hw ▸ Lib.below_grow _ w (Nat.le_refl _) k os⟩
def encI (n:Int):List UInt8:=Lib.itoa n++[59]
def encN (n:Int):List UInt8:=if n<0 then [] else encI n
def encT (l:List UInt8):List UInt8:=Lib.itoa l.length++[58]++l++[44]
def encL {α:Type} (one:α→List UInt8) (l:List α):List UInt8:=Lib.itoa l.length++[91]++l.flatMap one++[93]
theorem encI_len (n:Int) (hn:InInt n):(encI n).length≤22:=by
 have:=Lib.itoa_length_le n hn.1 hn.2
 simp [encI];omega
theorem encT_len (l:List UInt8) (hl:InInt l.length):(encT l).length≤23+l.length:=by
 have:=Lib.itoa_length_le l.length hl.1 hl.2
 simp [encT];omega
theorem wInt_any {B:Nat} (n:Int) (w:World) (hV:Vs B w) (hn:InInt n) :
  Calls Tryz.prog 114 #[.int .i64 n] w fun e w'=>e=.returned (.string (bs (encI n)))∧Below w.heap.size w w':=by
 have hlen:=Lib.itoa_length_le n hn.1 hn.2
 go_enter Tryz.func114,Tryz.ntmps114
 go_wp2_with fail
 refine (itoa_any n _ hV hn).mono ?_
 rintro e w1 ⟨rfl,hb1⟩
 go_wp2_with (first
   | ((with_reducible show wpList _ _ _ (Oper.mk _ (Op.binOp .add 9 _ _ _) _ _ _ _::_) _ _);refine wp_cat rfl rfl Tryz.underlying9 rfl rfl (by first | omega | (simp;done) | (simp;omega)) ?_)
   | fail)
 go_ret
 exact ⟨rfl,hb1⟩
theorem wNum_any {B:Nat} (n:Int) (w:World) (hV:Vs B w) (hn:InInt n) :
  Calls Tryz.prog 91 #[.int .i64 n] w fun e w'=>e=.returned (.string (bs (encN n)))∧Below w.heap.size w w':=by
 go_enter Tryz.func91,Tryz.ntmps91
 by_cases h:n<0
 ·go_wp2_with fail
  go_ret
  exact ⟨by show Ending.returned (.string ⟨#[]⟩)=_;rw [encN,if_pos (by omega)];rfl,Below.refl _ _⟩
 ·go_wp2_with fail
  refine (wInt_any n _ hV hn).mono ?_
  rintro e w1 ⟨rfl,hb1⟩
  go_wp2_with fail
  go_ret
  exact ⟨by show Ending.returned (.string (bs (encI n)))=_;rw [encN,if_neg (by omega)],hb1⟩
theorem wText_any {B:Nat} (l:List UInt8) (w:World) (hV:Vs B w) (hl:l.length≤1000000000000) :
  Calls Tryz.prog 94 #[.string (bs l)] w fun e w'=>e=.returned (.string (bs (encT l)))∧Below w.heap.size w w':=by
 have hl':InInt l.length:=⟨by omega,by omega⟩
 have hlen:=Lib.itoa_length_le l.length hl'.1 hl'.2
 go_enter Tryz.func94,Tryz.ntmps94
 go_wp2_with fail
 refine (itoa_any l.length _ hV hl').mono ?_
 rintro e w1 ⟨rfl,hb1⟩
 go_wp2_with (first
   | ((with_reducible show wpList _ _ _ (Oper.mk _ (Op.binOp .add 9 _ _ _) _ _ _ _::_) _ _);refine wp_cat rfl rfl Tryz.underlying9 rfl rfl (by first | omega | (simp;done) | (simp;omega)) ?_)
   | fail)
 go_ret
 exact ⟨ret_str (by simp [encT]),hb1⟩
set_option maxRecDepth 100000 in
theorem copyCheck_any (B b:Nat) (cs:List Value) (w:World) (h:Lib.IsBuilderF 236 5 B b cs w) :
  Calls Tryz.prog 260 #[.pointer (some ⟨b,0,none⟩)] w fun e w'=>e=.returned (.tuple #[])∧(Lib.BuilderAtF 236 5 B b (.pointer (some ⟨b,0,none⟩)) cs w'∧Below B w w'):=by
 have X:Builder.Extra Tryz.prog Tryz.lays169_ren:=Tryz.Builder_Extra_169
 obtain ⟨j,hj,hjs⟩:=Option.map_eq_some_iff.1 X.sizeBuilder
 rcases h with h | h
 ·have c0:=h.cell0
  have f0:=h.frozen0
  have hsh:=h.shape
  go_enter Tryz.func260,Tryz.ntmps260
  go_wp2_with fail
  rw [Lib.run_to_unsafe w ⟨b,0,none⟩ Tryz.underlying233 Tryz.underlying269 hj (by rw [hjs];decide) hsh (Nat.zero_lt_succ 1)]
  simp only [Result.andThen]
  rw [Oper.upon_value]
  go_wp2_with fail
  rw [run_callFunc_extern Tryz.func283 (by kernel_rfl) (by kernel_rfl) (by kernel_rfl) (e:=Extern.AbiNoEscape.same) (by kernel_rfl)]
  rw [Lib.run_noEscape]
  simp only [Result.andThen]
  rw [Oper.upon_value]
  go_wp2_with fail
  rw [Lib.run_from_unsafe w ⟨b,0,none⟩ Tryz.underlying269 Tryz.underlying233 hj hsh X.liesBuilder]
  simp only [Result.andThen]
  rw [Oper.upon_value]
  go_wp2_with fail
  go_end0
  exact ⟨rfl,h.used _,(Below.refl B w).setCell (p:=⟨b,0,none⟩) h.1 _⟩
 ·have c0:=h.cell0
  go_enter Tryz.func260,Tryz.ntmps260
  go_wp2_with fail
  rw [Lib.run_neq_ptr_same w _ Tryz.underlying233 hj]
  go_wp2_with fail
  go_end0
  exact ⟨rfl,h,Below.refl B _⟩
set_option maxRecDepth 100000 in
theorem writeString_any (B b:Nat) (cs:List Value) (s:ByteArray) (w:World) (h:Lib.IsBuilderF 236 5 B b cs w) (hlen:cs.length+s.size≤140737488355328) (hBw:B≤w.heap.size) :
  Calls Tryz.prog 209 #[.pointer (some ⟨b,0,none⟩),.string s] w fun e w'=>e=.returned (.tuple #[.int .i64 s.size,.nilIface])∧(Lib.IsBuilderF 236 5 B b (cs++Lib.strCells s) w'∧Below B w w'):=by
 have X:Builder.Extra Tryz.prog Tryz.lays169_ren:=Tryz.Builder_Extra_169
 obtain ⟨i0,hi,hz0,hz1,hz2⟩:=info_parts X.infoByte
 go_enter Tryz.func209,Tryz.ntmps209
 go_wp2_with fail
 refine (copyCheck_any B b cs _ h).mono ?_
 rintro e w1 ⟨rfl,h1,hb1⟩
 obtain ⟨hB,v,hbk,hown,hne⟩:=h1
 have c0:w1.cell? ⟨b,0,none⟩=some (.pointer (some ⟨b,0,none⟩)):=by rw [Lib.cell_of_heap hbk];rfl
 have c1:w1.cell? ⟨b,1,none⟩=some v:=by rw [Lib.cell_of_heap hbk];rfl
 go_wp2_with (at_builtin;refine Lib.wpList_append_own_stringF _ rfl _ _ 234 9 rfl B 5 i0 Tryz.underlying234 Tryz.underlying9 hi hz0 hz1 hz2 _ _ _ rfl hown s rfl ?c3 ?c4 ?c5 ?_)
 case c3=>unfold maxLen;omega
 case c4=>omega
 case c5=>have:=hb1.size;omega
 intro v' w2 hown' hgrow _
 have hlt:b<w1.heap.size:=box_lt hbk
 have hb2:w2.heap[b]?=some (.cells #[.pointer (some ⟨b,0,none⟩),v] 236 (0,0)):=by
  rw [hgrow.block b hlt (fun e=>hne e.symm)]
  exact hbk
 have d0:w2.cell? ⟨b,0,none⟩=some (.pointer (some ⟨b,0,none⟩)):=by rw [Lib.cell_of_heap hb2];rfl
 have d1:w2.cell? ⟨b,1,none⟩=some v:=by rw [Lib.cell_of_heap hb2];rfl
 have f1:w2.frozen? ⟨b,1,none⟩=false:=Lib.frozen_of_heap hb2 1
 obtain ⟨ao,n',cap,rfl⟩:∃ ao n' cap,v'=.slice ao n' cap:=by
  rcases hown'.2 with ⟨hv,_⟩ | ⟨g,cap,cur,fz,hv,_⟩
  ·exact ⟨_,_,_,hv⟩
  ·exact ⟨_,_,_,hv⟩
 go_wp2_with fail
 go_ret2
 refine ⟨rfl,.inr ?_,?_⟩
 ·exact Lib.BuilderAtF.put (T:=236) (e:=5) hB hb2 (bs':=cs++Lib.strCells s) (by simpa [Lib.strCells_length] using hown') X.neB5
 ·exact (hb1.grown hgrow (by have:=hb1.size;omega) (fun k hk=>(hown.lt k hk).1)).setCell (p:=⟨b,1,none⟩) hB _
/- Contracts of package wire: lists. -/
def intE (n:Int):List Value:=[.int .i64 n]
def strE (l:List UInt8):List Value:=[.string (bs l)]
theorem rd_int {w:World} {A:Option Addr} {xs:List Int} {k:Nat} (h:RdL 1 intE w w.heap.size A xs) (hk:k<xs.length):∃ b off,A=some ⟨b,off,none⟩∧w.cell? ⟨b,off+k,none⟩=some (.int .i64 xs[k]):=by
 obtain ⟨b,off,e,hb,hc⟩:=h.at_ hk
 exact ⟨b,off,e,by simpa using hc 0 _ rfl⟩
def Bld (B b:Nat) (l:List UInt8) (w:World):Prop:=Lib.IsBuilderF 236 5 B b (Lib.byteCells l) w
theorem strCells_bs (l:List UInt8):Lib.strCells (bs l)=Lib.byteCells l:=by simp [Lib.strCells,Lib.byteCells,bs]
theorem Bld.now {B b:Nat} {l:List UInt8} {w w':World} (h:Bld B b l w) (hb:Below w.heap.size w w'):Bld B b l w':=by
 have one:∀ p,Lib.BuilderAtF 236 5 B b p (Lib.byteCells l) w→Lib.BuilderAtF 236 5 B b p (Lib.byteCells l) w':=by
  rintro p ⟨hB,v,hv,hown,hne⟩
  refine ⟨hB,v,(hb.block _ (box_lt hv)).trans hv,hown.kept (grown_of_below hb none) ?_,hne⟩
  cases h:v.ownBlock with
  | none=>exact .inl rfl
  | some k=>exact .inr (by simp)
 rcases h with h | h
 ·exact .inl (one _ h)
 ·exact .inr (one _ h)
theorem bld_write {B b:Nat} {l m:List UInt8} {w:World} (h:Bld B b l w) (hlen:l.length+m.length≤140737488355328) (hBw:B≤w.heap.size) :
  Calls Tryz.prog 209 #[.pointer (some ⟨b,0,none⟩),.string (bs m)] w fun e w'=>e=.returned (.tuple #[.int .i64 m.length,.nilIface])∧Bld B b (l++m) w'∧Below B w w':=by
 refine (writeString_any B b _ (bs m) w h (by rw [Lib.byteCells_length,bs_size];omega) hBw).mono ?_
 rintro e w' ⟨rfl,h1,h2⟩
 refine ⟨by rw [bs_size],?_,h2⟩
 unfold Bld
 rw [Lib.byteCells_append,← strCells_bs m]
 exact h1
theorem bld_string {B b:Nat} {l:List UInt8} {w:World} (h:Bld B b l w) (hBw:B≤w.heap.size) :
  Calls Tryz.prog 210 #[.pointer (some ⟨b,0,none⟩)] w fun e w'=>e=.returned (.string (bs l))∧Bld B b l w'∧Below B w w':=by
 refine (Tryz.Builder_String_any_k B b l w h hBw).mono ?_
 rintro e w' ⟨rfl,h1,h2,_⟩
 exact ⟨rfl,h1,h2⟩
theorem bld_new (w:World):Bld w.heap.size w.heap.size [] (w.alloc (.cells #[.pointer none,.slice none 0 0] 236)) :=
 .of (Lib.fresh_isBuilder 236 5 w)
theorem flat_succ {T:Type} (one:T→List UInt8) (xs:List T) (k:Nat) (hk:k<xs.length):(xs.take (k+1)).flatMap one=(xs.take k).flatMap one++one xs[k]:=by
 rw [List.take_succ_eq_append_getElem hk,List.flatMap_append];simp
theorem flat_le {T:Type} (one:T→List UInt8) (xs:List T) (k:Nat):((xs.take k).flatMap one).length≤(xs.flatMap one).length:=by
 conv=>rhs;rw [← List.take_append_drop k xs,List.flatMap_append,List.length_append]
 omega
theorem flat_bound {T:Type} (one:T→List UInt8) (m:Nat):∀ xs:List T,(∀ x∈xs,(one x).length≤m)→(xs.flatMap one).length≤xs.length * m
 | [],_=>by simp
 | x::r,h=>by
  have h1:=h x (by simp)
  have h2:=flat_bound one m r (fun y hy=>h y (by simp [hy]))
  simp only [List.flatMap_cons,List.length_append,List.length_cons,Nat.add_mul]
  omega
theorem listI_any {B:Nat} (xs:List Int) (A:Option Addr) (c:Nat) (w:World) (hV:Vs B w) (hr:RdL 1 intE w w.heap.size A xs) (hlen:(xs.flatMap encI).length≤1000000000000) (hx:∀ x∈xs,InInt x) (hn:xs.length≤1000000000000) :
  Calls Tryz.prog 263 #[.slice A xs.length c,.func (.func 114) #[] #[]] w fun e w'=>e=.returned (.string (bs (encL encI xs)))∧Below w.heap.size w w':=by
 have hli:=Lib.itoa_length_le xs.length (by omega) (by omega)
 have HV:=hid hV
 have HR:=hid hr
 have HX:=hid hx
 have HF:=hid (flat_le encI xs)
 have HL:=hid hlen
 clear hr hx hlen
 go_enter Tryz.func263,Tryz.ntmps263
 go_wp2_with fail
 have hB0:=bld_new w
 have hw0:=(Below.refl w.heap.size w).alloc (Nat.le_refl _) (.cells #[.pointer none,.slice none 0 0] 236)
 obtain ⟨w0,hw0e⟩:∃ x,x=w.alloc (.cells #[.pointer none,.slice none 0 0] 236):=⟨_,rfl⟩
 rw [← hw0e] at hB0 hw0 ⊢
 clear hw0e
 refine (itoa_any xs.length w0 (HV.out.on (hw0.mono HV.out.le)) ⟨by omega,by omega⟩).mono ?_
 rintro e w1 ⟨rfl,hb1⟩
 have hB1:=hid (hB0.now hb1)
 have hw1:=hid (hw0.trans (hb1.mono hw0.size))
 clear hB0 hw0 hb1
 go_wp2_with (first
   | ((with_reducible show wpList _ _ _ (Oper.mk _ (Op.binOp .add 9 _ _ _) _ _ _ _::_) _ _);refine wp_cat rfl rfl Tryz.underlying9 rfl rfl (by first | omega | (simp;done) | (simp;omega)) ?_)
   | fail)
 refine (bld_write hB1.out (by simp;omega) hw1.out.size).mono ?_
 rintro e w2 ⟨rfl,hB2,hb2⟩
 have HB2:=hid hB2
 have HW2:=hid (hw1.out.trans hb2)
 clear hB1 hw1 hB2 hb2
 go_wp2_with fail
 go_loopw [7,15] (fun _ i wr=>∃ k:Nat,k≤xs.length∧i=.int .i64 k∧Bld w.heap.size w.heap.size ((Lib.itoa xs.length++[91])++(xs.take k).flatMap encI) wr∧Below w.heap.size w wr) (fun _ i _=>xs.length - (intOf i).toNat)
 case atStart=>exact ⟨0,Nat.zero_le _,rfl,by simpa using HB2.out,HW2.out⟩
 case round =>
  obtain ⟨k,hk,rfl,hbd,hb⟩:=hrel
  have HB:=hid hb
  have HD:=hid hbd
  clear hbd HB2 HW2
  by_cases hlt:k<xs.length
  ·obtain ⟨b,off,hA,hc⟩:=rd_int (HR.out.now hb) hlt
   subst hA
   have HXk:=hid (HX.out _ (List.getElem_mem hlt))
   have HSt:=hid (flat_succ encI xs k hlt)
   generalize xs[k]=x at *
   clear hb
   go_wp2_with fail
   refine (wInt_any x _ (HV.out.on (HB.out.mono HV.out.le)) HXk.out).mono ?_
   rintro e w3 ⟨rfl,hb3⟩
   have HD3:=hid (HD.out.now hb3)
   have HB3:=hid (HB.out.trans (hb3.mono HB.out.size))
   clear hb3
   go_wp2_with fail
   refine (bld_write HD3.out (by have:=HF.out (k+1);have:=HL.out;rw [HSt.out] at *;simp only [List.length_append,List.length_cons,List.length_nil] at *;omega) HB3.out.size).mono ?_
   rintro e w4 ⟨rfl,hB4,hb4⟩
   have HB4:=hid hB4
   have HW4:=hid (HB3.out.trans hb4)
   clear hB4 hb4
   go_wp2_with fail
   go_roundw
   case rel=>exact ⟨k+1,by omega,by go_num,by rw [HSt.out,← List.append_assoc];exact HB4.out,HW4.out⟩
   case measure=>simp [intOf];omega
  ·have hke:xs.take k=xs:=List.take_of_length_le (by omega)
   have hD2:=HD.out
   rw [hke] at hD2
   have HD2:=hid hD2
   clear hD2 HD hke
   go_wp2_with fail
   refine (bld_string HD2.out HB.out.size).mono ?_
   rintro e w5 ⟨rfl,hB5,hb5⟩
   have HW5:=hid (HB.out.trans hb5)
   have hl2:=HL.out
   clear hB5 hb5
   go_wp2_with (first
    | ((with_reducible show wpList _ _ _ (Oper.mk _ (Op.binOp .add 9 _ _ _) _ _ _ _::_) _ _);refine wp_cat rfl rfl Tryz.underlying9 rfl rfl (by simp only [List.length_append,List.length_cons,List.length_nil];omega) ?_)
    | fail)
   go_ret
   exact ⟨ret_str (by simp [encL]),HW5.out⟩
theorem wNums_any {B:Nat} (xs:List Int) (A:Option Addr) (c:Nat) (w:World) (hV:Vs B w) (hr:RdL 1 intE w w.heap.size A xs) (hx:∀ x∈xs,InInt x) (hn:xs.length≤10000000000) :
  Calls Tryz.prog 213 #[.slice A xs.length c] w fun e w'=>e=.returned (.string (bs (encL encI xs)))∧Below w.heap.size w w':=by
 have hlen:(xs.flatMap encI).length≤1000000000000:=by
  have h:=flat_bound encI 22 xs (fun x h=>encI_len x (hx x h))
  omega
 go_enter Tryz.func213,Tryz.ntmps213
 go_wp2_with fail
 refine (listI_any xs A c w hV hr hlen hx (by omega)).mono ?_
 rintro e w1 ⟨rfl,hb1⟩
 go_wp2_with fail
 go_ret
 exact ⟨rfl,hb1⟩
/- Contract of strings.Join with nothing between (layer 46). -/
theorem grow_bld0 (w:World) (n:Nat) (hn:n≤281474976710656):Calls Tryz.prog 211 #[.pointer (some ⟨w.heap.size,0,none⟩),.int .i64 n] (w.alloc (.cells #[.pointer none,.slice none 0 0] 236)) fun e w'=>e=.returned (.tuple #[])∧Bld w.heap.size w.heap.size [] w'∧Below w.heap.size w w':=by
 refine (Tryz.Builder_Grow_fresh w.heap.size w.heap.size n _ (Nat.le_refl _) (MapKept.heap_alloc w _).1 (by simp) hn).mono ?_
 rintro e w' ⟨rfl,h1,h2⟩
 exact ⟨rfl,.of (.inr h1),((Below.refl _ _).alloc (Nat.le_refl _) _).trans h2⟩
theorem flatId_succ (r:List (List UInt8)) (k:Nat) (hk:k<r.length):(r.take (k+1)).flatMap id=(r.take k).flatMap id++r[k]:=by
 rw [flat_succ _ r k hk]
 rfl
set_option maxRecDepth 100000 in
theorem join0_any (x:List UInt8) (r:List (List UInt8)) (b off c n:Nat) (w:World) (hn:n=(x::r).length) (h2:2≤n) (hc:n≤c) (hb:b<w.heap.size)
  (hcell:∀ k (hk:k<(x::r).length),w.cell? ⟨b,off+k,none⟩=some (.string (bs (x::r)[k]))) (hlen:((x::r).flatMap id).length≤140737488355328) (hn6:n≤1000001) :
  Calls Tryz.prog 90 #[.slice (some ⟨b,off,none⟩) n c,.string ⟨#[]⟩] w fun e w'=>e=.returned (.string (bs ((x::r).flatMap id)))∧Below w.heap.size w w':=by
 have hrn:r.length=n - 1:=by rw [hn];rfl
 have hxr:(x::r).flatMap id=x++r.flatMap id:=rfl
 have HN:=hid hn
 have HRN:=hid hrn
 have HC:=hid hcell
 have HL:Hid (x.length+(r.flatMap id).length≤140737488355328):=hid (by rw [hxr,List.length_append] at hlen;exact hlen)
 have HXR:=hid hxr
 clear hn hcell hrn hxr
 have hne0:((n:Int)==0)=false:=beq_eq_false_iff_ne.2 (by omega)
 have hne1:((n:Int)==1)=false:=beq_eq_false_iff_ne.2 (by omega)
 have hs1:(⟨#[]⟩:ByteArray).size=0:=rfl
 go_enter Tryz.func90,Tryz.ntmps90
 go_wp2_with fail
 go_loop [5,41] (fun s i=>∃ k:Nat,k≤n∧i=.int .i64 k∧s=.int .i64 (((((x::r).take k).flatMap id).length:Nat):Int)) (fun _ i=>n - (intOf i).toNat)
 case atStart=>exact ⟨0,Nat.zero_le _,rfl,by simp⟩
 case round =>
  obtain ⟨k,hk,rfl,rfl⟩:=hrel
  by_cases hkn:k<n
  ·have hkl:k<(x::r).length:=HN.out ▸ hkn
   have hck:=HC.out k hkl
   have hle:=flat_le id (x::r) (k+1)
   have hst:=flat_succ id (x::r) k hkl
   have hst2:=congrArg List.length hst
   rw [List.length_append] at hst2
   have HS:=hid hst2
   clear hst
   have hsz:(bs (x::r)[k]).size=((x::r)[k]).length:=bs_size _
   simp only [id] at hst2
   generalize (x::r)[k]=y at *
   generalize hA:(((x::r).take k).flatMap id).length=A0 at *
   generalize hA1:(((x::r).take (k+1)).flatMap id).length=A1 at *
   generalize ((x::r).flatMap id).length=T at *
   have HA1:=hid hA1
   clear hA hA1 HS
   go_wp2_with fail
   go_round
   case rel=>exact ⟨k+1,by omega,by go_num,by rw [HA1.out,hst2];refine congrArg _ ?_;omega⟩
   case measure=>simp [intOf];omega
  ·have hke:k=n:=by omega
   subst hke
   have hall:(x::r).take k=x::r:=List.take_of_length_le (by rw [← HN.out];exact Nat.le_refl _)
   rw [hall]
   generalize ((x::r).flatMap id).length=T at *
   clear hall
   go_wp2_with fail
   refine (grow_bld0 w T (by omega)).mono ?_
   rintro e w1 ⟨rfl,h1,hb1⟩
   have c0:w1.cell? ⟨b,off,none⟩=some (.string (bs x)):=by
    have:=HC.out 0 (by simp)
    rw [hb1.cell (p:=⟨b,off,none⟩) hb]
    simpa using this
   have HB1:=hid h1
   have HW1:=hid hb1
   clear h1 hb1
   have hxl:x.length≤140737488355328:=by have h1:=HL.out;omega
   go_wp2_with fail
   refine (bld_write HB1.out (by simp;omega) HW1.out.size).mono ?_
   rintro e w2 ⟨rfl,h2',hb2⟩
   have HB2:=hid h2'
   have HW2:=hid (HW1.out.trans hb2)
   clear h2' hb2
   go_wp2_with fail
   go_loopw [65] (fun i wr=>∃ j:Nat,j≤k - 1∧i=.int .i64 j∧Bld w.heap.size w.heap.size (x++(r.take j).flatMap id) wr∧Below w.heap.size w wr) (fun i _=>k - (intOf i).toNat)
   case atStart=>exact ⟨0,Nat.zero_le _,rfl,by simpa using HB2.out,HW2.out⟩
   case round =>
    obtain ⟨j,hj,rfl,hbl,hwr⟩:=hrel
    have HB3:=hid hbl
    have HW3:=hid hwr
    clear hbl hwr
    by_cases hjk:j<k - 1
    ·have hjl:j<r.length:=HRN.out ▸ hjk
     have hcy:wr.cell? ⟨b,off+1+j,none⟩=some (.string (bs r[j])):=by
      have:=HC.out (j+1) (by simp;omega)
      rw [HW3.out.cell (p:=⟨b,off+1+j,none⟩) hb,show off+1+j=off+(j+1) by omega,this]
      rfl
     have HS:=hid (flatId_succ r j hjl)
     have HJ:Hid (((r.take (j+1)).flatMap id).length+x.length≤140737488355328):=hid (by have h1:=HL.out;have h2:=flat_le id r (j+1);omega)
     generalize r[j]=y at *
     go_wp2_with fail
     refine (bld_write (m:=[]) HB3.out (by have h2:=HJ.out;rw [HS.out] at h2;simp only [List.length_append,List.length_cons,List.length_nil] at h2 ⊢;omega) HW3.out.size).mono ?_
     rintro e w4 ⟨rfl,h4,hb4⟩
     rw [List.append_nil] at h4
     have HB4:=hid h4
     have HW4:=hid (HW3.out.trans hb4)
     clear h4 hb4
     go_wp2_with fail
     refine (bld_write HB4.out (by have h2:=HJ.out;rw [HS.out] at h2;simp only [List.length_append,List.length_cons,List.length_nil] at h2 ⊢;omega) HW4.out.size).mono ?_
     rintro e w5 ⟨rfl,h5,hb5⟩
     have HB5:=hid h5
     have HW5:=hid (HW4.out.trans hb5)
     clear h5 hb5
     go_wp2_with fail
     go_roundw
     case rel=>exact ⟨j+1,by omega,by go_num,by have:=HB5.out;rw [HS.out];simpa using this,HW5.out⟩
     case measure=>simp [intOf];omega
    ·have hje:j=k - 1:=by omega
     have hall:r.take j=r:=List.take_of_length_le (by rw [HRN.out];omega)
     rw [hall] at HB3
     go_wp2_with fail
     refine (bld_string HB3.out HW3.out.size).mono ?_
     rintro e w6 ⟨rfl,h6,hb6⟩
     have HW6:=hid (HW3.out.trans hb6)
     clear h6 hb6
     go_wp2_with fail
     go_ret
     exact ⟨ret_str (by rw [HXR.out];simp),HW6.out⟩
end Go.Proofs.YthlpehhlhebhbaaGreatDoor
