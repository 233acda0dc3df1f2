/- Contracts and plain laws, joined: BkE. -/
import Derived.Test.YtlnnjdibkbabiaaGreatDoorQay
import Derived.Laws.IdiomStrings
/- Contracts of long and mail of lingualaw23,and of Few and Means of linguaref23. -/
set_option linter.unusedSimpArgs false
set_option linter.unusedVariables false
namespace Go.Proofs.YtlnnjdibkbabiaaGreatDoor
set_option maxHeartbeats 1000000
open _root_.Go.Lib (hid)
open Go.RowKit
theorem wpList_conv_str {P:Program} {w:World} {ops:Array Oper} {rest:List Oper} {o:Oper} {a:Act} {Q:Exit→Act→World→Prop} (hgd:o.guard=none) (x:Operand) (src dst e:TypeId)
  (ho:o.op=.convert src dst x) (hs:P.underlying src=some (.slice e)) (he:P.underlying e=some (.int .u8)) (hd:P.underlying dst=some .string)
  (g n c:Nat) (hx:a.eval x=.slice (some ⟨g,0,none⟩) n c) (l:List UInt8) (hn:n=l.length) (t:TypeId) (fr:Nat × Nat) (more:List Value) (hg:w.heap[g]?=some (.cells (Lib.byteCells l++more).toArray t fr))
  (h:wpList P ops Q rest (a.put o.dst (.string ⟨l.toArray⟩)) w):wpList P ops Q (o::rest) a w:=by
 subst hn
 refine wpList_plain hgd fun K hK=>?_
 have hrun:=run_convert_bytes_back (P:=P) w src dst e ⟨g,0,none⟩ c l hs he hd (fun j hj=>by
  have h1:(⟨g,0,none⟩:Addr).add j=⟨g,j,none⟩:=by unfold Addr.add;split <;> simp_all
  rw [h1]
  unfold World.cell?
  simp only [hg]
  rw [List.getElem?_toArray,List.getElem?_append_left (by simpa [Lib.byteCells] using hj)]
  simp [Lib.byteCells,hj])
 unfold Oper.wp
 simp [execOp,ho,hx,hrun,Result.andThen]
 exact hK _ _ h
def zcells (n:Nat):List Value:=List.replicate n (.int .u8 0)
theorem infoU8:∃ i,Tryz.prog.info? 5=some i∧i.zero=some (.int .u8 0)∧i.size=1∧i.bytes=1:=by
 refine info_parts ?_
 kernel_rfl
theorem madeU8 (n:Nat):(madeCells (Value.int .u8 0).cells (n * 1)).toList=zcells n:=by
 rw [Nat.mul_one]
 exact toList_madeCells_one _ n
theorem made_row {w1:World} {base g n:Nat} {e:TypeId} (h:w1.ownsRow base e 1 (.slice (some ⟨g,0,none⟩) n n) n (madeCells (Value.int .u8 0).cells (n * 1)).toList):w1.heap[g]?=some (.cells (zcells n).toArray e (0,0)):=by
 rcases h.2 with ⟨hv,_⟩ | ⟨g',cap,cur,hv,_,hg,_,_,hs,ht⟩
 ·cases hv
 ·injection hv with e1 e2 e3
  injection e1 with e1
  injection e1 with e1
  subst e1 e3
  rw [madeU8,List.take_of_length_le (by rw [Array.length_toList];omega)] at ht
  rw [hg,← ht]
def zstr (n:Nat):ByteArray:=⟨(List.replicate n 0).toArray⟩
theorem zcells_bytes (n:Nat):zcells n=Lib.byteCells (List.replicate n 0):=by simp [zcells,Lib.byteCells]
theorem lLong_any (n:Nat) (w:World) (hn:n≤100000):Calls Tryz.prog 34 #[.int .i64 n] w fun e w'=>e=.returned (.string (zstr n))∧Below w.heap.size w w':=by
 obtain ⟨i,hi1,hi2,hi3,hi4⟩:=infoU8
 go_enter Tryz.func34,Tryz.ntmps34
 go_wp2_with (first
  | (at_make;refine wpList_make_full _ rfl _ _ _ rfl w.heap.size 5 i _ 1 Tryz.underlying117 hi1 hi2 hi3 .i64 .i64 _ _ n rfl rfl (by omega) (by omega) (by rw [hi4];omega) (by simp [maxLen];omega) (Nat.le_refl _) ?_;intro w1 hown hg1;have HR1:=hid (made_row hown);clear hown)
  | ((with_reducible show wpList _ _ _ (Oper.mk (some 5) _ _ _ _ _::_) _ _);refine wpList_conv_str rfl _ _ _ 5 rfl Tryz.underlying117 Tryz.underlying5 Tryz.underlying9 w.heap.size _ _ rfl (List.replicate n 0) (by simp) _ _ [] (by rw [← zcells_bytes];simpa using HR1.out) ?_))
 go_ret
 exact ⟨rfl,(Below.refl _ _).grown hg1 (Nat.le_refl _) (fun k hk=>by cases hk)⟩
def mailBP:Prof:={zeroP with name:=⟨#[109,97,105,108]⟩,quote:=true,size:=900,parts:=1,files:=1,bytes:=5000,types:=[pngS],rate:=1}
set_option maxRecDepth 100000 in
theorem lMail_any (w:World):Calls Tryz.prog 33 #[] w (MadeP mailBP w):=by
 have hth:((w.alloc (.cells (zeroP.cs none 0) 24)).alloc (.cells #[.string pngS] 9)).there w.heap.size 0 22:=boxThere w _ _ ((Below.refl _ _).alloc (Nat.le_refl _) _) _ rfl 22 rfl
 have HTH:=hid hth
 clear hth
 go_enter Tryz.func33,Tryz.ntmps33
 go_wp2_with ((with_reducible show wpList _ _ _ (Oper.mk _ (Op.store 24 _ _) _ _ _ _::_) _ _);refine wpList_store_box rfl 24 _ _ rfl _ _ rfl rfl HTH.out (by kernel_rfl) (by kernel_rfl) ?_;intro w2 hrg hth hg)
 refine ret_box 0 24 rfl w.heap.size _ _ rfl hrg Tryz.underlying24 rfl (by kernel_rfl) rfl ⟨?_,some ⟨w.heap.size+1,0,none⟩,rfl,?_⟩
 ·exact ((((Below.refl w.heap.size w).alloc (Nat.le_refl _) _).alloc (by simp) _).grown hg (by simp;omega) (fun k hk=>by cases hk;exact Nat.le_refl _))
 ·have hr:=RdL.lit strLayV (w.alloc (.cells (zeroP.cs none 0) 24)) [pngS] #[.string pngS] 9 rfl
  have hs:(w.alloc (.cells (zeroP.cs none 0) 24)).heap.size=w.heap.size+1:=by simp
  rw [hs] at hr
  exact hr.at_block (fun j=>World.cell?_of_block (hg.block _ (by simp) (by simp))) (by have:=hg.size;simp at this;omega)
end Go.Proofs.YtlnnjdibkbabiaaGreatDoor
