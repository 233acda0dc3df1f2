/- Contracts and plain laws, joined: CvB. -/
import Derived.Test.YtlnnjdibkbabiaaGreatDoorQag
import Derived.Test.YtlnnjdibkbabiaaGreatDoorQbe
import Derived.Test.YtlnnjdibkbabiaaGreatDoorQak
import Derived.Test.YtlnnjdibkbabiaaGreatDoorQba
/- A conversation in memory (layer 15). -/
set_option linter.unusedSimpArgs false
set_option linter.unusedVariables false
namespace Go.Proofs.YtlnnjdibkbabiaaGreatDoor
open Go.RowKit
set_option maxRecDepth 100000
structure IL where
 l:List Int
 A:Option Addr
 c:Nat
def IL.v (x:IL):Value:=.slice x.A x.l.length x.c
structure CvL where
 A:Option Addr
 c:Nat
 ml:List EvL
 ob:Nat
 db:Nat
 f:Int→Option IL
 g:Int→Option Bool
def CvL.get (C:CvL) (a:Int):IL:=(C.f a).getD ⟨[],none,0⟩
def CvL.own (C:CvL) (p i:Nat):Prop:=i=p∨i=C.ob∨i=C.db∨slBlk C.A=some i∨∃ a s,C.f a=some s∧slBlk s.A=some i
def EvL.at_ (x:EvL) (i:Nat):Prop:=slBlk x.cA=some i∨slBlk x.fA=some i
structure CvG (w:World) (p:Nat) (L:List EvM) (F:Int→List Int) (D:Int→Bool) (C:CvL):Prop where
 box:w.heap[p]?=some (.cells #[.slice C.A C.ml.length C.c,.map (some C.ob),.map (some C.db)] 101 (0,0))
 ml:C.ml.map (·.ev)=L
 evl:OwnL w 0 40 12 EvL.cs C.A C.c C.ml
 evs:∀ x∈C.ml,EvLOk w w.heap.size x
 evb:∀ x∈C.ml,∀ i,x.at_ i→i<w.heap.size∧¬ C.own p i
 evr:∀ x∈C.ml,x.ev.causes.length≤8∧x.ev.files.length≤4
 own:MapF w C.ob InInt (Value.int .i64) IL.v C.f
 ownl:∀ a,(C.get a).l=F a
 owno:∀ a s,C.f a=some s→OwnL w 0 3 1 intC s.A s.c s.l
 del:MapF w C.db InInt (Value.int .i64) Value.bool C.g
 dell:∀ k,C.g k=if D k=true then some true else none
 d1:p≠C.ob∧p≠C.db∧C.ob≠C.db
 d2:∀ i,slBlk C.A=some i→i≠p∧i≠C.ob∧i≠C.db
 d3:∀ a s i,C.f a=some s→slBlk s.A=some i→i≠p∧i≠C.ob∧i≠C.db∧slBlk C.A≠some i
 d4:∀ a b s t i,a≠b→C.f a=some s→C.f b=some t→slBlk s.A=some i→slBlk t.A≠some i
section
variable {w w':World} {p:Nat} {L:List EvM} {F:Int→List Int} {D:Int→Bool} {C:CvL}
theorem CvG.lt (h:CvG w p L F D C):∀ i,C.own p i→i<w.heap.size:=by
 rintro i (rfl | rfl | rfl | hi | ⟨a,s,hf,hi⟩)
 ·exact box_lt h.box
 ·exact h.own.lt
 ·exact h.del.lt
 ·exact (h.evl.blk_lt hi).2
 ·exact ((h.owno a s hf).blk_lt hi).2
theorem EvLOk.turn {x:EvL} (h:EvLOk w w.heap.size x) (hb:∀ i,x.at_ i→i<w.heap.size→w'.heap[i]?=w.heap[i]?) (hs:w.heap.size≤w'.heap.size):EvLOk w' w'.heap.size x :=
 ⟨⟨h.ok.ca.turn (fun i hi hl=>hb i (.inl hi) hl) hs,h.ok.fi.turn (fun i hi hl=>hb i (.inr hi) hl) hs,h.ok.cl,h.ok.fl,h.ok.tx⟩,h.cap⟩
theorem CvG.frame (h:CvG w p L F D C) (hb:∀ i,C.own p i∨(∃ x∈C.ml,x.at_ i)→w'.heap[i]?=w.heap[i]?) (hs:w.heap.size≤w'.heap.size):CvG w' p L F D C:=by
 refine ⟨(hb p (.inl (.inl rfl))).trans h.box,h.ml,h.evl.turn (fun i hi _=>hb i (.inl (.inr (.inr (.inr (.inl hi)))))),fun x hx=>(h.evs x hx).turn (fun i hi _=>hb i (.inr ⟨x,hx,hi⟩)) hs,fun x hx i hi=>⟨Nat.lt_of_lt_of_le (h.evb x hx i hi).1 hs,(h.evb x hx i hi).2⟩,h.evr,
  h.own.of_block (hb _ (.inl (.inr (.inl rfl)))),h.ownl,fun a s hf=>(h.owno a s hf).turn (fun i hi _=>hb i (.inl (.inr (.inr (.inr (.inr ⟨a,s,hf,hi⟩)))))),h.del.of_block (hb _ (.inl (.inr (.inr (.inl rfl))))),h.dell,h.d1,h.d2,h.d3,h.d4⟩
theorem CvG.below (h:CvG w p L F D C) (hb:Below w.heap.size w w'):CvG w' p L F D C :=
 h.frame (fun i hi=>hb.block i (hi.elim (h.lt i) (fun ⟨x,hx,hi⟩=>(h.evb x hx i hi).1))) hb.size
theorem CvG.c0 (h:CvG w p L F D C):w.cell? ⟨p,0,none⟩=some (.slice C.A C.ml.length C.c):=box_cell h.box 0 _ rfl
theorem CvG.c1 (h:CvG w p L F D C):w.cell? ⟨p,1,none⟩=some (.map (some C.ob)):=box_cell h.box 1 _ rfl
theorem CvG.c2 (h:CvG w p L F D C):w.cell? ⟨p,2,none⟩=some (.map (some C.db)):=box_cell h.box 2 _ rfl
theorem CvG.free (h:CvG w p L F D C) (j:Nat):w.frozen? ⟨p,j,none⟩=false:=box_free h.box j
theorem CvG.len (h:CvG w p L F D C):C.ml.length=L.length:=by rw [← h.ml];simp
theorem wfInt {a:Int} (h:InInt a):(Lit.int .i64 a).wf=true:=by
 unfold InInt at h
 simp [Lit.wf,IntKind.min,IntKind.max,IntKind.bits,IntKind.signed]
 omega
theorem keyInt:KeyTy Tryz.prog 3 InInt (Value.int .i64) where
 K:=Maps.int_keyed Tryz.underlying3
 lit:=fun a h=>by
  refine ⟨.int .i64 a,?_⟩
  simp [keyOf,Tryz.underlying3,mapKey,wfInt h]
 inj:=fun a b h=>by injection h
theorem zeroInts (w:World):(zeroValue 38).run Tryz.prog w=.ok (.slice none 0 0) w:=by kernel_rfl
theorem zeroBoolC (w:World):(zeroValue 4).run Tryz.prog w=.ok (.bool false) w:=by kernel_rfl
theorem CvG.lookO (h:CvG w p L F D C) (a:Int) (ha:InInt a):(Instr.lookup 98 (.map (some C.ob)) (.int .i64 a) false).run Tryz.prog w=.ok (.slice (C.get a).A (F a).length (C.get a).c) w:=by
 have:=h.own.look keyInt Tryz.underlying98 (zeroInts w) a ha false
 rw [this,← h.ownl a]
 unfold CvL.get
 rcases C.f a with _ | x <;> rfl
theorem CvG.lookD (h:CvG w p L F D C) (k:Int) (ha:InInt k):(Instr.lookup 99 (.map (some C.db)) (.int .i64 k) false).run Tryz.prog w=.ok (.bool (D k)) w:=by
 have:=h.del.look keyInt Tryz.underlying99 (zeroBoolC w) k ha false
 rw [this,h.dell k]
 cases D k <;> rfl
theorem CvG.getO (h:CvG w p L F D C) (a:Int):OwnL w 0 3 1 intC (C.get a).A (C.get a).c (F a):=by
 rw [← h.ownl a]
 unfold CvL.get
 cases hf:C.f a with
 | none=>exact OwnL.nil_
 | some s=>exact h.owno a s hf
end
abbrev CvK (w:World) (p:Nat) (L:List EvM) (C:CvL):Prop:=CvG w p L (ofL L) (delB L) C
def cvOb (p:Nat) (L:List EvM) (C:CvL):Ob where
 own:=C.own p
 see i:=∃ x∈C.ml,x.at_ i
 ok w:=CvK w p L C
 lt w h i hi:=hi.elim (CvG.lt h i) (fun ⟨x,hx,hi⟩=>(h.evb x hx i hi).1)
 frame w w' h hb hs:=CvG.frame h hb hs
end Go.Proofs.YtlnnjdibkbabiaaGreatDoor
