/- Contracts and plain laws, joined: TjG, TjH, TlG, TlI. -/
import Derived.Test.YtlnnjdibkbabiaaGreatDoorQbw
import Derived.Test.YtlnnjdibkbabiaaGreatDoorQbn
import Derived.Test.YtlnnjdibkbabiaaGreatDoorQbq
import Derived.Test.YtlnnjdibkbabiaaGreatDoorQbr
/- Lemmas for Trip (layer 24): a journey is made by three operations in any order;errors. -/
set_option linter.unusedSimpArgs false
set_option linter.unusedVariables false
namespace Go.Proofs.YtlnnjdibkbabiaaGreatDoor
open Go.RowKit
set_option maxRecDepth 100000
section
variable {P:Program} {ops:Array Oper} {Q:Exit→Act→World→Prop} {md:Region.Mode} {S:World→Prop} {late:Nat→Bool}
end
structure A9 (w0 w:World) (L:List EvM) (l u:Option Nat) (x:Option (Option Addr × Nat × List EvL)):Prop where
 hb:Below w0.heap.size w0 w
 ml:∀ b,l=some b→w0.heap.size≤b∧MapF w b okP kvP (Value.int .i64) (fun _=>none)
 mu:∀ b,u=some b→w0.heap.size≤b∧MapF w b InInt (Value.int .i64) Value.bool (fun _=>none)
 ne:∀ b c,l=some b→u=some c→b≠c
 ev:∀ A c xs,x=some (A,c,xs)→evsL xs=L∧RInv w0.heap.size w 40 12 EvL.cs okEv EvL.at_ A c xs∧∀ i,(slBlk A=some i∨∃ y∈xs,y.at_ i)→l≠some i∧u≠some i
theorem RInv.below {T:Type} {lo:Nat} {w w':World} {e:TypeId} {sz:Nat} {enc:T→List Value} {ok:World→T→Prop} {see:T→Nat→Prop} {A:Option Addr} {c:Nat} {out:List T} (E:ElOk ok see) (h:RInv lo w e sz enc ok see A c out) (hb:Below w.heap.size w w'):RInv lo w' e sz enc ok see A c out :=
 h.turn E (Turn.below (F:=fun _=>False) hb) (fun _ hf=>hf.elim)
theorem RInv.lts {lo:Nat} {w:World} {A:Option Addr} {c:Nat} {xs:List EvL} (h:RInv lo w 40 12 EvL.cs okEv EvL.at_ A c xs) {i:Nat} (hi:slBlk A=some i∨∃ y∈xs,y.at_ i):i<w.heap.size:=by
 rcases hi with hi | ⟨y,hy,hi⟩
 ·exact (h.own.blk_lt hi).2
 ·exact (h.el y hy).1.2 i hi
section
variable {w0 w w':World} {L:List EvM} {l u:Option Nat} {x:Option (Option Addr × Nat × List EvL)}
theorem A9.start (w:World) (L:List EvM):A9 w w.drew L none none none :=
 ⟨(Below.refl _ _).drew,fun b hb=>(nomatch hb),fun b hb=>(nomatch hb),fun b c hb=>(nomatch hb),fun A c xs hx=>(nomatch hx)⟩
theorem A9.m1 (h:A9 w0 w L none u x):A9 w0 (w.alloc (.map #[] 0)) L (some w.heap.size) u x:=by
 have hb1:Below w.heap.size w (w.alloc (.map #[] 0)):=(Below.refl _ _).alloc (Nat.le_refl _) _
 refine ⟨h.hb.alloc h.hb.size _,fun b hb=>?_,fun b hb=>⟨(h.mu b hb).1,(h.mu b hb).2.of_block (hb1.block _ (h.mu b hb).2.lt)⟩,fun b c hb hc=>?_,fun A c xs hx=>?_⟩
 ·obtain rfl:=Option.some.inj hb
  exact ⟨h.hb.size,MapF.new w⟩
 ·obtain rfl:=Option.some.inj hb
  have:=(h.mu c hc).2.lt
  omega
 ·obtain ⟨h1,h2,h3⟩:=h.ev A c xs hx
  refine ⟨h1,h2.below elEv hb1,fun i hi=>⟨fun e=>?_,(h3 i hi).2⟩⟩
  have:=h2.lts hi
  have:=Option.some.inj e
  omega
theorem A9.m2 (h:A9 w0 w L l none x):A9 w0 (w.alloc (.map #[] 0)) L l (some w.heap.size) x:=by
 have hb1:Below w.heap.size w (w.alloc (.map #[] 0)):=(Below.refl _ _).alloc (Nat.le_refl _) _
 refine ⟨h.hb.alloc h.hb.size _,fun b hb=>⟨(h.ml b hb).1,(h.ml b hb).2.of_block (hb1.block _ (h.ml b hb).2.lt)⟩,fun b hb=>?_,fun b c hb hc=>?_,fun A c xs hx=>?_⟩
 ·obtain rfl:=Option.some.inj hb
  exact ⟨h.hb.size,MapF.new w⟩
 ·obtain rfl:=Option.some.inj hc
  have:=(h.ml b hb).2.lt
  omega
 ·obtain ⟨h1,h2,h3⟩:=h.ev A c xs hx
  refine ⟨h1,h2.below elEv hb1,fun i hi=>⟨(h3 i hi).1,fun e=>?_⟩⟩
  have:=h2.lts hi
  have:=Option.some.inj e
  omega
theorem A9.all (h:A9 w0 w L l u none) {A:Option Addr} {c:Nat} {xs:List EvL} (hx:evsL xs=L) (hr:RInv w.heap.size w' 40 12 EvL.cs okEv EvL.at_ A c xs) (hb1:Below w.heap.size w w'):A9 w0 w' L l u (some (A,c,xs)):=by
 refine ⟨h.hb.trans (hb1.mono h.hb.size),fun b hb=>⟨(h.ml b hb).1,(h.ml b hb).2.of_block (hb1.block _ (h.ml b hb).2.lt)⟩,fun b hb=>⟨(h.mu b hb).1,(h.mu b hb).2.of_block (hb1.block _ (h.mu b hb).2.lt)⟩,h.ne,fun A2 c2 xs2 hx2=>?_⟩
 injection hx2 with hx2
 injection hx2 with e1 e2
 injection e2 with e2 e3
 subst e1 e2 e3
 have hlo:∀ i,(slBlk A=some i∨∃ y∈xs,y.at_ i)→w.heap.size≤i:=by
  rintro i (hi | ⟨y,hy,hi⟩)
  ·exact (hr.own.blk_lt hi).1
  ·exact ((hr.el y hy).2 i hi).1
 refine ⟨hx,⟨hr.own.mono h.hb.size,fun y hy=>⟨(hr.el y hy).1,fun i hi=>⟨Nat.le_trans h.hb.size ((hr.el y hy).2 i hi).1,((hr.el y hy).2 i hi).2⟩⟩⟩,fun i hi=>⟨fun e=>?_,fun e=>?_⟩⟩
 ·have:=(h.ml i e).2.lt
  have:=hlo i hi
  omega
 ·have:=(h.mu i e).2.lt
  have:=hlo i hi
  omega
end
theorem RInv.turnD {T:Type} {lo:Nat} {w w':World} {e:TypeId} {sz:Nat} {enc:T→List Value} {ok:World→T→Prop} {see:T→Nat→Prop} {A:Option Addr} {c:Nat} {out:List T} {F:Nat→Prop} (E:ElOk ok see) (h:RInv lo w e sz enc ok see A c out) (t:Turn F w w')
  (hA:∀ i,F i→slBlk A≠some i) (hx:∀ x∈out,∀ i,F i→¬ see x i):RInv lo w' e sz enc ok see A c out :=
 ⟨h.own.turn (fun i hi hl=>t.block i hl (fun hf=>hA i hf hi)),fun x hm=>⟨E.frame _ _ x (h.el x hm).1 (fun i hi=>t.block i (E.lt _ x i (h.el x hm).1 hi) (fun hf=>hx x hm i hf hi)) t.size,(h.el x hm).2⟩⟩
structure TL (lo:Nat) (wL wx:World) (N:NetL) (p:Prof) (L:List EvM) (J:JL) (k:Nat) (A:Option Addr) (c:Nat) (xs:List EvL):Prop where
 j:JAt lo wx N (stAt p L k) J (locF (stAt p L k).pairs)
 inv:RInv 0 wx 40 12 EvL.cs (fun w x=>EvLOk w w.heap.size x) EvL.real A c xs
 eq:evsL xs=(List.range k).map (fun i=>(shAt p L i).2.1)
 fr:∀ i,slBlk A=some i→wL.heap.size≤i
 sep:∀ i,J.own i→slBlk A≠some i∧∀ x∈xs,¬ x.real i
 hb:Below lo wL wx
 ok:∀ i,i<k→(shAt p L i).1=0
theorem TL.len {lo:Nat} {wL wx:World} {N:NetL} {p:Prof} {L:List EvM} {J:JL} {k:Nat} {A:Option Addr} {c:Nat} {xs:List EvL} (h:TL lo wL wx N p L J k A c xs):xs.length=k:=by
 have:=congrArg List.length h.eq
 simpa using this
theorem TL.push {lo:Nat} {wL wx w4 w5 w6:World} {N:NetL} {p:Prof} {L:List EvM} {J J3:JL} {k:Nat} {A A2:Option Addr} {c c2:Nat} {xs:List EvL} {y:EvL} (h:TL lo wL wx N p L J k A c xs) (hlL:lo≤wL.heap.size) (hN:∀ i,N.at_ i→i<wL.heap.size) (h0:(shAt p L k).1=0) (hy:y.ev=(shAt p L k).2.1)
  (hj:JAt lo w4 N (stAt p L (k+1)) J3 (locF (stAt p L (k+1)).pairs)) (ht:Turn J.own wx w4) (ho:∀ i,J3.own i→J.own i∨wx.heap.size≤i) (hyo:EvLOk w4 w4.heap.size y) (hyr:∀ i,y.real i→N.at_ i∨(wx.heap.size≤i∧¬ J3.own i)) (hb4:Below w4.heap.size w4 w5) (o:Obj)
  (hown:OwnL w6 0 40 12 EvL.cs A2 c2 (xs++[y])) (hg:(w5.alloc o).grownBy w6 (slBlk A)) (hat:slBlk A2=slBlk A∨slBlk A2=some (w5.alloc o).heap.size):TL lo wL w6 N p L J3 (k+1) A2 c2 (xs++[y]):=by
 have hAx:∀ i,slBlk A=some i→i<wx.heap.size:=fun i hi=>(h.inv.own.blk_lt hi).2
 have hs4:=ht.size
 have hs5:=hb4.size
 have hs6:=hg.size
 have hsa:(w5.alloc o).heap.size=w5.heap.size+1:=by simp
 have hAJ:∀ i,J3.own i→slBlk A≠some i:=fun i hi e=>by
  rcases ho i hi with h1 | h1
  ·exact (h.sep i h1).1 e
  ·have:=hAx i e
   omega
 have hA2:∀ i,slBlk A2=some i→slBlk A=some i∨w5.heap.size<i:=fun i hi=>by
  rcases hat with e | e
  ·exact .inl (by rw [← e];exact hi)
  ·rw [hi] at e
   have:=Option.some.inj e
   exact .inr (by omega)
 have t6:Turn (fun i=>slBlk A=some i) w4 w6:=((Turn.below (F:=fun i=>slBlk A=some i) hb4).alloc o).trans (Turn.grown hg (fun k hk=>hk)) (fun i hi=>.inl hi)
 have inv4:=h.inv.turnD elE2 ht (fun i hi=>(h.sep i hi).1) (fun x hx i hi=>(h.sep i hi).2 x hx)
 have inv5:=inv4.below elE2 hb4
 have hlo:∀ i,J.own i→lo≤i:=by
  rintro i (e | e | e | e)
  ·rw [e];exact h.j.lo.1
  ·rw [e];exact h.j.lo.2.1
  ·rw [e];exact h.j.lo.2.2
  ·exact (h.j.prs.blk_lt e).1
 have hyA:∀ i,y.real i→slBlk A≠some i:=fun i hi e=>by
  rcases hyr i hi with h1 | h1
  ·have:=hN i h1
   have:=h.fr i e
   omega
  ·have:=hAx i e
   omega
 refine ⟨hj.turn t6 (fun i hi=>⟨fun e=>hAJ i e hi,fun e=>by have:=hN i e;have:=h.fr i hi;omega⟩),inv5.push elE2 (hyo.frame (fun i hi=>hb4.block i (hyo.lt hi)) hs5) (fun i hi=>⟨Nat.zero_le _,hyA i hi⟩) o hown hg hat,?_,fun i hi=>?_,fun i hi=>⟨fun e=>?_,fun x hx hr=>?_⟩,?_,fun i hi=>?_⟩
 ·rw [evsL,List.map_append,List.map_singleton,List.range_succ,List.map_append,← h.eq,List.map_singleton,hy]
 ·rcases hA2 i hi with e | e
  ·exact h.fr i e
  ·have:=h.hb.size
   omega
 ·rcases hA2 i e with e2 | e2
  ·exact hAJ i hi e2
  ·have:=hj.lt i hi
   omega
 ·rcases List.mem_append.1 hx with hx | hx
  ·rcases ho i hi with h1 | h1
   ·exact (h.sep i h1).2 x hx hr
   ·have:=(h.inv.el x hx).1.lt hr
    omega
  ·rw [List.mem_singleton] at hx
   subst hx
   rcases hyr i hr with h1 | h1
   ·exact hj.sep i h1 hi
   ·exact h1.2 hi
 ·have b4:Below lo wx w4:=ht.to_below (Nat.le_trans h.j.lo.1 (Nat.le_of_lt (box_lt h.j.box))) hlo
  have b6:Below lo w4 w6:=t6.to_below (Nat.le_trans hj.lo.1 (Nat.le_of_lt (box_lt hj.box))) (fun i hi=>Nat.le_trans hlL (h.fr i hi))
  exact (h.hb.trans b4).trans b6
 ·by_cases hk:i=k
  ·rw [hk];exact h0
  ·exact h.ok i (by omega)
def TripOut (r:Int × List EvM × List Loss) (w:World) (en:Ending) (w':World):Prop :=
 ∃ (A:Option Addr) (c:Nat) (xs:List EvL) (A2:Option Addr) (c2:Nat),en=.returned (.tuple #[.slice A xs.length c,.slice A2 r.2.2.length c2,.int .i64 r.1])∧evsL xs=r.2.1∧RdL 12 EvL.cs w' w'.heap.size A xs∧(∀ x∈xs,EvLOk w' w'.heap.size x)∧RdL 3 lossC w' w'.heap.size A2 r.2.2∧Below w.heap.size w w'
def TripOut2 (r:Int × List EvM × List Loss) (w:World) (en:Ending) (w':World):Prop :=
 ∃ (A:Option Addr) (c:Nat) (xs:List EvL) (A2:Option Addr) (c2:Nat),en=.returned (.tuple #[.slice A xs.length c,.slice A2 r.2.2.length c2,.int .i64 r.1])∧evsL xs=r.2.1∧RdL 12 EvL.cs w' w'.heap.size A xs∧(∀ x∈xs,EvLOk w' w'.heap.size x)∧RdL 3 lossC w' w'.heap.size A2 r.2.2∧Below w.heap.size w w'∧xs.length≤c
theorem TripOut2.one {r:Int × List EvM × List Loss} {w w':World} {en:Ending} (h:TripOut2 r w en w'):TripOut r w en w':=by
 obtain ⟨A,c,xs,A2,c2,h1,h2,h3,h4,h5,h6,_⟩:=h
 exact ⟨A,c,xs,A2,c2,h1,h2,h3,h4,h5,h6⟩
/- Contract of Trip of package trip (layer 24). -/
/- lingualaw24's small. -/
theorem RdL.base {T:Type} {sz:Nat} {enc:T→List Value} {w:World} {B:Nat} {A:Option Addr} {xs:List T} (h:RdL sz enc w B A xs) (hx:xs≠[]) :
  ∃ g off,A=some ⟨g,off,none⟩∧g<B∧∀ k x,xs[k]?=some x→∀ j v,(enc x)[j]?=some v→w.cell? ⟨g,off+k * sz+j,none⟩=some v:=by
 obtain ⟨g,off,hA,hg,_⟩:=h.at_ (k:=0) (List.length_pos_iff.2 hx)
 refine ⟨g,off,hA,hg,fun k x hk j v hj=>?_⟩
 obtain ⟨hkl,rfl⟩:=List.getElem?_eq_some_iff.1 hk
 obtain ⟨g2,off2,hA2,_,hc⟩:=h.at_ hkl
 rw [hA] at hA2
 injection hA2 with hA2
 injection hA2 with e1 e2
 subst e1 e2
 exact hc j v hj
/- The head of the laws of layer 24 (bounds,profile.Check),and ways,certificate and journey behind it. -/
end Go.Proofs.YtlnnjdibkbabiaaGreatDoor
