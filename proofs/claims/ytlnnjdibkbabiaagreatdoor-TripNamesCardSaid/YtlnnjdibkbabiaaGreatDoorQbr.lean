/- Contracts and plain laws, joined: TjG, TjH, TlG, TlI. -/
import Derived.Test.YtlnnjdibkbabiaaGreatDoorQbq
import Derived.Test.YtlnnjdibkbabiaaGreatDoorQbh
import Derived.Test.YtlnnjdibkbabiaaGreatDoorQbk
import Derived.Test.YtlnnjdibkbabiaaGreatDoorQbl
/- Lemmas for Trip (layer 24): a journey is made by three operations in any order;errors. -/
set_option linter.unusedSimpArgs false
set_option linter.unusedVariables false
namespace Go.Proofs.YtlnnjdibkbabiaaGreatDoor
set_option maxHeartbeats 4000000
open _root_.Go.Lib (hid)
open Go.RowKit
set_option maxRecDepth 100000
section
variable {P:Program} {ops:Array Oper} {Q:Exit→Act→World→Prop} {md:Region.Mode} {S:World→Prop} {late:Nat→Bool}
theorem wpAnyJ_three {i j l:Nat} {o o2 o3:Oper} {fuel:Nat} {listed:Array Bool} {a:Act} {w:World} (ho:ops[i]?=some o) (ho2:ops[j]?=some o2) (ho3:ops[l]?=some o3) (hr:Region.ready md ops listed=[i,j,l])
  (h:∀ K':Act→World→Prop,Shut (∀ a w',(late i=false→S w→S w')→wpAnyJ P md ops Q S late fuel (listed.setIfInBounds i true) a w'→K' a w')→if Region.wanted o (yielded ops a.tmps)=true then Oper.wp P o a w K' Q else K' (a.put o.dst undef) w)
  (h2:∀ K':Act→World→Prop,Shut (∀ a w',(late j=false→S w→S w')→wpAnyJ P md ops Q S late fuel (listed.setIfInBounds j true) a w'→K' a w')→if Region.wanted o2 (yielded ops a.tmps)=true then Oper.wp P o2 a w K' Q else K' (a.put o2.dst undef) w)
  (h3:∀ K':Act→World→Prop,Shut (∀ a w',(late l=false→S w→S w')→wpAnyJ P md ops Q S late fuel (listed.setIfInBounds l true) a w'→K' a w')→if Region.wanted o3 (yielded ops a.tmps)=true then Oper.wp P o3 a w K' Q else K' (a.put o3.dst undef) w) :
  wpAnyJ P md ops Q S late (fuel+1) listed a w:=by
 refine ⟨fun h0=>absurd (hr ▸ h0) (by simp),fun k hk=>?_⟩
 rw [hr] at hk
 have hk2:k=i∨k=j∨k=l:=by simpa using hk
 rcases hk2 with rfl | rfl | rfl
 ·exact wpOp_step ho (fun K' hK=>h K' (fun a w' hS hW=>hK a w' ⟨hS,hW⟩))
 ·exact wpOp_step ho2 (fun K' hK=>h2 K' (fun a w' hS hW=>hK a w' ⟨hS,hW⟩))
 ·exact wpOp_step ho3 (fun K' hK=>h3 K' (fun a w' hS hW=>hK a w' ⟨hS,hW⟩))
end
structure A9 (w0 w:World) (L:List EvM) (l u:Option Nat) (x:Option (Option Addr × Nat × List EvL)):Prop where
 hb:Below w0.heap.size w0 w
 ml:∀ b,l=some b→w0.heap.size≤b∧MapF w b okP kvP (Value.int .i64) (fun _=>none)
 mu:∀ b,u=some b→w0.heap.size≤b∧MapF w b InInt (Value.int .i64) Value.bool (fun _=>none)
 ne:∀ b c,l=some b→u=some c→b≠c
 ev:∀ A c xs,x=some (A,c,xs)→evsL xs=L∧RInv w0.heap.size w 40 12 EvL.cs okEv EvL.at_ A c xs∧∀ i,(slBlk A=some i∨∃ y∈xs,y.at_ i)→l≠some i∧u≠some i
theorem RInv.below {T:Type} {lo:Nat} {w w':World} {e:TypeId} {sz:Nat} {enc:T→List Value} {ok:World→T→Prop} {see:T→Nat→Prop} {A:Option Addr} {c:Nat} {out:List T} (E:ElOk ok see) (h:RInv lo w e sz enc ok see A c out) (hb:Below w.heap.size w w'):RInv lo w' e sz enc ok see A c out :=
 h.turn E (Turn.below (F:=fun _=>False) hb) (fun _ hf=>hf.elim)
theorem RInv.lts {lo:Nat} {w:World} {A:Option Addr} {c:Nat} {xs:List EvL} (h:RInv lo w 40 12 EvL.cs okEv EvL.at_ A c xs) {i:Nat} (hi:slBlk A=some i∨∃ y∈xs,y.at_ i):i<w.heap.size:=by
 rcases hi with hi | ⟨y,hy,hi⟩
 ·exact (h.own.blk_lt hi).2
 ·exact (h.el y hy).1.2 i hi
section
variable {w0 w w':World} {L:List EvM} {l u:Option Nat} {x:Option (Option Addr × Nat × List EvL)}
theorem A9.start (w:World) (L:List EvM):A9 w w.drew L none none none :=
 ⟨(Below.refl _ _).drew,fun b hb=>(nomatch hb),fun b hb=>(nomatch hb),fun b c hb=>(nomatch hb),fun A c xs hx=>(nomatch hx)⟩
theorem A9.m1 (h:A9 w0 w L none u x):A9 w0 (w.alloc (.map #[] 0)) L (some w.heap.size) u x:=by
 have hb1:Below w.heap.size w (w.alloc (.map #[] 0)):=(Below.refl _ _).alloc (Nat.le_refl _) _
 refine ⟨h.hb.alloc h.hb.size _,fun b hb=>?_,fun b hb=>⟨(h.mu b hb).1,(h.mu b hb).2.of_block (hb1.block _ (h.mu b hb).2.lt)⟩,fun b c hb hc=>?_,fun A c xs hx=>?_⟩
 ·obtain rfl:=Option.some.inj hb
  exact ⟨h.hb.size,MapF.new w⟩
 ·obtain rfl:=Option.some.inj hb
  have:=(h.mu c hc).2.lt
  omega
 ·obtain ⟨h1,h2,h3⟩:=h.ev A c xs hx
  refine ⟨h1,h2.below elEv hb1,fun i hi=>⟨fun e=>?_,(h3 i hi).2⟩⟩
  have:=h2.lts hi
  have:=Option.some.inj e
  omega
theorem A9.m2 (h:A9 w0 w L l none x):A9 w0 (w.alloc (.map #[] 0)) L l (some w.heap.size) x:=by
 have hb1:Below w.heap.size w (w.alloc (.map #[] 0)):=(Below.refl _ _).alloc (Nat.le_refl _) _
 refine ⟨h.hb.alloc h.hb.size _,fun b hb=>⟨(h.ml b hb).1,(h.ml b hb).2.of_block (hb1.block _ (h.ml b hb).2.lt)⟩,fun b hb=>?_,fun b c hb hc=>?_,fun A c xs hx=>?_⟩
 ·obtain rfl:=Option.some.inj hb
  exact ⟨h.hb.size,MapF.new w⟩
 ·obtain rfl:=Option.some.inj hc
  have:=(h.ml b hb).2.lt
  omega
 ·obtain ⟨h1,h2,h3⟩:=h.ev A c xs hx
  refine ⟨h1,h2.below elEv hb1,fun i hi=>⟨(h3 i hi).1,fun e=>?_⟩⟩
  have:=h2.lts hi
  have:=Option.some.inj e
  omega
theorem A9.all (h:A9 w0 w L l u none) {A:Option Addr} {c:Nat} {xs:List EvL} (hx:evsL xs=L) (hr:RInv w.heap.size w' 40 12 EvL.cs okEv EvL.at_ A c xs) (hb1:Below w.heap.size w w'):A9 w0 w' L l u (some (A,c,xs)):=by
 refine ⟨h.hb.trans (hb1.mono h.hb.size),fun b hb=>⟨(h.ml b hb).1,(h.ml b hb).2.of_block (hb1.block _ (h.ml b hb).2.lt)⟩,fun b hb=>⟨(h.mu b hb).1,(h.mu b hb).2.of_block (hb1.block _ (h.mu b hb).2.lt)⟩,h.ne,fun A2 c2 xs2 hx2=>?_⟩
 injection hx2 with hx2
 injection hx2 with e1 e2
 injection e2 with e2 e3
 subst e1 e2 e3
 have hlo:∀ i,(slBlk A=some i∨∃ y∈xs,y.at_ i)→w.heap.size≤i:=by
  rintro i (hi | ⟨y,hy,hi⟩)
  ·exact (hr.own.blk_lt hi).1
  ·exact ((hr.el y hy).2 i hi).1
 refine ⟨hx,⟨hr.own.mono h.hb.size,fun y hy=>⟨(hr.el y hy).1,fun i hi=>⟨Nat.le_trans h.hb.size ((hr.el y hy).2 i hi).1,((hr.el y hy).2 i hi).2⟩⟩⟩,fun i hi=>⟨fun e=>?_,fun e=>?_⟩⟩
 ·have:=(h.ml i e).2.lt
  have:=hlo i hi
  omega
 ·have:=(h.mu i e).2.lt
  have:=hlo i hi
  omega
end
theorem run_j (ρ:Operand→Value) (o:Oper) (w:World) (p:Prof) (pA wA eA:Option Addr) (pc wn wc en ec lb ub:Nat)
  (ho:o.op=.build 108 #[(0,.tmp 38),(1,.tmp 39),(2,.tmp 41),(4,.tmp 42),(5,.tmp 43)])
  (h38:ρ (.tmp 38)=.agg (p.cs pA pc)) (h39:ρ (.tmp 39)=.slice wA wn wc) (h41:ρ (.tmp 41)=.slice eA en ec) (h42:ρ (.tmp 42)=.map (some lb)) (h43:ρ (.tmp 43)=.map (some ub)) :
  (execOp ρ o).run Tryz.prog w=.ok (.value (.agg #[.string p.name,.int .i64 p.edit,.int .i64 p.within_,.int .i64 p.delete,.bool p.react,.int .i64 p.thread,.bool p.quote,.bool p.mention,.int .i64 p.size,.int .i64 p.parts,.int .i64 p.files,.int .i64 p.bytes,
 .slice pA p.types.length pc,.int .i64 p.join,.int .i64 p.history,.int .i64 p.remove,.int .i64 p.level,.bool p.batch,.int .i64 p.rate,.int .i64 p.down,.int .i64 p.window,.int .i64 p.keep,
 .slice wA wn wc,.slice eA en ec,.slice none 0 0,.map (some lb),.map (some ub)])) w:=by
 unfold execOp
 simp only [ho]
 go_simp
theorem tripGo_err (p:Prof) (E:List EvM) (j:Nat) (hj:(shAt p E j).1≠0):∀ (n k:Nat) (out:List EvM),k≤j→j<k+n→(∀ i,i<j→(shAt p E i).1=0) →
  (tripGo p (wayL p) E (List.range' k n) (stAt p E k) out).1=(shAt p E j).1
 | 0,k,out,h1,h2,_=>by omega
 | n+1,k,out,h1,h2,h3=>by
  rw [List.range'_succ,tripGo]
  by_cases hk:k=j
  ·subst hk
   rw [if_pos hj]
  ·rw [if_neg (by simpa using h3 k (by omega))]
   exact tripGo_err p E j hj n (k+1) _ (by omega) (by omega) h3
theorem tripR_err {p:Prof} {E:List EvM} {j:Nat} (hl:j<E.length) (hj:(shAt p E j).1≠0) (h:∀ i,i<j→(shAt p E i).1=0):(tripR p E).1=(shAt p E j).1:=by
 unfold tripR
 rw [List.range_eq_range']
 exact tripGo_err p E j hj E.length 0 [] (Nat.zero_le _) (by omega) h
theorem pairs_bound (p:Prof) (hp:profCheck p=0) (E:List EvM):∀ n:Nat,(stAt p E n).pairs.length≤n * 20
 | 0=>by simp [stAt,st0]
 | n+1=>by
  have ih:=pairs_bound p hp E n
  have h1:=pairsP_len n (allP p (wayL p) E [] n) (stAt p E n).pairs.length
  have h2:=all_count (p:=p) hp (E:=E) (id:=n)
  rw [pairs_step]
  unfold newPairs
  rw [List.length_append]
  omega
theorem RInv.turnD {T:Type} {lo:Nat} {w w':World} {e:TypeId} {sz:Nat} {enc:T→List Value} {ok:World→T→Prop} {see:T→Nat→Prop} {A:Option Addr} {c:Nat} {out:List T} {F:Nat→Prop} (E:ElOk ok see) (h:RInv lo w e sz enc ok see A c out) (t:Turn F w w')
  (hA:∀ i,F i→slBlk A≠some i) (hx:∀ x∈out,∀ i,F i→¬ see x i):RInv lo w' e sz enc ok see A c out :=
 ⟨h.own.turn (fun i hi hl=>t.block i hl (fun hf=>hA i hf hi)),fun x hm=>⟨E.frame _ _ x (h.el x hm).1 (fun i hi=>t.block i (E.lt _ x i (h.el x hm).1 hi) (fun hf=>hx x hm i hf hi)) t.size,(h.el x hm).2⟩⟩
structure TL (lo:Nat) (wL wx:World) (N:NetL) (p:Prof) (L:List EvM) (J:JL) (k:Nat) (A:Option Addr) (c:Nat) (xs:List EvL):Prop where
 j:JAt lo wx N (stAt p L k) J (locF (stAt p L k).pairs)
 inv:RInv 0 wx 40 12 EvL.cs (fun w x=>EvLOk w w.heap.size x) EvL.real A c xs
 eq:evsL xs=(List.range k).map (fun i=>(shAt p L i).2.1)
 fr:∀ i,slBlk A=some i→wL.heap.size≤i
 sep:∀ i,J.own i→slBlk A≠some i∧∀ x∈xs,¬ x.real i
 hb:Below lo wL wx
 ok:∀ i,i<k→(shAt p L i).1=0
theorem TL.len {lo:Nat} {wL wx:World} {N:NetL} {p:Prof} {L:List EvM} {J:JL} {k:Nat} {A:Option Addr} {c:Nat} {xs:List EvL} (h:TL lo wL wx N p L J k A c xs):xs.length=k:=by
 have:=congrArg List.length h.eq
 simpa using this
theorem TL.push {lo:Nat} {wL wx w4 w5 w6:World} {N:NetL} {p:Prof} {L:List EvM} {J J3:JL} {k:Nat} {A A2:Option Addr} {c c2:Nat} {xs:List EvL} {y:EvL} (h:TL lo wL wx N p L J k A c xs) (hlL:lo≤wL.heap.size) (hN:∀ i,N.at_ i→i<wL.heap.size) (h0:(shAt p L k).1=0) (hy:y.ev=(shAt p L k).2.1)
  (hj:JAt lo w4 N (stAt p L (k+1)) J3 (locF (stAt p L (k+1)).pairs)) (ht:Turn J.own wx w4) (ho:∀ i,J3.own i→J.own i∨wx.heap.size≤i) (hyo:EvLOk w4 w4.heap.size y) (hyr:∀ i,y.real i→N.at_ i∨(wx.heap.size≤i∧¬ J3.own i)) (hb4:Below w4.heap.size w4 w5) (o:Obj)
  (hown:OwnL w6 0 40 12 EvL.cs A2 c2 (xs++[y])) (hg:(w5.alloc o).grownBy w6 (slBlk A)) (hat:slBlk A2=slBlk A∨slBlk A2=some (w5.alloc o).heap.size):TL lo wL w6 N p L J3 (k+1) A2 c2 (xs++[y]):=by
 have hAx:∀ i,slBlk A=some i→i<wx.heap.size:=fun i hi=>(h.inv.own.blk_lt hi).2
 have hs4:=ht.size
 have hs5:=hb4.size
 have hs6:=hg.size
 have hsa:(w5.alloc o).heap.size=w5.heap.size+1:=by simp
 have hAJ:∀ i,J3.own i→slBlk A≠some i:=fun i hi e=>by
  rcases ho i hi with h1 | h1
  ·exact (h.sep i h1).1 e
  ·have:=hAx i e
   omega
 have hA2:∀ i,slBlk A2=some i→slBlk A=some i∨w5.heap.size<i:=fun i hi=>by
  rcases hat with e | e
  ·exact .inl (by rw [← e];exact hi)
  ·rw [hi] at e
   have:=Option.some.inj e
   exact .inr (by omega)
 have t6:Turn (fun i=>slBlk A=some i) w4 w6:=((Turn.below (F:=fun i=>slBlk A=some i) hb4).alloc o).trans (Turn.grown hg (fun k hk=>hk)) (fun i hi=>.inl hi)
 have inv4:=h.inv.turnD elE2 ht (fun i hi=>(h.sep i hi).1) (fun x hx i hi=>(h.sep i hi).2 x hx)
 have inv5:=inv4.below elE2 hb4
 have hlo:∀ i,J.own i→lo≤i:=by
  rintro i (e | e | e | e)
  ·rw [e];exact h.j.lo.1
  ·rw [e];exact h.j.lo.2.1
  ·rw [e];exact h.j.lo.2.2
  ·exact (h.j.prs.blk_lt e).1
 have hyA:∀ i,y.real i→slBlk A≠some i:=fun i hi e=>by
  rcases hyr i hi with h1 | h1
  ·have:=hN i h1
   have:=h.fr i e
   omega
  ·have:=hAx i e
   omega
 refine ⟨hj.turn t6 (fun i hi=>⟨fun e=>hAJ i e hi,fun e=>by have:=hN i e;have:=h.fr i hi;omega⟩),inv5.push elE2 (hyo.frame (fun i hi=>hb4.block i (hyo.lt hi)) hs5) (fun i hi=>⟨Nat.zero_le _,hyA i hi⟩) o hown hg hat,?_,fun i hi=>?_,fun i hi=>⟨fun e=>?_,fun x hx hr=>?_⟩,?_,fun i hi=>?_⟩
 ·rw [evsL,List.map_append,List.map_singleton,List.range_succ,List.map_append,← h.eq,List.map_singleton,hy]
 ·rcases hA2 i hi with e | e
  ·exact h.fr i e
  ·have:=h.hb.size
   omega
 ·rcases hA2 i e with e2 | e2
  ·exact hAJ i hi e2
  ·have:=hj.lt i hi
   omega
 ·rcases List.mem_append.1 hx with hx | hx
  ·rcases ho i hi with h1 | h1
   ·exact (h.sep i h1).2 x hx hr
   ·have:=(h.inv.el x hx).1.lt hr
    omega
  ·rw [List.mem_singleton] at hx
   subst hx
   rcases hyr i hr with h1 | h1
   ·exact hj.sep i h1 hi
   ·exact h1.2 hi
 ·have b4:Below lo wx w4:=ht.to_below (Nat.le_trans h.j.lo.1 (Nat.le_of_lt (box_lt h.j.box))) hlo
  have b6:Below lo w4 w6:=t6.to_below (Nat.le_trans hj.lo.1 (Nat.le_of_lt (box_lt hj.box))) (fun i hi=>Nat.le_trans hlL (h.fr i hi))
  exact (h.hb.trans b4).trans b6
 ·by_cases hk:i=k
  ·rw [hk];exact h0
  ·exact h.ok i (by omega)
theorem certGo_len:∀ (W:List (Int × Int)) (i:Int),(certGo i W).length≤W.length
 | [],_=>by simp [certGo]
 | x::r,i=>by
  have:=certGo_len r (i+1)
  unfold certGo
  split
  ·simp;omega
  ·simp;omega
theorem certGo_in:∀ (W:List (Int × Int)) (i:Int),0≤i→∀ x∈certGo i W,0≤x.1∧x.1<i+W.length
 | [],_,_,x,hx=>by simp [certGo] at hx
 | y::r,i,h,x,hx=>by
  have ih:=certGo_in r (i+1) (by omega) x
  unfold certGo at hx
  split at hx
  ·rcases List.mem_cons.1 hx with rfl | hx
   ·simp;omega
   ·have:=ih hx
    simp;omega
  ·have:=ih hx
   simp;omega
def TripOut (r:Int × List EvM × List Loss) (w:World) (en:Ending) (w':World):Prop :=
 ∃ (A:Option Addr) (c:Nat) (xs:List EvL) (A2:Option Addr) (c2:Nat),en=.returned (.tuple #[.slice A xs.length c,.slice A2 r.2.2.length c2,.int .i64 r.1])∧evsL xs=r.2.1∧RdL 12 EvL.cs w' w'.heap.size A xs∧(∀ x∈xs,EvLOk w' w'.heap.size x)∧RdL 3 lossC w' w'.heap.size A2 r.2.2∧Below w.heap.size w w'
def TripOut2 (r:Int × List EvM × List Loss) (w:World) (en:Ending) (w':World):Prop :=
 ∃ (A:Option Addr) (c:Nat) (xs:List EvL) (A2:Option Addr) (c2:Nat),en=.returned (.tuple #[.slice A xs.length c,.slice A2 r.2.2.length c2,.int .i64 r.1])∧evsL xs=r.2.1∧RdL 12 EvL.cs w' w'.heap.size A xs∧(∀ x∈xs,EvLOk w' w'.heap.size x)∧RdL 3 lossC w' w'.heap.size A2 r.2.2∧Below w.heap.size w w'∧xs.length≤c
theorem TripOut2.one {r:Int × List EvM × List Loss} {w w':World} {en:Ending} (h:TripOut2 r w en w'):TripOut r w en w':=by
 obtain ⟨A,c,xs,A2,c2,h1,h2,h3,h4,h5,h6,_⟩:=h
 exact ⟨A,c,xs,A2,c2,h1,h2,h3,h4,h5,h6⟩
theorem tripOut_err {r:Int × List EvM × List Loss} {w w':World} {n:Int} (hr:r=(n,[],[])) (hb:Below w.heap.size w w'):TripOut2 r w (.returned (.tuple #[.slice none 0 0,.slice none 0 0,.int .i64 n])) w':=by
 subst hr
 exact ⟨none,0,[],none,0,rfl,rfl,RdL.nil_,fun x hx=>(nomatch hx),RdL.nil_,hb,Nat.le_refl _⟩
/- Contract of Trip of package trip (layer 24). -/
def J9 (p:Prof) (pA:Option Addr) (pc:Nat) (L:List EvM) (w wx:World) (v:Value):Prop :=
 ∃ (N:NetL) (J:JL),v=.pointer (some ⟨J.jb,0,none⟩)∧N.p=p∧N.pA=pA∧N.pc=pc∧N.W=wayL p∧evsL N.E=L∧N.B=[]∧N.bA=none∧N.bc=0∧JAt w.heap.size wx N st0 J (locF [])∧Below w.heap.size w wx∧RdL 2 wayC wx wx.heap.size N.wA N.W
theorem j9_of {p:Prof} {pA wA aA:Option Addr} {pc wc aC lb ub lb' ub' q:Nat} {L:List EvM} {xs:List EvL} {w wq wx:World} (h:A9 w wq L (some lb) (some ub) (some (aA,aC,xs))) (hp:ProfOk w w.heap.size pA p) (hw:RdL 2 wayC w w.heap.size wA (wayL p)) (hck:profCheck p=0) (ho:openC L=0) (hl:L.length≤200)
  (e1:lb'=lb) (e2:ub'=ub) (e3:q=wq.heap.size) (hx:wx=wq.alloc (.cells (jcs ⟨p,pA,pc,wayL p,wA,wc,xs,aA,aC,[],none,0⟩ none 0 0 lb' ub') 108)):J9 p pA pc L w wx (.pointer (some ⟨q,0,none⟩)):=by
 subst hx e1 e2 e3
 obtain ⟨hxe,hri,hne⟩:=h.ev aA aC xs rfl
 obtain ⟨hl1,hm1⟩:=h.ml lb' rfl
 obtain ⟨hl2,hm2⟩:=h.mu ub' rfl
 have hlu:=h.ne lb' ub' rfl rfl
 have hb1:Below wq.heap.size wq (wq.alloc (.cells (jcs ⟨p,pA,pc,wayL p,wA,wc,xs,aA,aC,[],none,0⟩ none 0 0 lb' ub') 108)):=(Below.refl _ _).alloc (Nat.le_refl _) _
 have hB:Below w.heap.size w (wq.alloc (.cells (jcs ⟨p,pA,pc,wayL p,wA,wc,xs,aA,aC,[],none,0⟩ none 0 0 lb' ub') 108)):=h.hb.alloc h.hb.size _
 have hri2:=hri.below elEv hb1
 have h1:=hm1.lt
 have h2:=hm2.lt
 have hs:=h.hb.size
 have hxl:xs.length=L.length:=by rw [← hxe];simp
 have hat:∀ i,(⟨p,pA,pc,wayL p,wA,wc,xs,aA,aC,[],none,0⟩:NetL).at_ i→i<wq.heap.size∧i≠lb'∧i≠ub':=by
  have old:∀ i,i<w.heap.size→i<wq.heap.size∧i≠lb'∧i≠ub':=fun i hi=>⟨by omega,by omega,by omega⟩
  have new:∀ i,(slBlk aA=some i∨∃ y∈xs,y.at_ i)→i<wq.heap.size∧i≠lb'∧i≠ub':=fun i hi=>⟨hri.lts hi,fun e=>(hne i hi).1 (by rw [e]),fun e=>(hne i hi).2 (by rw [e])⟩
  rintro i (⟨hi,hn⟩ | hi | hi | ⟨_,hn⟩ | hi)
  ·obtain ⟨g9,o9,e9,h9,_⟩:=RdL.at_ hp.rd (List.length_pos_iff.2 hn)
   rw [e9] at hi
   obtain rfl:g9=i:=Option.some.inj hi
   exact old _ h9
  ·obtain ⟨g9,o9,e9,h9,_⟩:=hw.at_ (k:=0) (by show 0<9;omega)
   have hi:slBlk wA=some i:=hi
   rw [e9] at hi
   obtain rfl:g9=i:=Option.some.inj hi
   exact old _ h9
  ·exact new i (.inl hi)
  ·exact absurd rfl hn
  ·exact new i (.inr hi)
 have hown:∀ i,(⟨wq.heap.size,none,0,lb',ub'⟩:JL).own i→i=wq.heap.size∨i=lb'∨i=ub':=by
  rintro i (e | e | e | e)
  ·exact .inl e
  ·exact .inr (.inl e)
  ·exact .inr (.inr e)
  ·cases e
 refine ⟨⟨p,pA,pc,wayL p,wA,wc,xs,aA,aC,[],none,0⟩,⟨wq.heap.size,none,0,lb',ub'⟩,rfl,rfl,rfl,rfl,rfl,hxe,rfl,rfl,rfl,⟨(MapKept.heap_alloc wq _).1,OwnL.nil_,?_,?_,⟨hp.now hB,hw.now hB,hri2.own.rd layEvL,fun x hx=>(hri2.el x hx).1.1,RdL.nil_,rfl,by show xs.length≤1000;omega,by simp,fun x hx=>?_,hck⟩,fun i hi ho=>?_,⟨?_,?_,hlu⟩,⟨fun e=>(nomatch e),fun e=>(nomatch e),fun e=>(nomatch e)⟩,⟨hs,hl1,hl2⟩,fun i hi=>?_⟩,hB,hw.now hB⟩
 ·have e1:locF []=fun _=>none:=by funext k;simp [locF]
  rw [e1]
  exact hm1.of_block (hb1.block _ h1)
 ·exact hm2.of_block (hb1.block _ h2)
 ·have hm:x.ev∈L:=by rw [← hxe];exact List.mem_map_of_mem hx
  obtain ⟨i,hi,hie⟩:=List.getElem_of_mem hm
  have:=(conv_at ho hi).right
  rw [evAt_lt hi,hie] at this
  exact this
 ·have:=hat i hi
  rcases hown i ho with e | e | e <;> omega
 ·show wq.heap.size≠lb'
  omega
 ·show wq.heap.size≠ub'
  omega
 ·have:=(hat i hi).1
  simp
  omega
theorem trip_any2 {B:Nat} (p:Prof) (pA:Option Addr) (pc:Nat) (E:List EvL) (eA:Option Addr) (ec:Nat) (w:World) (hV:Vs B w) (hp:ProfOk w w.heap.size pA p) (hpc:p.types.length≤pc) (hr:RdL 12 EvL.cs w w.heap.size eA E) (he:∀ x∈E,EvLOk w w.heap.size x) (hl:E.length≤1000000) :
  Calls Tryz.prog 24 #[p.v pA pc,.slice eA E.length ec] w (TripOut2 (tripP p (evsL E)) w):=by
 have hb1:Below w.heap.size w (w.alloc (.cells (p.cs pA pc) 24)):=(Below.refl _ _).alloc (Nat.le_refl _) _
 have HRg:Hid (∀ wq,Below (w.alloc (.cells (p.cs pA pc) 24)).heap.size (w.alloc (.cells (p.cs pA pc) 24)) wq→wq.rangeAt w.heap.size 0 (p.cs pA pc).toList):=hid (fun wq hq=>boxRange w (p.cs pA pc) 24 hq)
 have HV:=hid (hV.now hb1)
 have HP:=hid (hp.now hb1)
 have HR:=hid (hr.now hb1)
 have HE:Hid (∀ x∈E,EvLOk (w.alloc (.cells (p.cs pA pc) 24)) (w.alloc (.cells (p.cs pA pc) 24)).heap.size x):=hid (fun x hx=>(he x hx).now hb1)
 have HB:=hid hb1
 have HQ0:Hid (profCheck p≠0→tripP p (evsL E)=(profCheck p,[],[])):=hid (fun h=>by unfold tripP;rw [if_pos h])
 have HQ1:Hid (profCheck p=0→200<E.length→tripP p (evsL E)=(6,[],[])):=hid (fun h h2=>by unfold tripP;rw [if_neg (by simpa using h),if_pos (by simpa using h2)])
 have HQ2:Hid (profCheck p=0→E.length≤200→openC (evsL E)≠0→tripP p (evsL E)=(openC (evsL E),[],[])):=hid (fun h h2 h3=>by unfold tripP;rw [if_neg (by simpa using h),if_neg (by simp;omega),if_pos h3])
 have HQ3:Hid (profCheck p=0→E.length≤200→openC (evsL E)=0→tripP p (evsL E)=if (tripR p (evsL E)).1≠0 then ((tripR p (evsL E)).1,[],[]) else (0,(tripR p (evsL E)).2.1,(certL (wayL p)).filter fun x=>(tripR p (evsL E)).2.2.uses x.1)):=hid (fun h h2 h3=>by
  unfold tripP;rw [if_neg (by simpa using h),if_neg (by simp;omega),if_neg (by simpa using h3)])
 clear hb1 hV hp hr he
 go_enter Tryz.func24,Tryz.ntmps24
 go_upto_region 1 with fail
 change Code.wp _ _ _ _ (w.alloc (.cells (p.cs pA pc) 24))
 obtain ⟨b,hb⟩:∃ y,y=w.heap.size:=⟨_,rfl⟩
 rw [← hb] at HRg ⊢
 have HBq:=hid hb
 clear hb
 generalize w.alloc (.cells (p.cs pA pc) 24)=wr at *
 have HRr:=hid (HRg.out wr (Below.refl _ _))
 have HCo:=hid (pCompile_any p pA pc wr HP.out hpc)
 go_upto_region 2 with (first
  | ((with_reducible show wpList _ _ _ (Oper.mk _ (Op.load 24 _) _ _ _ _::_) _ _);refine wpList_load_g rfl 24 _ rfl b 0 rfl (p.cs pA pc).toList _ HRr.out Tryz.underlying24 rfl (by kernel_rfl) ?_)
  | (go_at_call 13;refine HCo.out.mono ?_;rintro e1 w1 ⟨hb1,wA,wc,rfl,hw1⟩)
  | fail)
 have HW:=hid hw1
 have HB1:=hid hb1
 have HBw:=hid (HB.out.trans (hb1.mono HB.out.size))
 clear hw1 hb1 HCo HRr
 by_cases hck:profCheck p=0
 ·have hc2:(profCheck p != 0)=false:=by simp [hck]
  have HWo:Hid (waysOf p=wayL p):=hid (by unfold waysOf;rw [if_pos hck])
  rw [HWo.out] at HW ⊢
  have hw9:(wayL p).length=9:=rfl
  have HCk:=hid hck
  have HQ1:=hid (HQ1.out hck)
  have HQ2:=hid (HQ2.out hck)
  have HQ3:=hid (HQ3.out hck)
  clear hck HQ0 HWo hw9
  by_cases hl2:200<E.length
  ·have d1:decide ((200:Int)<(E.length:Int))=true:=decide_eq_true (by omega)
   have HQ:=hid (HQ1.out hl2)
   go_wp2_with fail
   go_ret3
   exact tripOut_err HQ.out HBw.out
  ·have d1:decide ((200:Int)<(E.length:Int))=false:=decide_eq_false (by omega)
   have hl3:E.length≤200:=by omega
   have HQ2:=hid (HQ2.out hl3)
   have HQ3:=hid (HQ3.out hl3)
   have HOp:=hid (cvOpen_any E eA ec w1 (HR.out.now HB1.out) (fun x hx=>(HE.out x hx).now HB1.out) (by omega))
   clear hl2 HQ1
   go_upto_region 7 with (first
    | (go_at_call 12;refine HOp.out.mono ?_;rintro e2 w2 ⟨hb2,⟨ho,rfl⟩ | ⟨ho,pc2,C,rfl,hcv,hfr⟩⟩)
    | fail)
   ·have hc3:(openC (evsL E) != 0)=true:=by simp [ho]
    have HQ:=hid (HQ2.out ho)
    have HB2:=hid (HBw.out.trans (hb2.mono HBw.out.size))
    clear ho hb2 HQ2 HQ3
    go_wp2_with fail
    go_ret3
    exact tripOut_err HQ.out HB2.out
   ·have HQ:=hid (HQ3.out ho)
    have HO:=hid ho
    have HB2:=hid (HBw.out.trans (hb2.mono HBw.out.size))
    have HB12:=hid (HB1.out.trans (hb2.mono HB1.out.size))
    have HCv:Hid (∀ wq,Below w2.heap.size w2 wq→CvK wq pc2 (evsL E) C):=hid (fun wq hq=>hcv.below hq)
    have HLe:Hid ((evsL E).length≤200):=hid (by simpa using hl3)
    have HLm:Hid ((evsL E).length≤1000000):=hid (by simp;omega)
    have HP2:=hid (HP.out.now HB12.out)
    have HW2:=hid (HW.out.now hb2)
    have HV2:=hid (HV.out.now HB12.out)
    have HRg2:Hid (∀ wq,Below w2.heap.size w2 wq→wq.rangeAt b 0 (p.cs pA pc).toList):=hid (fun wq hq=>HRg.out wq (HB12.out.trans (hq.mono HB12.out.size)))
    clear ho hb2 hcv hfr HQ2 HQ3 HOp HP HW HV HR HE HB1 HBw HB HRg HB12
    clear wr
    obtain ⟨wr,hwr⟩:∃ y,y=w2:=⟨_,rfl⟩
    subst hwr
    go_upto_region 9 with fail
    go_cut [10] (fun v wx=>J9 p pA pc (evsL E) wr wx v)
    case first =>
     have H9:=hid (A9.start wr (evsL E))
     refine wp_region_J (S:=fun w'=>Below wr.heap.size wr w') (fun _=>false) (by kernel_rfl) ((Below.refl _ _).drew) (fun hHeld=>?_)
     refine' wpAnyJ_take (i:=0) rfl (by kernel_rfl) (by kernel_rfl) (by kernel_rfl) (by kernel_rfl) (fun _ _ _ h=>h) (yieldsIf_load_mid (by rfl) _ _ rfl b 0 rfl _ _ HRg2.out Tryz.underlying24 rfl (by kernel_rfl)) hHeld ?_
     try simp only [List.getElem_toArray,List.getElem_cons_zero,List.getElem_cons_succ,Act.put,List.setIfInBounds_toArray,List.set_cons_zero,List.set_cons_succ]
     refine wpAnyJ_pure (i:=1) (v:=?_) rfl (by kernel_rfl) (by kernel_rfl) (by kernel_rfl) (fun _ _ _ h=>h) (Or.inl ⟨by rfl,?_⟩) ?_
     rotate_left
     ·intro wq _
      go_simp
      try with_reducible rfl
     simp only [Act.put,sA,sB,sC]
     try simp only [List.getElem_toArray,List.getElem_cons_zero,List.getElem_cons_succ,Act.put,List.setIfInBounds_toArray,List.set_cons_zero,List.set_cons_succ]
     refine wpAnyJ_pure (i:=2) (v:=?_) rfl (by kernel_rfl) (by kernel_rfl) (by kernel_rfl) (fun _ _ _ h=>h) (Or.inl ⟨by rfl,?_⟩) ?_
     rotate_left
     ·intro wq _
      go_simp
      try with_reducible rfl
     simp only [Act.put,sA,sB,sC]
     try simp only [List.getElem_toArray,List.getElem_cons_zero,List.getElem_cons_succ,Act.put,List.setIfInBounds_toArray,List.set_cons_zero,List.set_cons_succ]
     refine wpAnyJ_three (i:=3) (j:=4) (l:=5) rfl rfl rfl (by kernel_rfl) (fun K hK=>?_) (fun K hK=>?_) (fun K hK=>?_)
     ·skip
      go_simp
      refine (cvAll_any pc2 (evsL E) C (wr.drew) (HCv.out _ H9.out.hb) HLm.out).mono ?_
      rintro eY wY ⟨aA,aC,xs,rfl,hxe,hxi,hbA⟩
      go_wp2_with fail
      refine hK.out _ _ (fun _ h=>h.trans (hbA.mono h.size)) ?_
      clear hK K
      try simp only [List.getElem_toArray,List.getElem_cons_zero,List.getElem_cons_succ,Act.put,List.setIfInBounds_toArray,List.set_cons_zero,List.set_cons_succ]
      have H9:=hid (H9.out.all hxe hxi hbA)
      clear hbA hxe hxi
      refine wpAnyJ_two (i:=4) (j:=5) rfl rfl (by kernel_rfl) (fun K hK=>?_) (fun K hK=>?_)
      ·skip
       go_simp
       refine hK.out _ _ (fun _ h=>h.alloc h.size _) ?_
       clear hK K
       try simp only [List.getElem_toArray,List.getElem_cons_zero,List.getElem_cons_succ,Act.put,List.setIfInBounds_toArray,List.set_cons_zero,List.set_cons_succ]
       have H9:=hid (H9.out.m1)
       refine wpAnyJ_one (i:=5) rfl (by kernel_rfl) (fun K hK=>?_)
       go_simp
       refine hK.out _ _ (fun _ h=>h.alloc h.size _) ?_
       clear hK K
       try simp only [List.getElem_toArray,List.getElem_cons_zero,List.getElem_cons_succ,Act.put,List.setIfInBounds_toArray,List.set_cons_zero,List.set_cons_succ]
       have H9:=hid (H9.out.m2)
       refine wpAnyJ_pure (i:=6) (v:=.agg (jcs ⟨p,pA,pc,wayL p,wA,wc,xs,aA,aC,[],none,0⟩ none 0 0 (wY.heap.size) ((wY.alloc (.map #[] 0)).heap.size))) rfl (by kernel_rfl) (by kernel_rfl) (by kernel_rfl) (fun _ _ _ h=>h) (Or.inl ⟨by rfl,fun wq _=>run_j _ _ wq p pA wA aA pc _ wc xs.length aC (wY.heap.size) ((wY.alloc (.map #[] 0)).heap.size) rfl rfl rfl rfl rfl rfl⟩) ?_
       try simp only [List.getElem_toArray,List.getElem_cons_zero,List.getElem_cons_succ,Act.put,List.setIfInBounds_toArray,List.set_cons_zero,List.set_cons_succ]
       refine wpAnyJ_one (i:=7) rfl (by kernel_rfl) (fun K hK=>?_)
       go_simp
       refine hK.out _ _ (fun _ h=>h.alloc h.size _) ?_
       clear hK K
       try simp only [List.getElem_toArray,List.getElem_cons_zero,List.getElem_cons_succ,Act.put,List.setIfInBounds_toArray,List.set_cons_zero,List.set_cons_succ]
       refine wpAnyJ_pure (i:=8) (v:=?_) rfl (by kernel_rfl) (by kernel_rfl) (by kernel_rfl) (fun _ _ _ h=>h) (Or.inl ⟨by rfl,?_⟩) ?_
       rotate_left
       ·intro wq _
        go_simp
        try with_reducible rfl
       simp only [Act.put,sA,sB,sC]
       refine wpAnyJ_done (by kernel_rfl) ?_ _
       try simp only [List.getElem_toArray,List.getElem_cons_zero,List.getElem_cons_succ,Act.put,List.setIfInBounds_toArray,List.set_cons_zero,List.set_cons_succ]
       clear hHeld
       go_wp2_with fail
       go_meet
       exact j9_of H9.out HP2.out HW2.out HCk.out HO.out HLe.out (by simp) (by simp) (by simp) rfl
      ·skip
       go_simp
       refine hK.out _ _ (fun _ h=>h.alloc h.size _) ?_
       clear hK K
       try simp only [List.getElem_toArray,List.getElem_cons_zero,List.getElem_cons_succ,Act.put,List.setIfInBounds_toArray,List.set_cons_zero,List.set_cons_succ]
       have H9:=hid (H9.out.m2)
       refine wpAnyJ_one (i:=4) rfl (by kernel_rfl) (fun K hK=>?_)
       go_simp
       refine hK.out _ _ (fun _ h=>h.alloc h.size _) ?_
       clear hK K
       try simp only [List.getElem_toArray,List.getElem_cons_zero,List.getElem_cons_succ,Act.put,List.setIfInBounds_toArray,List.set_cons_zero,List.set_cons_succ]
       have H9:=hid (H9.out.m1)
       refine wpAnyJ_pure (i:=6) (v:=.agg (jcs ⟨p,pA,pc,wayL p,wA,wc,xs,aA,aC,[],none,0⟩ none 0 0 ((wY.alloc (.map #[] 0)).heap.size) (wY.heap.size))) rfl (by kernel_rfl) (by kernel_rfl) (by kernel_rfl) (fun _ _ _ h=>h) (Or.inl ⟨by rfl,fun wq _=>run_j _ _ wq p pA wA aA pc _ wc xs.length aC ((wY.alloc (.map #[] 0)).heap.size) (wY.heap.size) rfl rfl rfl rfl rfl rfl⟩) ?_
       try simp only [List.getElem_toArray,List.getElem_cons_zero,List.getElem_cons_succ,Act.put,List.setIfInBounds_toArray,List.set_cons_zero,List.set_cons_succ]
       refine wpAnyJ_one (i:=7) rfl (by kernel_rfl) (fun K hK=>?_)
       go_simp
       refine hK.out _ _ (fun _ h=>h.alloc h.size _) ?_
       clear hK K
       try simp only [List.getElem_toArray,List.getElem_cons_zero,List.getElem_cons_succ,Act.put,List.setIfInBounds_toArray,List.set_cons_zero,List.set_cons_succ]
       refine wpAnyJ_pure (i:=8) (v:=?_) rfl (by kernel_rfl) (by kernel_rfl) (by kernel_rfl) (fun _ _ _ h=>h) (Or.inl ⟨by rfl,?_⟩) ?_
       rotate_left
       ·intro wq _
        go_simp
        try with_reducible rfl
       simp only [Act.put,sA,sB,sC]
       refine wpAnyJ_done (by kernel_rfl) ?_ _
       try simp only [List.getElem_toArray,List.getElem_cons_zero,List.getElem_cons_succ,Act.put,List.setIfInBounds_toArray,List.set_cons_zero,List.set_cons_succ]
       clear hHeld
       go_wp2_with fail
       go_meet
       exact j9_of H9.out HP2.out HW2.out HCk.out HO.out HLe.out (by simp) (by simp) (by simp) rfl
     ·skip
      go_simp
      refine hK.out _ _ (fun _ h=>h.alloc h.size _) ?_
      clear hK K
      try simp only [List.getElem_toArray,List.getElem_cons_zero,List.getElem_cons_succ,Act.put,List.setIfInBounds_toArray,List.set_cons_zero,List.set_cons_succ]
      have H9:=hid (H9.out.m1)
      refine wpAnyJ_two (i:=3) (j:=5) rfl rfl (by kernel_rfl) (fun K hK=>?_) (fun K hK=>?_)
      ·skip
       go_simp
       refine (cvAll_any pc2 (evsL E) C (wr.drew.alloc (.map #[] 0)) (HCv.out _ H9.out.hb) HLm.out).mono ?_
       rintro eY wY ⟨aA,aC,xs,rfl,hxe,hxi,hbA⟩
       go_wp2_with fail
       refine hK.out _ _ (fun _ h=>h.trans (hbA.mono h.size)) ?_
       clear hK K
       try simp only [List.getElem_toArray,List.getElem_cons_zero,List.getElem_cons_succ,Act.put,List.setIfInBounds_toArray,List.set_cons_zero,List.set_cons_succ]
       have H9:=hid (H9.out.all hxe hxi hbA)
       clear hbA hxe hxi
       refine wpAnyJ_one (i:=5) rfl (by kernel_rfl) (fun K hK=>?_)
       go_simp
       refine hK.out _ _ (fun _ h=>h.alloc h.size _) ?_
       clear hK K
       try simp only [List.getElem_toArray,List.getElem_cons_zero,List.getElem_cons_succ,Act.put,List.setIfInBounds_toArray,List.set_cons_zero,List.set_cons_succ]
       have H9:=hid (H9.out.m2)
       refine wpAnyJ_pure (i:=6) (v:=.agg (jcs ⟨p,pA,pc,wayL p,wA,wc,xs,aA,aC,[],none,0⟩ none 0 0 (wr.drew.heap.size) (wY.heap.size))) rfl (by kernel_rfl) (by kernel_rfl) (by kernel_rfl) (fun _ _ _ h=>h) (Or.inl ⟨by rfl,fun wq _=>run_j _ _ wq p pA wA aA pc _ wc xs.length aC (wr.drew.heap.size) (wY.heap.size) rfl rfl rfl rfl rfl rfl⟩) ?_
       try simp only [List.getElem_toArray,List.getElem_cons_zero,List.getElem_cons_succ,Act.put,List.setIfInBounds_toArray,List.set_cons_zero,List.set_cons_succ]
       refine wpAnyJ_one (i:=7) rfl (by kernel_rfl) (fun K hK=>?_)
       go_simp
       refine hK.out _ _ (fun _ h=>h.alloc h.size _) ?_
       clear hK K
       try simp only [List.getElem_toArray,List.getElem_cons_zero,List.getElem_cons_succ,Act.put,List.setIfInBounds_toArray,List.set_cons_zero,List.set_cons_succ]
       refine wpAnyJ_pure (i:=8) (v:=?_) rfl (by kernel_rfl) (by kernel_rfl) (by kernel_rfl) (fun _ _ _ h=>h) (Or.inl ⟨by rfl,?_⟩) ?_
       rotate_left
       ·intro wq _
        go_simp
        try with_reducible rfl
       simp only [Act.put,sA,sB,sC]
       refine wpAnyJ_done (by kernel_rfl) ?_ _
       try simp only [List.getElem_toArray,List.getElem_cons_zero,List.getElem_cons_succ,Act.put,List.setIfInBounds_toArray,List.set_cons_zero,List.set_cons_succ]
       clear hHeld
       go_wp2_with fail
       go_meet
       exact j9_of H9.out HP2.out HW2.out HCk.out HO.out HLe.out (by simp) (by simp) (by simp) rfl
      ·skip
       go_simp
       refine hK.out _ _ (fun _ h=>h.alloc h.size _) ?_
       clear hK K
       try simp only [List.getElem_toArray,List.getElem_cons_zero,List.getElem_cons_succ,Act.put,List.setIfInBounds_toArray,List.set_cons_zero,List.set_cons_succ]
       have H9:=hid (H9.out.m2)
       refine wpAnyJ_one (i:=3) rfl (by kernel_rfl) (fun K hK=>?_)
       go_simp
       refine (cvAll_any pc2 (evsL E) C ((wr.drew.alloc (.map #[] 0)).alloc (.map #[] 0)) (HCv.out _ H9.out.hb) HLm.out).mono ?_
       rintro eY wY ⟨aA,aC,xs,rfl,hxe,hxi,hbA⟩
       go_wp2_with fail
       refine hK.out _ _ (fun _ h=>h.trans (hbA.mono h.size)) ?_
       clear hK K
       try simp only [List.getElem_toArray,List.getElem_cons_zero,List.getElem_cons_succ,Act.put,List.setIfInBounds_toArray,List.set_cons_zero,List.set_cons_succ]
       have H9:=hid (H9.out.all hxe hxi hbA)
       clear hbA hxe hxi
       refine wpAnyJ_pure (i:=6) (v:=.agg (jcs ⟨p,pA,pc,wayL p,wA,wc,xs,aA,aC,[],none,0⟩ none 0 0 (wr.heap.size) (wr.heap.size+1))) rfl (by kernel_rfl) (by kernel_rfl) (by kernel_rfl) (fun _ _ _ h=>h) (Or.inl ⟨by rfl,fun wq _=>run_j _ _ wq p pA wA aA pc _ wc xs.length aC (wr.heap.size) (wr.heap.size+1) rfl rfl rfl rfl rfl rfl⟩) ?_
       try simp only [List.getElem_toArray,List.getElem_cons_zero,List.getElem_cons_succ,Act.put,List.setIfInBounds_toArray,List.set_cons_zero,List.set_cons_succ]
       refine wpAnyJ_one (i:=7) rfl (by kernel_rfl) (fun K hK=>?_)
       go_simp
       refine hK.out _ _ (fun _ h=>h.alloc h.size _) ?_
       clear hK K
       try simp only [List.getElem_toArray,List.getElem_cons_zero,List.getElem_cons_succ,Act.put,List.setIfInBounds_toArray,List.set_cons_zero,List.set_cons_succ]
       refine wpAnyJ_pure (i:=8) (v:=?_) rfl (by kernel_rfl) (by kernel_rfl) (by kernel_rfl) (fun _ _ _ h=>h) (Or.inl ⟨by rfl,?_⟩) ?_
       rotate_left
       ·intro wq _
        go_simp
        try with_reducible rfl
       simp only [Act.put,sA,sB,sC]
       refine wpAnyJ_done (by kernel_rfl) ?_ _
       try simp only [List.getElem_toArray,List.getElem_cons_zero,List.getElem_cons_succ,Act.put,List.setIfInBounds_toArray,List.set_cons_zero,List.set_cons_succ]
       clear hHeld
       go_wp2_with fail
       go_meet
       exact j9_of H9.out HP2.out HW2.out HCk.out HO.out HLe.out (by simp) (by simp) (by simp) rfl
     ·skip
      go_simp
      refine hK.out _ _ (fun _ h=>h.alloc h.size _) ?_
      clear hK K
      try simp only [List.getElem_toArray,List.getElem_cons_zero,List.getElem_cons_succ,Act.put,List.setIfInBounds_toArray,List.set_cons_zero,List.set_cons_succ]
      have H9:=hid (H9.out.m2)
      refine wpAnyJ_two (i:=3) (j:=4) rfl rfl (by kernel_rfl) (fun K hK=>?_) (fun K hK=>?_)
      ·skip
       go_simp
       refine (cvAll_any pc2 (evsL E) C (wr.drew.alloc (.map #[] 0)) (HCv.out _ H9.out.hb) HLm.out).mono ?_
       rintro eY wY ⟨aA,aC,xs,rfl,hxe,hxi,hbA⟩
       go_wp2_with fail
       refine hK.out _ _ (fun _ h=>h.trans (hbA.mono h.size)) ?_
       clear hK K
       try simp only [List.getElem_toArray,List.getElem_cons_zero,List.getElem_cons_succ,Act.put,List.setIfInBounds_toArray,List.set_cons_zero,List.set_cons_succ]
       have H9:=hid (H9.out.all hxe hxi hbA)
       clear hbA hxe hxi
       refine wpAnyJ_one (i:=4) rfl (by kernel_rfl) (fun K hK=>?_)
       go_simp
       refine hK.out _ _ (fun _ h=>h.alloc h.size _) ?_
       clear hK K
       try simp only [List.getElem_toArray,List.getElem_cons_zero,List.getElem_cons_succ,Act.put,List.setIfInBounds_toArray,List.set_cons_zero,List.set_cons_succ]
       have H9:=hid (H9.out.m1)
       refine wpAnyJ_pure (i:=6) (v:=.agg (jcs ⟨p,pA,pc,wayL p,wA,wc,xs,aA,aC,[],none,0⟩ none 0 0 (wY.heap.size) (wr.drew.heap.size))) rfl (by kernel_rfl) (by kernel_rfl) (by kernel_rfl) (fun _ _ _ h=>h) (Or.inl ⟨by rfl,fun wq _=>run_j _ _ wq p pA wA aA pc _ wc xs.length aC (wY.heap.size) (wr.drew.heap.size) rfl rfl rfl rfl rfl rfl⟩) ?_
       try simp only [List.getElem_toArray,List.getElem_cons_zero,List.getElem_cons_succ,Act.put,List.setIfInBounds_toArray,List.set_cons_zero,List.set_cons_succ]
       refine wpAnyJ_one (i:=7) rfl (by kernel_rfl) (fun K hK=>?_)
       go_simp
       refine hK.out _ _ (fun _ h=>h.alloc h.size _) ?_
       clear hK K
       try simp only [List.getElem_toArray,List.getElem_cons_zero,List.getElem_cons_succ,Act.put,List.setIfInBounds_toArray,List.set_cons_zero,List.set_cons_succ]
       refine wpAnyJ_pure (i:=8) (v:=?_) rfl (by kernel_rfl) (by kernel_rfl) (by kernel_rfl) (fun _ _ _ h=>h) (Or.inl ⟨by rfl,?_⟩) ?_
       rotate_left
       ·intro wq _
        go_simp
        try with_reducible rfl
       simp only [Act.put,sA,sB,sC]
       refine wpAnyJ_done (by kernel_rfl) ?_ _
       try simp only [List.getElem_toArray,List.getElem_cons_zero,List.getElem_cons_succ,Act.put,List.setIfInBounds_toArray,List.set_cons_zero,List.set_cons_succ]
       clear hHeld
       go_wp2_with fail
       go_meet
       exact j9_of H9.out HP2.out HW2.out HCk.out HO.out HLe.out (by simp) (by simp) (by simp) rfl
      ·skip
       go_simp
       refine hK.out _ _ (fun _ h=>h.alloc h.size _) ?_
       clear hK K
       try simp only [List.getElem_toArray,List.getElem_cons_zero,List.getElem_cons_succ,Act.put,List.setIfInBounds_toArray,List.set_cons_zero,List.set_cons_succ]
       have H9:=hid (H9.out.m1)
       refine wpAnyJ_one (i:=3) rfl (by kernel_rfl) (fun K hK=>?_)
       go_simp
       refine (cvAll_any pc2 (evsL E) C ((wr.drew.alloc (.map #[] 0)).alloc (.map #[] 0)) (HCv.out _ H9.out.hb) HLm.out).mono ?_
       rintro eY wY ⟨aA,aC,xs,rfl,hxe,hxi,hbA⟩
       go_wp2_with fail
       refine hK.out _ _ (fun _ h=>h.trans (hbA.mono h.size)) ?_
       clear hK K
       try simp only [List.getElem_toArray,List.getElem_cons_zero,List.getElem_cons_succ,Act.put,List.setIfInBounds_toArray,List.set_cons_zero,List.set_cons_succ]
       have H9:=hid (H9.out.all hxe hxi hbA)
       clear hbA hxe hxi
       refine wpAnyJ_pure (i:=6) (v:=.agg (jcs ⟨p,pA,pc,wayL p,wA,wc,xs,aA,aC,[],none,0⟩ none 0 0 (wr.heap.size+1) (wr.heap.size))) rfl (by kernel_rfl) (by kernel_rfl) (by kernel_rfl) (fun _ _ _ h=>h) (Or.inl ⟨by rfl,fun wq _=>run_j _ _ wq p pA wA aA pc _ wc xs.length aC (wr.heap.size+1) (wr.heap.size) rfl rfl rfl rfl rfl rfl⟩) ?_
       try simp only [List.getElem_toArray,List.getElem_cons_zero,List.getElem_cons_succ,Act.put,List.setIfInBounds_toArray,List.set_cons_zero,List.set_cons_succ]
       refine wpAnyJ_one (i:=7) rfl (by kernel_rfl) (fun K hK=>?_)
       go_simp
       refine hK.out _ _ (fun _ h=>h.alloc h.size _) ?_
       clear hK K
       try simp only [List.getElem_toArray,List.getElem_cons_zero,List.getElem_cons_succ,Act.put,List.setIfInBounds_toArray,List.set_cons_zero,List.set_cons_succ]
       refine wpAnyJ_pure (i:=8) (v:=?_) rfl (by kernel_rfl) (by kernel_rfl) (by kernel_rfl) (fun _ _ _ h=>h) (Or.inl ⟨by rfl,?_⟩) ?_
       rotate_left
       ·intro wq _
        go_simp
        try with_reducible rfl
       simp only [Act.put,sA,sB,sC]
       refine wpAnyJ_done (by kernel_rfl) ?_ _
       try simp only [List.getElem_toArray,List.getElem_cons_zero,List.getElem_cons_succ,Act.put,List.setIfInBounds_toArray,List.set_cons_zero,List.set_cons_succ]
       clear hHeld
       go_wp2_with fail
       go_meet
       exact j9_of H9.out HP2.out HW2.out HCk.out HO.out HLe.out (by simp) (by simp) (by simp) rfl
    case rest =>
     obtain ⟨N,J,rfl,hNp,hNa,hNc,hNW,hNE,hNB,hNbA,hNbc,hj,hcb,hwy⟩:=hcut
     have HNe:Hid (N.p=p∧N.pA=pA∧N.pc=pc∧N.W=wayL p∧evsL N.E=evsL E):=hid ⟨hNp,hNa,hNc,hNW,hNE⟩
     have HNb:Hid (N.B=[]∧N.bA=none∧N.bc=0):=hid ⟨hNB,hNbA,hNbc⟩
     obtain ⟨lo,hlo⟩:∃ y,y=wr.heap.size:=⟨_,rfl⟩
     rw [← hlo] at hj
     have HLo:=hid hlo
     have hNl:N.E.length=(evsL E).length:=by rw [← hNE];simp
     have hl200:N.E.length≤200:=by rw [hNl];exact HLe.out
     have HNl:=hid hNl
     have HL0:Hid (TL lo wc wc N p (evsL E) J 0 none 0 []):=hid ⟨hj,RInv.nil_,rfl,fun i hi=>(nomatch hi),fun i hi=>⟨fun e=>(nomatch e),fun x hx=>(nomatch hx)⟩,Below.refl _ _,fun i hi=>by omega⟩
     have HOl:=hid hj.old
     have HBc:=hid hcb
     have HRgc:Hid (∀ wq,Below lo wc wq→wq.rangeAt b 0 (p.cs pA pc).toList):=hid (fun wq hq=>HRg2.out wq (hcb.trans (by rw [← hlo];exact hq)))
     have HVc:Hid (∀ wq,Below lo wc wq→Vs B wq):=hid (fun wq hq=>HV2.out.now (hcb.trans (by rw [← hlo];exact hq)))
     have HPc:Hid (∀ wq,Below lo wc wq→ProfOk wq wq.heap.size pA p):=hid (fun wq hq=>HP2.out.now (hcb.trans (by rw [← hlo];exact hq)))
     have HWc:Hid (∀ wq,Below lo wc wq→RdL 2 wayC wq wq.heap.size wA (wayL p)):=hid (fun wq hq=>HW2.out.now (hcb.trans (by rw [← hlo];exact hq)))
     have HBw:Hid (∀ wq,Below lo wc wq→Below w.heap.size w wq):=hid (fun wq hq=>HB2.out.trans ((hcb.trans (by rw [← hlo];exact hq)).mono HB2.out.size))
     have HLs:Hid (lo≤wc.heap.size):=hid (by rw [hlo];exact hcb.size)
     have hjb0:=box_lt hj.box
     clear hNp hNa hNc hNW hNE hNB hNbA hNbc hlo hNl hj hcb hwy HRg2 HV2 HP2 HW2 HB2 HCv
     obtain ⟨wL,hwL⟩:∃ y,y=wc:=⟨_,rfl⟩
     subst hwL
     have z23:=HL0.out.j.cell 23 (.slice N.eA N.E.length N.ec) rfl
     go_upto_region 11 with fail
     go_wp2_with fail
     clear z23
     go_loopw [11,12,13,14,51] (fun o _ _ _ i wx=>∃ (k:Nat) (A:Option Addr) (c:Nat) (xs:List EvL) (J2:JL),k≤N.E.length∧i=.int .i64 k∧o=.slice A xs.length c∧J2.jb=J.jb∧TL lo wL wx N p (evsL E) J2 k A c xs) (fun _ _ _ _ i _=>N.E.length - (intOf i).toNat)
     case atStart=>exact ⟨0,none,0,[],J,Nat.zero_le _,rfl,rfl,rfl,HL0.out⟩
     case round =>
      obtain ⟨k,A,c,xs,J2,hk,rfl,rfl,hjb,htl⟩:=hrel
      have HT:=hid htl
      have HJb:=hid hjb
      have hxl:=htl.len
      have HXl:=hid hxl
      clear htl hjb hxl
      by_cases hlt:k<N.E.length
      ·have HSh:Hid (Calls Tryz.prog 60 #[.pointer (some ⟨J.jb,0,none⟩),.int .i64 k] wr (ShOut lo wr N J2 (shAt p (evsL E) k))):=hid (by
        have hps:=pairs_bound p HCk.out (evsL E) k
        have h1:N.p.types.length≤N.pc:=by rw [HNe.out.1,HNe.out.2.2.1];exact hpc
        have hC:EvC (evsL N.E) k:=by
         rw [HNe.out.2.2.2.2]
         exact conv_at HO.out (by rw [← HNl.out];exact hlt)
        have:=jShow_any (lo:=lo) k hlt wr (HVc.out wr HT.out.hb) HT.out.j (by rw [HNe.out.2.2.2.1,HNe.out.1]) h1 HNb.out.1 HNb.out.2.1 HNb.out.2.2 hC (by omega)
        rw [HNe.out.1,HNe.out.2.2.2.1,HNe.out.2.2.2.2,HJb.out] at this
        exact this)
       go_upto_region 15 with (first
        | (go_at_call 60;refine HSh.out.mono ?_;rintro e4 w4 ⟨y,J3,rfl,hjb3,hy0,hj3,ht3,ho3,hyo,hyr⟩)
        | fail)
       change Code.wp _ _ _ _ (w4.alloc (.cells (y.ev.cs y.cA y.cc y.fA y.fc) 40))
       have hb5:Below w4.heap.size w4 (w4.alloc (.cells (y.ev.cs y.cA y.cc y.fA y.fc) 40)):=(Below.refl _ _).alloc (Nat.le_refl _) _
       have HRy:Hid ((w4.alloc (.cells (y.ev.cs y.cA y.cc y.fA y.fc) 40)).rangeAt w4.heap.size 0 (y.ev.cs y.cA y.cc y.fA y.fc).toList):=hid (range_block (MapKept.heap_alloc w4 _).1 rfl)
       have HB5:=hid hb5
       have HB4:Hid (Below lo wr w4):=hid (ht3.to_below (Nat.le_trans HT.out.j.lo.1 (Nat.le_of_lt (box_lt HT.out.j.box))) (fun i hi=>by
        rcases hi with e | e | e | e
        ·rw [e];exact HT.out.j.lo.1
        ·rw [e];exact HT.out.j.lo.2.1
        ·rw [e];exact HT.out.j.lo.2.2
        ·exact (HT.out.j.prs.blk_lt e).1))
       have HJ3:=hid hj3
       have HT3:=hid ht3
       have HO3:=hid ho3
       have HYo:=hid hyo
       have HYr:=hid hyr
       have HY0:=hid hy0
       have HJb3:=hid hjb3
       clear hb5 hj3 ht3 ho3 hyo hyr hy0 hjb3 HSh
       obtain ⟨yb,hyb⟩:∃ z,z=w4.heap.size:=⟨_,rfl⟩
       rw [← hyb] at HRy ⊢
       clear hyb
       obtain ⟨w5,hw5⟩:∃ z,z=w4.alloc (.cells (y.ev.cs y.cA y.cc y.fA y.fc) 40):=⟨_,rfl⟩
       rw [← hw5] at HRy HB5 ⊢
       clear hw5
       by_cases hc0:(shAt p (evsL E) k).1=0
       ·have hc9:((shAt p (evsL E) k).1 != 0)=false:=by simp [hc0]
        have HC0:=hid hc0
        have HBt:Hid (Below lo wL w5):=hid ((HT.out.hb.trans HB4.out).trans (HB5.out.mono (Nat.le_trans HT.out.j.lo.1 (Nat.le_trans (Nat.le_of_lt (box_lt HT.out.j.box)) HT3.out.size))))
        clear hc0
        go_wp2_with (first
         | ((with_reducible show wpList _ _ _ (Oper.mk _ (Op.load 40 _) _ _ _ _::_) _ _);refine wpList_load_g rfl 40 _ rfl yb 0 rfl (y.ev.cs y.cA y.cc y.fA y.fc).toList _ HRy.out Tryz.underlying40 rfl (by kernel_rfl) ?_)
         | (at_builtin;refine wp_append_l rfl (.tmp 63) (.tmp 65) rfl slEvents layEvL 0 (xs:=xs) (ys:=[y]) rfl rfl (((HT.out.inv.turnD elE2 HT3.out (fun i hi=>(HT.out.sep i hi).1) (fun x hx i hi=>(HT.out.sep i hi).2 x hx)).below elE2 HB5.out).own.alloc _) rfl rfl (RdL.one w5 y _ _ rfl _ rfl) (by have:=HXl.out;simp;omega) (Nat.zero_le _) ?_;intro A2 c2 w6 hown hg hb2 hat;have HPu:=hid (TL.push HT.out HLs.out HOl.out HC0.out (HY0.out HC0.out) HJ3.out HT3.out HO3.out HYo.out HYr.out HB5.out _ hown (by simpa only [own_blk] using hg) (by simpa only [own_blk] using hat));clear hown hg hb2 hat)
         | fail)
        go_roundw
        case rel=>exact ⟨k+1,A2,c2,xs++[y],J3,by omega,by go_num,by simp,HJb3.out.trans HJb.out,HPu.out⟩
        case measure=>simp [intOf];omega
       ·have hc9:((shAt p (evsL E) k).1 != 0)=true:=by simp [hc0]
        have HQe:Hid (tripP p (evsL E)=((shAt p (evsL E) k).1,[],[])):=hid (by
         have h9:=tripR_err (p:=p) (E:=evsL E) (j:=k) (by rw [← HNl.out];exact hlt) hc0 HT.out.ok
         rw [HQ.out,if_pos (by rw [h9];exact hc0),h9])
        have HBe:Hid (Below w.heap.size w w5):=hid (HBw.out _ ((HT.out.hb.trans HB4.out).trans (HB5.out.mono (Nat.le_trans HT.out.j.lo.1 (Nat.le_trans (Nat.le_of_lt (box_lt HT.out.j.box)) HT3.out.size)))))
        clear hc0
        go_wp2_with fail
        go_ret3
        exact tripOut_err HQe.out HBe.out
      ·have hke:k=N.E.length:=by omega
       have d9:decide (k<N.E.length)=false:=decide_eq_false (by omega)
       have HRn:Hid (tripP p (evsL E)=(0,evsL xs,(certL (wayL p)).filter fun x=>(stAt p (evsL E) k).uses x.1)):=hid (by
        have h1:(tripR p (evsL E)).1=0:=tripR_iff.2 (fun i hi=>HT.out.ok i (by rw [hke,HNl.out];exact hi))
        rw [HQ.out,if_neg (by simpa using h1),tripR_out h1,HT.out.eq,hke,HNl.out])
       clear hke hlt
       have HRb:=hid (HRgc.out wr HT.out.hb)
       have HCe:=hid (loCert_any p pA pc (wayL p) wA wc wr (HPc.out wr HT.out.hb) hpc HCk.out (HWc.out wr HT.out.hb) rfl)
       go_upto_region 20 with (first
        | ((with_reducible show wpList _ _ _ (Oper.mk _ (Op.load 24 _) _ _ _ _::_) _ _);refine wpList_load_g rfl 24 _ rfl b 0 rfl (p.cs pA pc).toList _ HRb.out Tryz.underlying24 rfl (by kernel_rfl) ?_)
        | (go_at_call 29;refine HCe.out.mono ?_;rintro e7 w7 ⟨A7,c7,rfl,ho7,hb7⟩)
        | fail)
       have HJ7:=hid (HT.out.j.now hb7)
       have HI7:=hid (HT.out.inv.below elE2 hb7)
       have HBt:Hid (∀ wq,Below w7.heap.size w7 wq→Below w.heap.size w wq):=hid (fun wq hq=>by
        have h1:=HBw.out wr HT.out.hb
        exact (h1.trans (hb7.mono h1.size)).trans (hq.mono (Nat.le_trans h1.size hb7.size)))
       have HR7:=hid (ho7.rd layLoss)
       have HLn:Hid ((certL (wayL p)).length≤9):=hid (certGo_len (wayL p) 0)
       have HIn:Hid (∀ x∈certL (wayL p),InInt x.1):=hid (fun x hx=>by
        have:=certGo_in (wayL p) 0 (by omega) x hx
        simp [wayL] at this
        exact ⟨by omega,by omega⟩)
       clear hb7 ho7 HRb HCe
       generalize certL (wayL p)=LL at *
       obtain ⟨us,hus⟩:∃ z:Loss→Bool,z=fun x=>(stAt p (evsL E) k).uses x.1:=⟨_,rfl⟩
       rw [← hus] at HRn
       have HUs:Hid (∀ x:Loss,(stAt p (evsL E) k).uses x.1=us x):=hid (fun x=>by rw [hus])
       clear hus
       obtain ⟨wM,hwM⟩:∃ z,z=w7:=⟨_,rfl⟩
       subst hwM
       go_wp2_with fail
       go_loopw [16,18,76] (fun o _ i wx=>∃ (m:Nat) (A9:Option Addr) (c9:Nat),m≤LL.length∧i=.int .i64 m∧o=.slice A9 ((LL.take m).filter us).length c9∧OwnL wx wM.heap.size 104 3 lossC A9 c9 ((LL.take m).filter us)∧Below wM.heap.size wM wx) (fun _ _ i _=>LL.length - (intOf i).toNat)
       case atStart=>exact ⟨0,none,0,Nat.zero_le _,rfl,rfl,OwnL.nil_,Below.refl _ _⟩
       case round =>
        obtain ⟨m,A9,c9,hm,rfl,rfl,hown,hbw⟩:=hrel
        have HO:=hid hown
        have HB:=hid hbw
        have hl9:=HLn.out
        clear hown hbw
        by_cases hmt:m<LL.length
        ·have HTk:Hid ((LL.take (m+1)).filter us=(LL.take m).filter us++(if us LL[m]=true then [LL[m]] else [])):=hid (by
          rw [List.take_succ_eq_append_getElem hmt,List.filter_append]
          congr 1
          cases h9:us LL[m] <;> simp [h9])
         have HLl:Hid (((LL.take m).filter us).length≤9):=hid (Nat.le_trans (List.length_filter_le _ _) (by rw [List.length_take];omega))
         obtain ⟨g,off,hA,hg,hcc⟩:=(HR7.out.now HB.out).at_ hmt
         have hin:=HIn.out _ (List.getElem_mem hmt)
         have hu:=HUs.out LL[m]
         generalize (LL.take m).filter us=out at *
         generalize LL[m]=x at *
         obtain ⟨a1,a2,a3⟩:=x
         have c0:wr.cell? ⟨g,off+m * 3,none⟩=some (.int .i64 a1):=by simpa using hcc 0 _ rfl
         have c1:wr.cell? ⟨g,off+m * 3+1,none⟩=some (.int .i64 a2):=hcc 1 _ rfl
         have c2:wr.cell? ⟨g,off+m * 3+2,none⟩=some (.int .i64 a3):=hcc 2 _ rfl
         clear hcc
         simp only at hin hu
         subst hA
         go_upto_region 24 with fail
         change Code.wp _ _ _ _ (wr.alloc (.cells #[.int .i64 a1,.int .i64 a2,.int .i64 a3] 104))
         have hb1:Below wr.heap.size wr (wr.alloc (.cells #[.int .i64 a1,.int .i64 a2,.int .i64 a3] 104)):=(Below.refl _ _).alloc (Nat.le_refl _) _
         have hx1:(wr.alloc (.cells #[.int .i64 a1,.int .i64 a2,.int .i64 a3] 104)).heap[wr.heap.size]?=some (.cells #[.int .i64 a1,.int .i64 a2,.int .i64 a3] 104 (0,0)):=(MapKept.heap_alloc wr _).1
         have HO1:=hid (HO.out.below hb1)
         have HB1:=hid (HB.out.trans (hb1.mono HB.out.size))
         have HX1:=hid hx1
         have HJ1:=hid (HJ7.out.now HB1.out)
         clear hb1 hx1 c0 c1 c2 HO HB
         obtain ⟨xb,hxb⟩:∃ y,y=wr.heap.size:=⟨_,rfl⟩
         rw [← hxb] at HX1 ⊢
         clear hxb
         generalize wr.alloc (.cells #[.int .i64 a1,.int .i64 a2,.int .i64 a3] 104)=w3 at *
         have z26:=HJ1.out.cell 26 (.map (some J2.ub)) rfl
         rw [HJb.out] at z26
         have y0:=box_cell HX1.out 0 (.int .i64 a1) rfl
         have hlk:∀ n,(Instr.lookup 99 (.map (some J2.ub)) (.int .i64 a1) false).run Tryz.prog (w3.drewN n)=.ok (.bool (us (a1,a2,a3))) (w3.drewN n):=fun n=>by
          have h9:=(HJ1.out.now (below_drewN (Below.refl _ _) n)).lookU a1 hin
          rw [hu] at h9
          exact h9
         have HU:=hid hu
         clear hu hin
         generalize us (a1,a2,a3)=ub at *
         go_quiet (fail)
         have HO2:=hid (HO1.out.below (below_drewN (Below.refl _ _) nq))
         have HB2:=hid (HB1.out.trans ((below_drewN (Below.refl w3.heap.size w3) nq).mono HB1.out.size))
         have HX2:Hid ((w3.drewN nq).heap[xb]?=some (.cells #[.int .i64 a1,.int .i64 a2,.int .i64 a3] 104 (0,0))):=HX1
         clear z26 y0 hlk HJ1 HO1 HB1 HX1
         generalize w3.drewN nq=wq at *
         have y0:=box_cell HX2.out 0 (.int .i64 a1) rfl
         have y1:=box_cell HX2.out 1 (.int .i64 a2) rfl
         have y2:=box_cell HX2.out 2 (.int .i64 a3) rfl
         cases ub
         ·have HV:Hid ((LL.take (m+1)).filter us=out):=hid (by rw [HTk.out,if_neg (by simp),List.append_nil])
          go_wp2_with fail
          go_roundw
          case rel=>exact ⟨m+1,A9,c9,by omega,by go_num,by rw [HV.out],by rw [HV.out];exact HO2.out,HB2.out⟩
          case measure=>simp [intOf];omega
         ·have HV:Hid ((LL.take (m+1)).filter us=out++[(a1,a2,a3)]):=hid (by rw [HTk.out,if_pos rfl])
          go_wp2_with (first
           | (at_builtin;refine wp_append_l rfl (.tmp 87) (.tmp 89) rfl slLoss layLoss wM.heap.size (xs:=out) (ys:=[(a1,a2,a3)]) rfl rfl (HO2.out.alloc _) rfl rfl (RdL.one (enc:=lossC) wq (a1,a2,a3) _ _ rfl _ rfl) (by have:=HLl.out;simp;omega) (by have:=HB2.out.size;simp;omega) ?_;intro A3 c3 w6 hown hg hb2 hat;have HO3:=hid hown;have HB3:=hid (((Below.refl wM.heap.size wq).alloc HB2.out.size _).trans hb2);clear hown hg hb2 hat)
           | fail)
          go_roundw
          case rel=>exact ⟨m+1,A3,c3,by omega,by go_num,by rw [HV.out];simp,by rw [HV.out];exact HO3.out,HB2.out.trans HB3.out⟩
          case measure=>simp [intOf];omega
        ·have hke:m=LL.length:=by omega
         have d9:decide (m<LL.length)=false:=decide_eq_false (by omega)
         have hkt:LL.take m=LL:=List.take_of_length_le (by omega)
         rw [hkt] at HO ⊢
         clear hke hmt hkt
         go_wp2_with fail
         go_ret3
         rw [HRn.out]
         have hi:=HI7.out.below elE2 HB.out
         exact ⟨A,c,xs,A9,c9,rfl,rfl,hi.own.rd layEvL,fun x hx=>(hi.el x hx).1,(HO.out.rd layLoss),HBt.out _ HB.out,hi.own.len_le⟩
 ·have hc2:(profCheck p != 0)=true:=by simp [hck]
  have HQ:=hid (HQ0.out hck)
  clear hck HQ0 HQ1 HQ2 HQ3
  go_wp2_with fail
  go_ret3
  exact tripOut_err HQ.out HBw.out
theorem trip_any {B:Nat} (p:Prof) (pA:Option Addr) (pc:Nat) (E:List EvL) (eA:Option Addr) (ec:Nat) (w:World) (hV:Vs B w) (hp:ProfOk w w.heap.size pA p) (hpc:p.types.length≤pc) (hr:RdL 12 EvL.cs w w.heap.size eA E) (he:∀ x∈E,EvLOk w w.heap.size x) (hl:E.length≤1000000) :
  Calls Tryz.prog 24 #[p.v pA pc,.slice eA E.length ec] w (TripOut (tripP p (evsL E)) w):=(trip_any2 p pA pc E eA ec w hV hp hpc hr he hl).mono (fun _ _ h=>h.one)
/- lingualaw24's small. -/
theorem plainOk (w:World) (B:Nat):ProfOk w B none plainTP:=⟨RdL.nil_,by decide,by decide,fun x hx=>(nomatch hx)⟩
theorem richOk {w:World} {B:Nat} {A:Option Addr} (h:RdS w B A richTP.types) (n:Int):ProfOk w B A {richTP with size:=n}:=⟨h,by show richTP.name.size≤_;decide,by show richTP.types.length≤_;decide,fun x hx=>by
 have hx:x∈[pngS]:=hx
 rw [List.mem_singleton.1 hx]
 decide⟩
theorem ev4 {xs:List EvL} {a b c d:EvM} (h:evsL xs=[a,b,c,d]):∃ x0 x1 x2 x3,xs=[x0,x1,x2,x3]∧x0.ev=a∧x1.ev=b∧x2.ev=c∧x3.ev=d:=by
 have hl:=congrArg List.length h
 rcases xs with _ | ⟨x0,_ | ⟨x1,_ | ⟨x2,_ | ⟨x3,_ | ⟨x4,r⟩⟩⟩⟩⟩
 all_goals first | (simp at hl;done) | skip
 simp only [evsL,List.map_cons,List.map_nil,List.cons.injEq,and_true] at h
 exact ⟨x0,x1,x2,x3,rfl,h.1,h.2.1,h.2.2.1,h.2.2.2⟩
theorem RdL.base {T:Type} {sz:Nat} {enc:T→List Value} {w:World} {B:Nat} {A:Option Addr} {xs:List T} (h:RdL sz enc w B A xs) (hx:xs≠[]) :
  ∃ g off,A=some ⟨g,off,none⟩∧g<B∧∀ k x,xs[k]?=some x→∀ j v,(enc x)[j]?=some v→w.cell? ⟨g,off+k * sz+j,none⟩=some v:=by
 obtain ⟨g,off,hA,hg,_⟩:=h.at_ (k:=0) (List.length_pos_iff.2 hx)
 refine ⟨g,off,hA,hg,fun k x hk j v hj=>?_⟩
 obtain ⟨hkl,rfl⟩:=List.getElem?_eq_some_iff.1 hk
 obtain ⟨g2,off2,hA2,_,hc⟩:=h.at_ hkl
 rw [hA] at hA2
 injection hA2 with hA2
 injection hA2 with e1 e2
 subst e1 e2
 exact hc j v hj
theorem lSmall24_any {B:Nat} (w:World) (hV:Vs B w):Calls Tryz.prog 22 #[] w fun e w'=>e=.returned (.bool true)∧Below w.heap.size w w':=by
 have HV:=hid hV
 clear hV
 have HSa:=hid (lSample_any w)
 go_enter Tryz.func22,Tryz.ntmps22
 go_upto_region 2 with (first
  | (go_at_call 57;refine HSa.out.mono ?_;rintro e1 w1 ⟨g,rfl,hr1,hb1⟩)
  | fail)
 have HB1:=hid hb1
 have HR1:=hid hr1
 have HPl:=hid (lPlain24_any w1)
 clear hr1 hb1 HSa
 have HTr1:Hid (∀ wq,Below w1.heap.size w1 wq→Calls Tryz.prog 24 #[plainTP.v none 0,.slice (some ⟨g,0,none⟩) 4 4] wq (TripOut (0,[sE0,sB1,sE2,sB3],[(4,3,2),(5,2,2)]) wq)):=hid (fun wq hq=>by
  have:=trip_any plainTP none 0 (sampleE.map mkEv) (some ⟨g,0,none⟩) 4 wq (HV.out.now (HB1.out.trans (hq.mono HB1.out.size))) (plainOk _ _) (by decide) (HR1.out.now hq) (sample_ok _ _) (by decide)
  rw [show evsL (sampleE.map mkEv)=sampleE from rfl,trip_plain] at this
  exact this)
 have HTr2:Hid (∀ wq A c,Below w1.heap.size w1 wq→RdS wq wq.heap.size A richTP.types→1≤c→Calls Tryz.prog 24 #[richTP.v A c,.slice (some ⟨g,0,none⟩) 4 4] wq (TripOut (0,sampleE,[]) wq)):=hid (fun wq A c hq hrd hc=>by
  have:=trip_any richTP A c (sampleE.map mkEv) (some ⟨g,0,none⟩) 4 wq (HV.out.now (HB1.out.trans (hq.mono HB1.out.size))) (richOk hrd 4000) (by show 1≤c;exact hc) (HR1.out.now hq) (sample_ok _ _) (by decide)
  rw [show evsL (sampleE.map mkEv)=sampleE from rfl,trip_rich0] at this
  exact this)
 go_upto_region 3 with (first
  | (go_at_call 58;refine HPl.out.mono ?_;rintro e2 w2 ⟨rfl,hb2⟩;have HB2:=hid hb2)
  | (go_at_call 24;refine (HTr1.out _ HB2.out).mono ?_;rintro e3 w3 ⟨A3,c3,xs,D3,d3,rfl,hx3,hr3,hk3,hl3,hb3⟩)
  | fail)
 have HB3:=hid (HB2.out.trans (hb3.mono HB2.out.size))
 have HX3:=hid hx3
 have HR3:=hid hr3
 have HK3:=hid hk3
 have HL3:=hid hl3
 have HRi:=hid (lRich_any w3)
 clear hx3 hr3 hk3 hl3 hb3 HTr1 HPl
 go_upto_region 4 with (first
  | (go_at_call 32;refine HRi.out.mono ?_;rintro e4 w4 ⟨hb4,RA,rfl,hrd4⟩;have HB4:=hid (HB3.out.trans (hb4.mono HB3.out.size));have HB34:=hid hb4;have HRd4:=hid hrd4)
  | (go_at_call 24;refine (HTr2.out _ RA 1 HB4.out HRd4.out (Nat.le_refl _)).mono ?_;rintro e5 w5 ⟨A5,c5,ys,D5,d5,rfl,hx5,hr5,hk5,hl5,hb5⟩)
  | fail)
 have HB5:=hid (HB4.out.trans (hb5.mono HB4.out.size))
 have HB35:=hid (HB34.out.trans (hb5.mono HB34.out.size))
 have HX5:=hid hx5
 have HR5:=hid hr5
 have HK5:=hid hk5
 have HRs:=hid (HR3.out.now HB35.out)
 have HKs:=hid (fun x hx=>(HK3.out x hx).now HB35.out)
 have HLs:=hid (HL3.out.now HB35.out)
 have HRg:=hid (HR1.out.now HB5.out)
 have HBw:=hid (HB1.out.trans (HB5.out.mono HB1.out.size))
 clear hx5 hr5 hk5 hl5 hb5 hb4 hrd4 HR3 HK3 HL3 HR1 HTr2 HRi HV
 obtain ⟨x0,x1,x2,x3,hxs,h0,h1,h2,h3⟩:=ev4 HX3.out
 subst hxs
 obtain ⟨gx,ox,rfl,hgx,hcx⟩:=HRs.out.base (by simp)
 obtain ⟨gz,oz,hgz0,hgz,hcz⟩:=HRg.out.base (by simp [sampleE])
 injection hgz0 with hgz0
 injection hgz0 with e1 e2
 subst e1 e2
 have HC:Hid (∀ wq,Below w5.heap.size w5 wq→∀ k x,[x0,x1,x2,x3][k]?=some x→∀ j v,x.cs[j]?=some v→wq.cell? ⟨gx,ox+k * 12+j,none⟩=some v):=hid (fun wq hq k x hk j v hj=>(hq.cell (p:=⟨gx,ox+k * 12+j,none⟩) hgx).trans (hcx k x hk j v hj))
 have HZ:Hid (∀ wq,Below w5.heap.size w5 wq→∀ k x,(sampleE.map mkEv)[k]?=some x→∀ j v,x.cs[j]?=some v→wq.cell? ⟨g,0+k * 12+j,none⟩=some v):=hid (fun wq hq k x hk j v hj=>(hq.cell (p:=⟨g,0+k * 12+j,none⟩) hgz).trans (hcz k x hk j v hj))
 clear hcx hcz
 have sm:∀ (x:EvL) (e:EvM),x.ev=e→x∈[x0,x1,x2,x3]→mkEv e∈sampleE.map mkEv→∀ wq,Below w5.heap.size w5 wq→Calls Tryz.prog 59 #[x.v,(mkEv e).v] wq fun en w'=>en=.returned (.bool true)∧Below wq.heap.size wq w':=fun x e hxe hm hz wq hq=>by
  have h1:=((HKs.out x hm).now hq).ok
  have h2:=(sample_ok wq wq.heap.size _ hz).ok
  have:=evSame_any x.ev (mkEv e).ev x.cA x.cc x.fA x.fc none 0 none 0 wq h1 h2
  rw [(sameE_iff x.ev (mkEv e).ev).2 hxe] at this
  exact this
 have HS0:=hid (sm x0 sE0 h0 (by simp) (by simp [sampleE]))
 have HS2:=hid (sm x2 sE2 h2 (by simp) (by simp [sampleE]))
 have HX:Hid (x1.ev.text=tRe∧x1.ev.target=-1∧x3.ev.kind=0∧x3.ev.text=tRct∧x3.ev.target=-1∧x3.ev.n=0):=hid ⟨by rw [h1];rfl,by rw [h1];rfl,by rw [h3];rfl,by rw [h3];rfl,by rw [h3];rfl,by rw [h3];rfl⟩
 clear sm h0 h1 h2 h3 HKs
 go_upto_region 6 with fail
 have rX:∀ wq,Below w5.heap.size w5 wq→∀ k x,[x0,x1,x2,x3][k]?=some x→∀ o,o=ox+k * 12→wq.rangeAt gx o x.cs:=fun wq hq k x hk o ho j v hj=>by
  subst ho
  exact HC.out wq hq k x hk j v hj
 have rZ:∀ wq,Below w5.heap.size w5 wq→∀ k x,(sampleE.map mkEv)[k]?=some x→∀ o,o=k * 12→wq.rangeAt g o x.cs:=fun wq hq k x hk o ho j v hj=>by
  subst ho
  have:=HZ.out wq hq k x hk j v hj
  rwa [Nat.zero_add] at this
 have HrX:=hid rX
 have HrZ:=hid rZ
 have HcX:Hid (∀ wq,Below w5.heap.size w5 wq→wq.cell? ⟨gx,ox+12+9,none⟩=some (.string ⟨#[114,101,58,32,104,101,108,108,111,10,121,101,115]⟩)∧wq.cell? ⟨gx,ox+12+5,none⟩=some (.int .i64 (-1))∧wq.cell? ⟨gx,ox+36+3,none⟩=some (.int .i64 0)∧wq.cell? ⟨gx,ox+36+9,none⟩=some (.string ⟨#[114,101,97,99,116,105,111,110,32,55]⟩)∧wq.cell? ⟨gx,ox+36+5,none⟩=some (.int .i64 (-1))∧wq.cell? ⟨gx,ox+36+8,none⟩=some (.int .i64 0)):=hid (fun wq hq=>by
  obtain ⟨p1,p2,p3,p4,p5,p6⟩:=HX.out
  refine ⟨HC.out wq hq 1 x1 rfl 9 _ ?_,HC.out wq hq 1 x1 rfl 5 _ ?_,HC.out wq hq 3 x3 rfl 3 _ ?_,HC.out wq hq 3 x3 rfl 9 _ ?_,HC.out wq hq 3 x3 rfl 5 _ ?_,HC.out wq hq 3 x3 rfl 8 _ ?_⟩
  ·show some (Value.string x1.ev.text)=_;rw [p1];rfl
  ·show some (Value.int .i64 x1.ev.target)=_;rw [p2]
  ·show some (Value.int .i64 x3.ev.kind)=_;rw [p3]
  ·show some (Value.string x3.ev.text)=_;rw [p4];rfl
  ·show some (Value.int .i64 x3.ev.target)=_;rw [p5]
  ·show some (Value.int .i64 x3.ev.n)=_;rw [p6])
 clear rX rZ
 go_cut [8] (fun v wx=>v=.bool true∧Below w5.heap.size w5 wx)
 case first =>
  refine wp_region_below [(6,fun _=>.bool true,fun (_:Option Addr × Nat) _=>True),(14,fun _=>.bool true,fun (_:Option Addr × Nat) _=>True)] (by kernel_rfl) (by kernel_rfl) (by repeat (first | exact trivial | refine ⟨fun g wa wb hs hs' ht h=>by first | exact trivial | exact h.now ht | exact h.below ht | exact ht.cell h | exact h,?_⟩)) ?_
  rw [List.toList_toArray]
  refine DetE.read (v:=?_) (by rfl) (by rfl) ?_ ?_
  rotate_left
  ·intro wq hSq hkq
   skip
   go_simp
   try with_reducible rfl
  simp only [Act.put,sA,sB,sC]
  refine DetE.read (v:=?_) (by rfl) (by rfl) ?_ ?_
  rotate_left
  ·intro wq hSq hkq
   skip
   go_simp
   try with_reducible rfl
  simp only [Act.put,sA,sB,sC]
  refine DetE.load (by rfl) (by rfl) 40 _ rfl (gx) (ox) rfl (x0.cs) _ (fun wq hSq _=>HrX.out wq hSq 0 x0 rfl _ (by simp)) Tryz.underlying40 rfl (by kernel_rfl) ?_
  simp only [Act.put,sA,sB,sC]
  refine DetE.read (v:=?_) (by rfl) (by rfl) ?_ ?_
  rotate_left
  ·intro wq hSq hkq
   skip
   go_simp
   try with_reducible rfl
  simp only [Act.put,sA,sB,sC]
  refine DetE.read (v:=?_) (by rfl) (by rfl) ?_ ?_
  rotate_left
  ·intro wq hSq hkq
   skip
   go_simp
   try with_reducible rfl
  simp only [Act.put,sA,sB,sC]
  refine DetE.load (by rfl) (by rfl) 40 _ rfl (g) (0) rfl ((mkEv sE0).cs) _ (fun wq hSq _=>HrZ.out wq hSq 0 _ rfl _ rfl) Tryz.underlying40 rfl (by kernel_rfl) ?_
  simp only [Act.put,sA,sB,sC]
  refine DetE.eff _ _ (by rfl) (by rfl) (fun wq hSq hkq K hK=>?_) (fun g1=>?_)
  ·go_simp
   refine (HS0.out wq hSq).mono ?_
   rintro e4 w4 ⟨rfl,hb4⟩
   go_wp2_with fail
   exact hK.out ((none,0)) _ (hSq.trans (hb4.mono hSq.size)) hb4 (trivial) _ rfl
  simp only [Act.put,sA,sB,sC]
  refine DetE.read (v:=?_) (by rfl) (by rfl) ?_ ?_
  rotate_left
  ·intro wq hSq hkq
   skip
   go_simp
   try with_reducible rfl
  simp only [Act.put,sA,sB,sC]
  refine DetE.read (v:=?_) (by rfl) (by rfl) ?_ ?_
  rotate_left
  ·intro wq hSq hkq
   skip
   go_simp
   try with_reducible rfl
  simp only [Act.put,sA,sB,sC]
  refine DetE.read (v:=?_) (by rfl) (by rfl) ?_ ?_
  rotate_left
  ·intro wq hSq hkq
   skip
   go_simp
   try with_reducible rfl
  simp only [Act.put,sA,sB,sC]
  refine DetE.load (by rfl) (by rfl) 40 _ rfl (gx) (ox+24) rfl (x2.cs) _ (fun wq hSq _=>HrX.out wq hSq 2 x2 rfl _ (by simp)) Tryz.underlying40 rfl (by kernel_rfl) ?_
  simp only [Act.put,sA,sB,sC]
  refine DetE.read (v:=?_) (by rfl) (by rfl) ?_ ?_
  rotate_left
  ·intro wq hSq hkq
   skip
   go_simp
   try with_reducible rfl
  simp only [Act.put,sA,sB,sC]
  refine DetE.read (v:=?_) (by rfl) (by rfl) ?_ ?_
  rotate_left
  ·intro wq hSq hkq
   skip
   go_simp
   try with_reducible rfl
  simp only [Act.put,sA,sB,sC]
  refine DetE.load (by rfl) (by rfl) 40 _ rfl (g) (24) rfl ((mkEv sE2).cs) _ (fun wq hSq _=>HrZ.out wq hSq 2 _ rfl _ rfl) Tryz.underlying40 rfl (by kernel_rfl) ?_
  simp only [Act.put,sA,sB,sC]
  refine DetE.eff _ _ (by rfl) (by rfl) (fun wq hSq hkq K hK=>?_) (fun g2=>?_)
  ·go_simp
   refine (HS2.out wq hSq).mono ?_
   rintro e4 w4 ⟨rfl,hb4⟩
   go_wp2_with fail
   exact hK.out ((none,0)) _ (hSq.trans (hb4.mono hSq.size)) hb4 (trivial) _ rfl
  simp only [Act.put,sA,sB,sC]
  repeat (first
   | (refine DetE.skip (by rfl) ?_;simp only [Act.put,sA,sB,sC])
   | (refine DetE.read (v:=?_) (by rfl) (by rfl) ?_ ?_;rotate_left;(· (intro wq hSq hkq;obtain ⟨p1,p2,p3,p4,p5,p6⟩:=HcX.out wq hSq;go_simp;try with_reducible rfl));simp only [Act.put,sA,sB,sC])
   | fail)
  refine DetE.done fun wz hz hkz=>?_
  go_wp2_with fail
  go_meet
  exact ⟨rfl,hz⟩
 case rest =>
  obtain ⟨rfl,hcb⟩:=hcut
  have HSm:Hid (Calls Tryz.prog 26 #[.slice D3 2 d3,.slice (some ⟨wc.heap.size,0,none⟩) 2 2] (wc.alloc (.cells #[.int .i64 4,.int .i64 3,.int .i64 2,.int .i64 5,.int .i64 2,.int .i64 2] 104)) fun e w'=>e=.returned (.bool true)∧Below (wc.alloc (.cells #[.int .i64 4,.int .i64 3,.int .i64 2,.int .i64 5,.int .i64 2,.int .i64 2] 104)).heap.size (wc.alloc (.cells #[.int .i64 4,.int .i64 3,.int .i64 2,.int .i64 5,.int .i64 2,.int .i64 2] 104)) w'):=hid (by
   have:=rSame20_any [(4,3,2),(5,2,2)] [(4,3,2),(5,2,2)] D3 (some ⟨wc.heap.size,0,none⟩) d3 2 (wc.alloc (.cells #[.int .i64 4,.int .i64 3,.int .i64 2,.int .i64 5,.int .i64 2,.int .i64 2] 104)) ((HLs.out.now hcb).now ((Below.refl _ _).alloc (Nat.le_refl _) _)) (RdL.lit layLoss wc [(4,3,2),(5,2,2)] _ 104 rfl) (by decide)
   simpa using this)
  have HBa:Hid (Below w5.heap.size w5 (wc.alloc (.cells #[.int .i64 4,.int .i64 3,.int .i64 2,.int .i64 5,.int .i64 2,.int .i64 2] 104))):=hid (hcb.alloc hcb.size _)
  clear hcb HC HZ HrX HrZ HcX HS0 HS2 HX
  go_upto_region 8 with (first
   | (go_at_call 26;refine HSm.out.mono ?_;rintro e6 w6 ⟨rfl,hb6⟩)
   | fail)
  have HB6:=hid (HBa.out.trans (hb6.mono HBa.out.size))
  clear hb6 HSm HBa
  have HSn:Hid (Calls Tryz.prog 20 #[.slice A5 ys.length c5,.slice (some ⟨g,0,none⟩) 4 4] w6 fun e w'=>e=.returned (.bool true)∧Below w6.heap.size w6 w'):=hid (by
   refine (rSameL_any ys (sampleE.map mkEv) A5 (some ⟨g,0,none⟩) c5 4 w6 (HR5.out.now HB6.out) (HRg.out.now HB6.out) (fun x hx=>(HK5.out x hx).now HB6.out) (sample_ok _ _) (by have:=congrArg List.length HX5.out;simp [sampleE] at this;omega) (by decide)).mono ?_
   rintro e w' ⟨v,rfl,hv,hb⟩
   rw [hv.2 (by rw [HX5.out];rfl)]
   exact ⟨rfl,hb⟩)
  go_wp2_with (first
   | (go_at_call 20;refine HSn.out.mono ?_;rintro e7 w7 ⟨rfl,hb7⟩)
   | fail)
  go_ret
  exact ⟨rfl,HBw.out.trans ((HB6.out.trans (hb7.mono HB6.out.size)).mono HBw.out.size)⟩
/- The head of the laws of layer 24 (bounds,profile.Check),and ways,certificate and journey behind it. -/
theorem few16_len {E:List EvM} (h:few16B E 20=true):E.length≤20:=by
 unfold few16B at h
 simp only [Bool.and_eq_true,decide_eq_true_eq] at h
 exact h.1
end Go.Proofs.YtlnnjdibkbabiaaGreatDoor
