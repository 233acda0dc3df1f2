/- Contracts and plain laws, joined: FoB, FoC, LoA, TlE, TlF, TlA, TlH. -/
import Derived.Test.YtlnnjdibkbabiaaGreatDoorQbg
import Derived.Test.YtlnnjdibkbabiaaGreatDoorQbe
import Derived.Test.YtlnnjdibkbabiaaGreatDoorQag
import Derived.Test.YtlnnjdibkbabiaaGreatDoorQax
import Derived.Test.YtlnnjdibkbabiaaGreatDoorQbn
import Derived.Test.YtlnnjdibkbabiaaGreatDoorQap
import Derived.Test.YtlnnjdibkbabiaaGreatDoorQah
import Derived.Test.YtlnnjdibkbabiaaGreatDoorQbh
/- Items in memory (layer 21). -/
set_option linter.unusedSimpArgs false
set_option linter.unusedVariables false
namespace Go.Proofs.YtlnnjdibkbabiaaGreatDoor
set_option maxHeartbeats 2000000
open _root_.Go.Lib (hid)
open Go.RowKit
structure ItL where
 it:ItM
 fA:Option Addr
 fc:Nat
abbrev ItM.cs (x:ItM) (fA:Option Addr) (fc:Nat):Array Value :=
 #[.int .i64 x.event,.int .i64 x.part,.int .i64 x.of,.int .i64 x.kind,.int .i64 x.on,.int .i64 x.onPart,.int .i64 x.quote,.int .i64 x.who,.int .i64 x.n,.string (bs x.text),.slice fA x.files.length fc]
def ItL.cs (x:ItL):List Value:=(x.it.cs x.fA x.fc).toList
abbrev ItL.v (x:ItL):Value:=.agg (x.it.cs x.fA x.fc)
abbrev itsL (l:List ItL):List ItM:=l.map (·.it)
theorem layIt:Lay 11 ItL.cs:=⟨fun _=>rfl,fun x u hu=>by simp only [ItL.cs,ItM.cs,List.mem_cons,List.not_mem_nil,or_false] at hu;rcases hu with rfl | rfl | rfl | rfl | rfl | rfl | rfl | rfl | rfl | rfl | rfl <;> rfl⟩
structure ItOk (w:World) (B:Nat) (x:ItL):Prop where
 fi:RdI w B x.fA x.it.files
 cap:x.it.files.length≤x.fc
theorem ItOk.now {w w':World} {x:ItL} (h:ItOk w w.heap.size x) (hb:Below w.heap.size w w'):ItOk w' w'.heap.size x:=⟨h.fi.now hb,h.cap⟩
structure ItsAt (base:Nat) (w:World) (A:Option Addr) (c:Nat) (xs:List ItL) (L:List ItM):Prop where
 own:OwnL w base 46 11 ItL.cs A c xs
 eq:itsL xs=L
 ok:∀ x∈xs,ItOk w w.heap.size x
 far:∀ x∈xs,∀ i,slBlk x.fA=some i→base≤i∧slBlk A≠some i
theorem ItsAt.len {base:Nat} {w:World} {A:Option Addr} {c:Nat} {xs:List ItL} {L:List ItM} (h:ItsAt base w A c xs L):xs.length=L.length:=by
 have:=congrArg List.length h.eq
 simpa using this
theorem ItsAt.on {base:Nat} {w w':World} {A:Option Addr} {c:Nat} {xs:List ItL} {L:List ItM} (h:ItsAt base w A c xs L) (hb:Below w.heap.size w w'):ItsAt base w' A c xs L :=
 ⟨h.own.below hb,h.eq,fun x hx=>(h.ok x hx).now hb,h.far⟩
def ItsOut (L:List ItM) (w:World) (e:Ending) (w':World):Prop :=
 ∃ A c xs,e=.returned (.slice A L.length c)∧ItsAt w.heap.size w' A c xs L∧Below w.heap.size w w'
structure NetL where
 p:Prof
 pA:Option Addr
 pc:Nat
 W:List (Int × Int)
 wA:Option Addr
 wc:Nat
 E:List EvL
 eA:Option Addr
 ec:Nat
 B:List Int
 bA:Option Addr
 bc:Nat
abbrev NetL.cs (N:NetL):Array Value:=#[.string N.p.name,.int .i64 N.p.edit,.int .i64 N.p.within_,.int .i64 N.p.delete,.bool N.p.react,.int .i64 N.p.thread,.bool N.p.quote,.bool N.p.mention,.int .i64 N.p.size,.int .i64 N.p.parts,.int .i64 N.p.files,.int .i64 N.p.bytes,
 .slice N.pA N.p.types.length N.pc,.int .i64 N.p.join,.int .i64 N.p.history,.int .i64 N.p.remove,.int .i64 N.p.level,.bool N.p.batch,.int .i64 N.p.rate,.int .i64 N.p.down,.int .i64 N.p.window,.int .i64 N.p.keep,
 .slice N.wA N.W.length N.wc,.slice N.eA N.E.length N.ec,.slice N.bA N.B.length N.bc]
abbrev NetL.v (N:NetL):Value:=.agg N.cs
structure NetOk (w:World) (N:NetL):Prop where
 pf:ProfOk w w.heap.size N.pA N.p
 wy:RdL 2 wayC w w.heap.size N.wA N.W
 ev:RdL 12 EvL.cs w w.heap.size N.eA N.E
 ok:∀ x∈N.E,EvLOk w w.heap.size x
 bd:RdI w w.heap.size N.bA N.B
 wn:N.W.length=9
 en:N.E.length≤1000
 bn:N.B.length≤1000000
 rt:∀ x∈N.E,rightE x.ev=true
 ck:profCheck N.p=0
theorem right_text {e:EvM} (h:rightE e=true):e.text.size≤4000∧e.files.length≤4∧∀ f∈e.files,0≤f∧f≤1073741824:=by
 simp only [rightE,Bool.and_eq_true,decide_eq_true_eq,filesB] at h
 refine ⟨h.2.2.2.2.1,h.2.2.2.2.2.1.2,?_⟩
 have main:∀ (l pre:List Int),filesGo pre l=true→∀ f∈l,0≤f∧f≤1073741824:=by
  intro l
  induction l with
  | nil=>intro _ _ f hf;cases hf
  | cons n r ih =>
   intro pre hg f hf
   simp only [filesGo,Bool.and_eq_true,belowB,decide_eq_true_eq] at hg
   rcases List.mem_cons.1 hf with rfl | hf
   ·omega
   ·exact ih _ hg.2.2 f hf
 exact main _ _ h.2.2.2.2.2.1.1
theorem right_nums {e:EvM} (h:rightE e=true):-1≤e.who∧e.who≤2000∧0≤e.n∧e.n≤100:=by
 have hs:=h
 simp only [rightE,Bool.and_eq_true] at hs
 have hsp:e=spareE e:=(sameE_iff _ _).1 hs.2.2.2.2.2.2
 have hf:fieldsB e=true:=hs.2.2.2.1
 have hw:=congrArg EvM.who hsp
 have hn:=congrArg EvM.n hsp
 unfold spareE at hw hn
 simp only at hw hn
 unfold fieldsB at hf
 by_cases k0:e.kind=0
 ·simp [k0,hasN,maybeB,belowB] at hf hn
  omega
 by_cases k1:e.kind=1∨e.kind=2
 ·rcases k1 with k1 | k1 <;> simp [k1,hasN,hasW] at hn hw <;> omega
 by_cases k3:e.kind=3∨e.kind=4
 ·rw [if_neg k0,if_neg k1,if_pos k3] at hf
  rcases k3 with k3 | k3 <;> simp [k3,hasW,belowB] at hw hf <;> omega
 by_cases k5:e.kind=5∨e.kind=7
 ·rw [if_neg k0,if_neg k1,if_neg k3,if_pos k5] at hf
  rcases k5 with k5 | k5 <;> simp [k5,hasN,belowB] at hn hf <;> omega
 by_cases k9:e.kind=9
 ·rw [if_neg k0,if_neg k1,if_neg k3,if_neg k5,if_pos k9] at hf
  simp [belowB] at hf
  omega
 ·rw [if_neg k0,if_neg k1,if_neg k3,if_neg k5,if_neg k9] at hf
  simp at hf
  rcases hf with h6 | h6 <;> simp [h6,hasN,hasW] at hn hw <;> omega
theorem NetOk.tn {w:World} {N:NetL} (h:NetOk w N):∀ x∈N.E,x.ev.text.size≤10000:=fun x hx=>by
 have:=(right_text (h.rt x hx)).1
 omega
theorem NetOk.now {w w':World} {N:NetL} (h:NetOk w N) (hb:Below w.heap.size w w'):NetOk w' N :=
 ⟨h.pf.now hb,h.wy.now hb,h.ev.now hb,fun x hx=>(h.ok x hx).now hb,h.bd.now hb,h.wn,h.en,h.bn,h.rt,h.ck⟩
structure NB (w0 w:World) (b:Nat) (N:NetL):Prop where
 box:w.heap[b]?=some (.cells N.cs 86 (0,0))
 ok:NetOk w N
 hb:Below w0.heap.size w0 w
theorem NB.now {w0 w w':World} {b:Nat} {N:NetL} (h:NB w0 w b N) (hb:Below w.heap.size w w'):NB w0 w' b N :=
 ⟨(hb.block b (box_lt h.box)).trans h.box,h.ok.now hb,h.hb.trans (hb.mono h.hb.size)⟩
theorem NB.start {w:World} {N:NetL} (h:NetOk w N):NB w (w.alloc (.cells N.cs 86)) w.heap.size N :=
 ⟨(MapKept.heap_alloc w _).1,h.now ((Below.refl _ _).alloc (Nat.le_refl _) _),(Below.refl _ _).alloc (Nat.le_refl _) _⟩
theorem NB.rng {w0 w:World} {b:Nat} {N:NetL} (h:NB w0 w b N):w.rangeAt b 0 N.cs.toList:=range_block h.box rfl
theorem NB.cell {w0 w:World} {b:Nat} {N:NetL} (h:NB w0 w b N) (j:Nat) (v:Value) (hj:N.cs[j]?=some v):w.cell? ⟨b,j,none⟩=some v:=box_cell h.box j v hj
theorem NB.ev {w0 w:World} {b:Nat} {N:NetL} (h:NB w0 w b N) {k:Nat} (hk:k<N.E.length):∃ g off,N.eA=some ⟨g,off,none⟩∧g<w.heap.size∧w.rangeAt g (off+k * 12) N.E[k].cs∧(∀ j v,N.E[k].cs[j]?=some v→w.cell? ⟨g,off+k * 12+j,none⟩=some v)∧EvLOk w w.heap.size N.E[k]:=by
 obtain ⟨g,off,hA,hg,hc⟩:=h.ok.ev.at_ hk
 exact ⟨g,off,hA,hg,fun j v hj=>hc j v hj,hc,h.ok.ok _ (List.getElem_mem hk)⟩
theorem ev_at {E:List EvL} {k:Nat} (hk:k<E.length):evAt (evsL E) k=E[k].ev:=by
 unfold evAt
 rw [List.getD_eq_getElem?_getD,List.getElem?_map,List.getElem?_eq_getElem hk]
 rfl
/- Contracts of package view's message,parent,Root,and of the smallest methods of a network (layer 21). -/
set_option maxRecDepth 100000
theorem isMsg_neg {E:List EvM} {id:Int} (h:id<0):isMsg E id=false:=by simp [isMsg];omega
theorem isMsg_out {E:List EvM} {id:Int} (h:(E.length:Int)≤id):isMsg E id=false:=by
 have:decide (id<E.length)=false:=by simp;omega
 simp [isMsg,this]
theorem isMsg_in {E:List EvL} {k:Nat} (hk:k<E.length):isMsg (evsL E) k=(E[k].ev.kind==0):=by
 have h1:decide ((0:Int)≤(k:Int))=true:=by simp
 have h2:decide ((k:Int)<(evsL E).length)=true:=by simp;omega
 unfold isMsg
 rw [h1,h2,Int.toNat_natCast,ev_at hk]
 rfl
theorem vMsg_any (E:List EvL) (A:Option Addr) (c:Nat) (id:Int) (w:World) (hr:RdL 12 EvL.cs w w.heap.size A E) (hl:E.length≤1000000) :
  Calls Tryz.prog 179 #[.slice A E.length c,.int .i64 id] w fun e w'=>e=.returned (.bool (isMsg (evsL E) id))∧w=w':=by
 by_cases h0:id<0
 ·have HQ:=hid (isMsg_neg (E:=evsL E) h0)
  go_enter Tryz.func179,Tryz.ntmps179
  go_wp2_with fail
  go_ret
  exact ⟨by rw [HQ.out];rfl,rfl⟩
 obtain ⟨k,rfl⟩:∃ k:Nat,id=k:=⟨id.toNat,by omega⟩
 clear h0
 by_cases hk:k<E.length
 ·have HQ:=hid (isMsg_in hk)
  obtain ⟨b,off,rfl,hb,hcc⟩:=hr.at_ hk
  have z3:=hcc 3 (.int .i64 E[k].ev.kind) rfl
  clear hcc hr
  generalize E[k].ev.kind=kd at *
  go_enter Tryz.func179,Tryz.ntmps179
  go_wp2_with fail
  go_ret
  exact ⟨by rw [HQ.out];rfl,rfl⟩
 ·have HQ:=hid (isMsg_out (E:=evsL E) (id:=k) (by simp;omega))
  have d1:decide ((k:Int)<E.length)=false:=by simp;omega
  go_enter Tryz.func179,Tryz.ntmps179
  go_wp2_with fail
  go_ret
  exact ⟨by rw [HQ.out];rfl,rfl⟩
theorem vPar_any (E:List EvL) (A:Option Addr) (c k:Nat) (w:World) (hr:RdL 12 EvL.cs w w.heap.size A E) (hl:E.length≤1000000) (hk:k<E.length) :
  Calls Tryz.prog 180 #[.slice A E.length c,.int .i64 k] w fun e w'=>e=.returned (.int .i64 (parI (evsL E) k))∧w=w':=by
 have HC:=hid (vMsg_any E A c E[k].ev.target w hr hl)
 have HQ:Hid (parI (evsL E) k=if (decide (E[k].ev.target<k) && isMsg (evsL E) E[k].ev.target)=true then E[k].ev.target else -1):=hid (by unfold parI;rw [ev_at hk])
 obtain ⟨b,off,rfl,hb,hcc⟩:=hr.at_ hk
 have z5:=hcc 5 (.int .i64 E[k].ev.target) rfl
 clear hcc hr
 generalize E[k].ev.target=t at *
 generalize isMsg (evsL E) t=m at *
 go_enter Tryz.func180,Tryz.ntmps180
 cases q1:decide (t<(k:Int))
 ·go_wp2_with fail
  go_ret
  exact ⟨by rw [HQ.out,q1];rfl,rfl⟩
 ·cases m
  ·go_wp2_with (go_at_call 179;refine HC.out.mono ?_;rintro e w' ⟨rfl,rfl⟩)
   go_ret
   exact ⟨by rw [HQ.out,q1];rfl,rfl⟩
  ·go_wp2_with (go_at_call 179;refine HC.out.mono ?_;rintro e w' ⟨rfl,rfl⟩)
   go_ret
   exact ⟨by rw [HQ.out,q1];rfl,rfl⟩
theorem parI_lt {E:List EvM} {k:Nat}:parI E k<k:=by
 unfold parI
 split
 ·rename_i h
  simp at h
  exact h.1
 ·omega
theorem isMsg_lt {E:List EvL} {id:Int} (h:isMsg (evsL E) id=true):∃ k:Nat,id=k∧k<E.length:=by
 simp [isMsg] at h
 exact ⟨id.toNat,by omega,by omega⟩
theorem vRoot_any (E:List EvL) (A:Option Addr) (c:Nat) (id:Int) (w:World) (hr:RdL 12 EvL.cs w w.heap.size A E) (hl:E.length≤1000000) :
  Calls Tryz.prog 164 #[.slice A E.length c,.int .i64 id] w fun e w'=>e=.returned (.int .i64 (rootF (evsL E) id))∧w=w':=by
 have HC:=hid (vMsg_any E A c id w hr hl)
 have HP:=hid (fun k hk=>vPar_any E A c k w hr hl hk)
 clear hr
 cases hm:isMsg (evsL E) id
 ·have HQ:Hid (rootF (evsL E) id=-1):=hid (by unfold rootF;rw [hm];rfl)
  rw [hm] at HC
  clear hm
  go_enter Tryz.func164,Tryz.ntmps164
  go_wp2_with (go_at_call 179;refine HC.out.mono ?_;rintro e w' ⟨rfl,rfl⟩)
  go_ret
  exact ⟨by rw [HQ.out];rfl,rfl⟩
 ·obtain ⟨k,rfl,hk⟩:=isMsg_lt hm
  have HQ:Hid (rootF (evsL E) k=rootGo (evsL E) k k):=hid (by unfold rootF;rw [hm];rfl)
  rw [hm] at HC
  clear hm
  have HPk:=hid (HP.out k hk)
  go_enter Tryz.func164,Tryz.ntmps164
  go_wp2_with (first
   | (go_at_call 179;refine HC.out.mono ?_;rintro e w' ⟨rfl,rfl⟩)
   | (go_at_call 180;refine HPk.out.mono ?_;rintro e w' ⟨rfl,rfl⟩)
   | fail)
  go_loopw [1,5] (fun a b wr=>∃ i:Nat,i<E.length∧a=.int .i64 i∧b=.int .i64 (parI (evsL E) i)∧rootGo (evsL E) k k=rootGo (evsL E) i i∧w=wr) (fun a _ _=>(intOf a).toNat)
  case atStart=>exact ⟨k,hk,rfl,rfl,rfl,rfl⟩
  case round =>
   obtain ⟨i,hi,rfl,rfl,heq,rfl⟩:=hrel
   have HE:=hid heq
   have hlt:parI (evsL E) i<i:=parI_lt
   have HS:Hid (∀ j:Nat,parI (evsL E) i=j→rootGo (evsL E) i i=rootGo (evsL E) j j):=hid (fun j hj=>by
    have:=rootGo_step (E:=evsL E) (f:=i) (id:=i) (by omega) (Nat.le_refl _) (by omega)
    rw [this,hj]
    rfl)
   have HZ:Hid (parI (evsL E) i<0→rootGo (evsL E) i i=i):=hid (fun h=>by
    cases i with
    | zero=>rfl
    | succ i=>simp only [rootGo,h,if_true])
   clear heq
   by_cases hp:parI (evsL E) i<0
   ·have HR:=hid (HE.out.trans (HZ.out hp))
    generalize parI (evsL E) i=q at *
    go_wp2_with fail
    go_ret
    exact ⟨by rw [HQ.out,HR.out];rfl,rfl⟩
   ·obtain ⟨j,hj⟩:∃ j:Nat,parI (evsL E) i=j:=⟨(parI (evsL E) i).toNat,by omega⟩
    have HR:=hid (HE.out.trans (HS.out j hj))
    have hji:j<i:=by omega
    have hj2:j<E.length:=by omega
    have HPj:=hid (HP.out j hj2)
    rw [hj] at *
    clear hj hlt HS HZ
    go_wp2_with (go_at_call 180;refine HPj.out.mono ?_;rintro e w' ⟨rfl,rfl⟩)
    go_roundw
    case rel=>exact ⟨j,hj2,rfl,rfl,HR.out,trivial⟩
    case measure=>simp [intOf];omega
theorem way_at2 {w0 w:World} {b:Nat} {N:NetL} (h:NB w0 w b N) {c:Nat} (hc:c<9):∃ g off,N.wA=some ⟨g,off,none⟩∧w.cell? ⟨g,off+c * 2,none⟩=some (.int .i64 (N.W.getD c (0,0)).1)∧c<N.W.length:=by
 have hk:c<N.W.length:=by rw [h.ok.wn];exact hc
 obtain ⟨g,off,hA,_,hcc⟩:=h.ok.wy.at_ hk
 refine ⟨g,off,hA,?_,hk⟩
 have:=hcc 0 (.int .i64 N.W[c].1) rfl
 rw [List.getD_eq_getElem?_getD,List.getElem?_eq_getElem hk]
 exact this
theorem foSame_any (N:NetL) (c:Nat) (hc:c<9) (w:World) (h:NetOk w N) :
  Calls Tryz.prog 133 #[N.v,.int .i64 c] w fun e w'=>e=.returned (.bool (sameW N.W c))∧Below w.heap.size w w':=by
 have HN:=NB.start h
 have HQ:Hid (sameW N.W c=((N.W.getD c (0,0)).1==0)):=hid rfl
 obtain ⟨g,off,hA,hz,hk⟩:=way_at2 HN hc
 have z22:=HN.cell 22 (.slice N.wA N.W.length N.wc) rfl
 have HB:=hid HN.hb
 rw [hA] at z22
 clear h HN hA
 generalize (N.W.getD c (0,0)).1=x at *
 go_enter Tryz.func133,Tryz.ntmps133
 go_wp2_with fail
 go_ret
 exact ⟨by rw [HQ.out];rfl,HB.out⟩
theorem foMsg_any (N:NetL) (id than:Int) (w:World) (h:NetOk w N) :
  Calls Tryz.prog 129 #[N.v,.int .i64 id,.int .i64 than] w fun e w'=>e=.returned (.bool (msgB (evsL N.E) id than))∧Below w.heap.size w w':=by
 have HN:=NB.start h
 have z23:=HN.cell 23 (.slice N.eA N.E.length N.ec) rfl
 have HB:=hid HN.hb
 have hen:=h.en
 have HQ:Hid (msgB (evsL N.E) id than=(decide (0≤id) && (decide (id<than) && (decide (id<N.E.length) && ((evAt (evsL N.E) id.toNat).kind==0))))):=hid (by unfold msgB;simp)
 cases d0:decide (0≤id)
 ·clear HN
  go_enter Tryz.func129,Tryz.ntmps129
  go_wp2_with fail
  go_ret
  exact ⟨by rw [HQ.out,d0];rfl,HB.out⟩
 cases d1:decide (id<than)
 ·clear HN
  go_enter Tryz.func129,Tryz.ntmps129
  go_wp2_with fail
  go_ret
  exact ⟨by rw [HQ.out,d0,d1];rfl,HB.out⟩
 obtain ⟨k,rfl⟩:∃ k:Nat,id=k:=⟨id.toNat,by simp at d0;omega⟩
 cases d2:decide ((k:Int)<N.E.length)
 ·have d3:decide (k<N.E.length)=false:=by simp at d2 ⊢;omega
  have d4:N.E.length≤k:=by simp at d2;omega
  clear HN
  go_enter Tryz.func129,Tryz.ntmps129
  go_wp2_with fail
  go_ret
  exact ⟨by rw [HQ.out,d0,d1,d2];rfl,HB.out⟩
 ·have hk:k<N.E.length:=by simp at d2;omega
  obtain ⟨g,off,hA,_,_,hcc,_⟩:=HN.ev hk
  have z3:=hcc 3 (.int .i64 N.E[k].ev.kind) rfl
  rw [Int.toNat_natCast,ev_at hk] at HQ
  rw [hA] at z23
  clear HN hcc hA
  generalize N.E[k].ev.kind=kd at *
  go_enter Tryz.func129,Tryz.ntmps129
  go_wp2_with fail
  go_ret
  exact ⟨by rw [HQ.out,d0,d1,d2];rfl,HB.out⟩
theorem foPlace_any (N:NetL) (id:Int) (w:World) (h:NetOk w N) :
  Calls Tryz.prog 130 #[N.v,.int .i64 id] w fun e w'=>e=.returned (.int .i64 (placeP N.p (evsL N.E) id))∧Below w.heap.size w w':=by
 have HN:=NB.start h
 have z5:=HN.cell 5 (.int .i64 N.p.thread) rfl
 have z23:=HN.cell 23 (.slice N.eA N.E.length N.ec) rfl
 have HB:=hid HN.hb
 have HC:=hid (vRoot_any N.E N.eA N.ec id _ HN.ok.ev (by have:=h.en;omega))
 have HQ:Hid (placeP N.p (evsL N.E) id=if N.p.thread=2 then id else if N.p.thread=1 then rootF (evsL N.E) id else -1):=hid rfl
 clear HN h
 by_cases h2:N.p.thread=2
 ·have HR:Hid (placeP N.p (evsL N.E) id=id):=hid (by rw [HQ.out,if_pos h2])
  go_enter Tryz.func130,Tryz.ntmps130
  go_wp2_with fail
  go_ret
  exact ⟨by rw [HR.out];rfl,HB.out⟩
 by_cases h1:N.p.thread=1
 ·have HR:Hid (placeP N.p (evsL N.E) id=rootF (evsL N.E) id):=hid (by rw [HQ.out,if_neg h2,if_pos h1])
  generalize rootF (evsL N.E) id=r at *
  go_enter Tryz.func130,Tryz.ntmps130
  go_wp2_with (go_at_call 164;refine HC.out.mono ?_;rintro e w' ⟨rfl,rfl⟩)
  go_ret
  exact ⟨by rw [HR.out];rfl,HB.out⟩
 ·have HR:Hid (placeP N.p (evsL N.E) id=-1):=hid (by rw [HQ.out,if_neg h2,if_neg h1])
  go_enter Tryz.func130,Tryz.ntmps130
  go_wp2_with fail
  go_ret
  exact ⟨by rw [HR.out];rfl,HB.out⟩
/- Contracts of package loss: right,Certify (layer 20),for ways that are compiled. -/
def lossC (x:Loss):List Value:=[.int .i64 x.1,.int .i64 x.2.1,.int .i64 x.2.2]
/- Contract of linguaref20.Same (layer 20). -/
/- lingualaw24's sample. -/
/- Contracts of linguaref16.Few (layer 16) and of lingualaw24's plain profile (layer 24). -/
/- Contract of lingualaw24.within. -/
end Go.Proofs.YtlnnjdibkbabiaaGreatDoor
