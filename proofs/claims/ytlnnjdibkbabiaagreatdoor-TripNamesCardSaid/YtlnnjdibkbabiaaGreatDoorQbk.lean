/- Contracts and plain laws, joined: FoB, FoC, LoA, TlE, TlF, TlA, TlH. -/
import Derived.Test.YtlnnjdibkbabiaaGreatDoorQbb
import Derived.Test.YtlnnjdibkbabiaaGreatDoorQaz
import Derived.Test.YtlnnjdibkbabiaaGreatDoorQag
import Derived.Test.YtlnnjdibkbabiaaGreatDoorQau
import Derived.Test.YtlnnjdibkbabiaaGreatDoorQbh
import Derived.Test.YtlnnjdibkbabiaaGreatDoorQan
import Derived.Test.YtlnnjdibkbabiaaGreatDoorQah
import Derived.Test.YtlnnjdibkbabiaaGreatDoorQbd
/- Items in memory (layer 21). -/
set_option linter.unusedSimpArgs false
set_option linter.unusedVariables false
namespace Go.Proofs.YtlnnjdibkbabiaaGreatDoor
set_option maxHeartbeats 4000000
open _root_.Go.Lib (hid)
open Go.RowKit
structure ItL where
 it:ItM
 fA:Option Addr
 fc:Nat
abbrev ItM.cs (x:ItM) (fA:Option Addr) (fc:Nat):Array Value :=
 #[.int .i64 x.event,.int .i64 x.part,.int .i64 x.of,.int .i64 x.kind,.int .i64 x.on,.int .i64 x.onPart,.int .i64 x.quote,.int .i64 x.who,.int .i64 x.n,.string (bs x.text),.slice fA x.files.length fc]
def ItL.cs (x:ItL):List Value:=(x.it.cs x.fA x.fc).toList
abbrev ItL.v (x:ItL):Value:=.agg (x.it.cs x.fA x.fc)
abbrev itsL (l:List ItL):List ItM:=l.map (·.it)
theorem layIt:Lay 11 ItL.cs:=⟨fun _=>rfl,fun x u hu=>by simp only [ItL.cs,ItM.cs,List.mem_cons,List.not_mem_nil,or_false] at hu;rcases hu with rfl | rfl | rfl | rfl | rfl | rfl | rfl | rfl | rfl | rfl | rfl <;> rfl⟩
structure ItOk (w:World) (B:Nat) (x:ItL):Prop where
 fi:RdI w B x.fA x.it.files
 cap:x.it.files.length≤x.fc
theorem ItOk.now {w w':World} {x:ItL} (h:ItOk w w.heap.size x) (hb:Below w.heap.size w w'):ItOk w' w'.heap.size x:=⟨h.fi.now hb,h.cap⟩
structure ItsAt (base:Nat) (w:World) (A:Option Addr) (c:Nat) (xs:List ItL) (L:List ItM):Prop where
 own:OwnL w base 46 11 ItL.cs A c xs
 eq:itsL xs=L
 ok:∀ x∈xs,ItOk w w.heap.size x
 far:∀ x∈xs,∀ i,slBlk x.fA=some i→base≤i∧slBlk A≠some i
theorem ItsAt.len {base:Nat} {w:World} {A:Option Addr} {c:Nat} {xs:List ItL} {L:List ItM} (h:ItsAt base w A c xs L):xs.length=L.length:=by
 have:=congrArg List.length h.eq
 simpa using this
theorem ItsAt.on {base:Nat} {w w':World} {A:Option Addr} {c:Nat} {xs:List ItL} {L:List ItM} (h:ItsAt base w A c xs L) (hb:Below w.heap.size w w'):ItsAt base w' A c xs L :=
 ⟨h.own.below hb,h.eq,fun x hx=>(h.ok x hx).now hb,h.far⟩
def ItsOut (L:List ItM) (w:World) (e:Ending) (w':World):Prop :=
 ∃ A c xs,e=.returned (.slice A L.length c)∧ItsAt w.heap.size w' A c xs L∧Below w.heap.size w w'
structure NetL where
 p:Prof
 pA:Option Addr
 pc:Nat
 W:List (Int × Int)
 wA:Option Addr
 wc:Nat
 E:List EvL
 eA:Option Addr
 ec:Nat
 B:List Int
 bA:Option Addr
 bc:Nat
abbrev NetL.cs (N:NetL):Array Value:=#[.string N.p.name,.int .i64 N.p.edit,.int .i64 N.p.within_,.int .i64 N.p.delete,.bool N.p.react,.int .i64 N.p.thread,.bool N.p.quote,.bool N.p.mention,.int .i64 N.p.size,.int .i64 N.p.parts,.int .i64 N.p.files,.int .i64 N.p.bytes,
 .slice N.pA N.p.types.length N.pc,.int .i64 N.p.join,.int .i64 N.p.history,.int .i64 N.p.remove,.int .i64 N.p.level,.bool N.p.batch,.int .i64 N.p.rate,.int .i64 N.p.down,.int .i64 N.p.window,.int .i64 N.p.keep,
 .slice N.wA N.W.length N.wc,.slice N.eA N.E.length N.ec,.slice N.bA N.B.length N.bc]
abbrev NetL.v (N:NetL):Value:=.agg N.cs
structure NetOk (w:World) (N:NetL):Prop where
 pf:ProfOk w w.heap.size N.pA N.p
 wy:RdL 2 wayC w w.heap.size N.wA N.W
 ev:RdL 12 EvL.cs w w.heap.size N.eA N.E
 ok:∀ x∈N.E,EvLOk w w.heap.size x
 bd:RdI w w.heap.size N.bA N.B
 wn:N.W.length=9
 en:N.E.length≤1000
 bn:N.B.length≤1000000
 rt:∀ x∈N.E,rightE x.ev=true
 ck:profCheck N.p=0
theorem right_text {e:EvM} (h:rightE e=true):e.text.size≤4000∧e.files.length≤4∧∀ f∈e.files,0≤f∧f≤1073741824:=by
 simp only [rightE,Bool.and_eq_true,decide_eq_true_eq,filesB] at h
 refine ⟨h.2.2.2.2.1,h.2.2.2.2.2.1.2,?_⟩
 have main:∀ (l pre:List Int),filesGo pre l=true→∀ f∈l,0≤f∧f≤1073741824:=by
  intro l
  induction l with
  | nil=>intro _ _ f hf;cases hf
  | cons n r ih =>
   intro pre hg f hf
   simp only [filesGo,Bool.and_eq_true,belowB,decide_eq_true_eq] at hg
   rcases List.mem_cons.1 hf with rfl | hf
   ·omega
   ·exact ih _ hg.2.2 f hf
 exact main _ _ h.2.2.2.2.2.1.1
theorem right_nums {e:EvM} (h:rightE e=true):-1≤e.who∧e.who≤2000∧0≤e.n∧e.n≤100:=by
 have hs:=h
 simp only [rightE,Bool.and_eq_true] at hs
 have hsp:e=spareE e:=(sameE_iff _ _).1 hs.2.2.2.2.2.2
 have hf:fieldsB e=true:=hs.2.2.2.1
 have hw:=congrArg EvM.who hsp
 have hn:=congrArg EvM.n hsp
 unfold spareE at hw hn
 simp only at hw hn
 unfold fieldsB at hf
 by_cases k0:e.kind=0
 ·simp [k0,hasN,maybeB,belowB] at hf hn
  omega
 by_cases k1:e.kind=1∨e.kind=2
 ·rcases k1 with k1 | k1 <;> simp [k1,hasN,hasW] at hn hw <;> omega
 by_cases k3:e.kind=3∨e.kind=4
 ·rw [if_neg k0,if_neg k1,if_pos k3] at hf
  rcases k3 with k3 | k3 <;> simp [k3,hasW,belowB] at hw hf <;> omega
 by_cases k5:e.kind=5∨e.kind=7
 ·rw [if_neg k0,if_neg k1,if_neg k3,if_pos k5] at hf
  rcases k5 with k5 | k5 <;> simp [k5,hasN,belowB] at hn hf <;> omega
 by_cases k9:e.kind=9
 ·rw [if_neg k0,if_neg k1,if_neg k3,if_neg k5,if_pos k9] at hf
  simp [belowB] at hf
  omega
 ·rw [if_neg k0,if_neg k1,if_neg k3,if_neg k5,if_neg k9] at hf
  simp at hf
  rcases hf with h6 | h6 <;> simp [h6,hasN,hasW] at hn hw <;> omega
theorem NetOk.tn {w:World} {N:NetL} (h:NetOk w N):∀ x∈N.E,x.ev.text.size≤10000:=fun x hx=>by
 have:=(right_text (h.rt x hx)).1
 omega
theorem NetOk.now {w w':World} {N:NetL} (h:NetOk w N) (hb:Below w.heap.size w w'):NetOk w' N :=
 ⟨h.pf.now hb,h.wy.now hb,h.ev.now hb,fun x hx=>(h.ok x hx).now hb,h.bd.now hb,h.wn,h.en,h.bn,h.rt,h.ck⟩
structure NB (w0 w:World) (b:Nat) (N:NetL):Prop where
 box:w.heap[b]?=some (.cells N.cs 86 (0,0))
 ok:NetOk w N
 hb:Below w0.heap.size w0 w
theorem NB.now {w0 w w':World} {b:Nat} {N:NetL} (h:NB w0 w b N) (hb:Below w.heap.size w w'):NB w0 w' b N :=
 ⟨(hb.block b (box_lt h.box)).trans h.box,h.ok.now hb,h.hb.trans (hb.mono h.hb.size)⟩
theorem NB.start {w:World} {N:NetL} (h:NetOk w N):NB w (w.alloc (.cells N.cs 86)) w.heap.size N :=
 ⟨(MapKept.heap_alloc w _).1,h.now ((Below.refl _ _).alloc (Nat.le_refl _) _),(Below.refl _ _).alloc (Nat.le_refl _) _⟩
theorem NB.rng {w0 w:World} {b:Nat} {N:NetL} (h:NB w0 w b N):w.rangeAt b 0 N.cs.toList:=range_block h.box rfl
theorem NB.cell {w0 w:World} {b:Nat} {N:NetL} (h:NB w0 w b N) (j:Nat) (v:Value) (hj:N.cs[j]?=some v):w.cell? ⟨b,j,none⟩=some v:=box_cell h.box j v hj
theorem NB.ev {w0 w:World} {b:Nat} {N:NetL} (h:NB w0 w b N) {k:Nat} (hk:k<N.E.length):∃ g off,N.eA=some ⟨g,off,none⟩∧g<w.heap.size∧w.rangeAt g (off+k * 12) N.E[k].cs∧(∀ j v,N.E[k].cs[j]?=some v→w.cell? ⟨g,off+k * 12+j,none⟩=some v)∧EvLOk w w.heap.size N.E[k]:=by
 obtain ⟨g,off,hA,hg,hc⟩:=h.ok.ev.at_ hk
 exact ⟨g,off,hA,hg,fun j v hj=>hc j v hj,hc,h.ok.ok _ (List.getElem_mem hk)⟩
theorem ev_at {E:List EvL} {k:Nat} (hk:k<E.length):evAt (evsL E) k=E[k].ev:=by
 unfold evAt
 rw [List.getD_eq_getElem?_getD,List.getElem?_map,List.getElem?_eq_getElem hk]
 rfl
/- Contracts of package view's message,parent,Root,and of the smallest methods of a network (layer 21). -/
set_option maxRecDepth 100000
theorem isMsg_neg {E:List EvM} {id:Int} (h:id<0):isMsg E id=false:=by simp [isMsg];omega
theorem isMsg_out {E:List EvM} {id:Int} (h:(E.length:Int)≤id):isMsg E id=false:=by
 have:decide (id<E.length)=false:=by simp;omega
 simp [isMsg,this]
theorem isMsg_in {E:List EvL} {k:Nat} (hk:k<E.length):isMsg (evsL E) k=(E[k].ev.kind==0):=by
 have h1:decide ((0:Int)≤(k:Int))=true:=by simp
 have h2:decide ((k:Int)<(evsL E).length)=true:=by simp;omega
 unfold isMsg
 rw [h1,h2,Int.toNat_natCast,ev_at hk]
 rfl
theorem vMsg_any (E:List EvL) (A:Option Addr) (c:Nat) (id:Int) (w:World) (hr:RdL 12 EvL.cs w w.heap.size A E) (hl:E.length≤1000000) :
  Calls Tryz.prog 179 #[.slice A E.length c,.int .i64 id] w fun e w'=>e=.returned (.bool (isMsg (evsL E) id))∧w=w':=by
 by_cases h0:id<0
 ·have HQ:=hid (isMsg_neg (E:=evsL E) h0)
  go_enter Tryz.func179,Tryz.ntmps179
  go_wp2_with fail
  go_ret
  exact ⟨by rw [HQ.out];rfl,rfl⟩
 obtain ⟨k,rfl⟩:∃ k:Nat,id=k:=⟨id.toNat,by omega⟩
 clear h0
 by_cases hk:k<E.length
 ·have HQ:=hid (isMsg_in hk)
  obtain ⟨b,off,rfl,hb,hcc⟩:=hr.at_ hk
  have z3:=hcc 3 (.int .i64 E[k].ev.kind) rfl
  clear hcc hr
  generalize E[k].ev.kind=kd at *
  go_enter Tryz.func179,Tryz.ntmps179
  go_wp2_with fail
  go_ret
  exact ⟨by rw [HQ.out];rfl,rfl⟩
 ·have HQ:=hid (isMsg_out (E:=evsL E) (id:=k) (by simp;omega))
  have d1:decide ((k:Int)<E.length)=false:=by simp;omega
  go_enter Tryz.func179,Tryz.ntmps179
  go_wp2_with fail
  go_ret
  exact ⟨by rw [HQ.out];rfl,rfl⟩
theorem vPar_any (E:List EvL) (A:Option Addr) (c k:Nat) (w:World) (hr:RdL 12 EvL.cs w w.heap.size A E) (hl:E.length≤1000000) (hk:k<E.length) :
  Calls Tryz.prog 180 #[.slice A E.length c,.int .i64 k] w fun e w'=>e=.returned (.int .i64 (parI (evsL E) k))∧w=w':=by
 have HC:=hid (vMsg_any E A c E[k].ev.target w hr hl)
 have HQ:Hid (parI (evsL E) k=if (decide (E[k].ev.target<k) && isMsg (evsL E) E[k].ev.target)=true then E[k].ev.target else -1):=hid (by unfold parI;rw [ev_at hk])
 obtain ⟨b,off,rfl,hb,hcc⟩:=hr.at_ hk
 have z5:=hcc 5 (.int .i64 E[k].ev.target) rfl
 clear hcc hr
 generalize E[k].ev.target=t at *
 generalize isMsg (evsL E) t=m at *
 go_enter Tryz.func180,Tryz.ntmps180
 cases q1:decide (t<(k:Int))
 ·go_wp2_with fail
  go_ret
  exact ⟨by rw [HQ.out,q1];rfl,rfl⟩
 ·cases m
  ·go_wp2_with (go_at_call 179;refine HC.out.mono ?_;rintro e w' ⟨rfl,rfl⟩)
   go_ret
   exact ⟨by rw [HQ.out,q1];rfl,rfl⟩
  ·go_wp2_with (go_at_call 179;refine HC.out.mono ?_;rintro e w' ⟨rfl,rfl⟩)
   go_ret
   exact ⟨by rw [HQ.out,q1];rfl,rfl⟩
theorem parI_lt {E:List EvM} {k:Nat}:parI E k<k:=by
 unfold parI
 split
 ·rename_i h
  simp at h
  exact h.1
 ·omega
theorem isMsg_lt {E:List EvL} {id:Int} (h:isMsg (evsL E) id=true):∃ k:Nat,id=k∧k<E.length:=by
 simp [isMsg] at h
 exact ⟨id.toNat,by omega,by omega⟩
theorem vRoot_any (E:List EvL) (A:Option Addr) (c:Nat) (id:Int) (w:World) (hr:RdL 12 EvL.cs w w.heap.size A E) (hl:E.length≤1000000) :
  Calls Tryz.prog 164 #[.slice A E.length c,.int .i64 id] w fun e w'=>e=.returned (.int .i64 (rootF (evsL E) id))∧w=w':=by
 have HC:=hid (vMsg_any E A c id w hr hl)
 have HP:=hid (fun k hk=>vPar_any E A c k w hr hl hk)
 clear hr
 cases hm:isMsg (evsL E) id
 ·have HQ:Hid (rootF (evsL E) id=-1):=hid (by unfold rootF;rw [hm];rfl)
  rw [hm] at HC
  clear hm
  go_enter Tryz.func164,Tryz.ntmps164
  go_wp2_with (go_at_call 179;refine HC.out.mono ?_;rintro e w' ⟨rfl,rfl⟩)
  go_ret
  exact ⟨by rw [HQ.out];rfl,rfl⟩
 ·obtain ⟨k,rfl,hk⟩:=isMsg_lt hm
  have HQ:Hid (rootF (evsL E) k=rootGo (evsL E) k k):=hid (by unfold rootF;rw [hm];rfl)
  rw [hm] at HC
  clear hm
  have HPk:=hid (HP.out k hk)
  go_enter Tryz.func164,Tryz.ntmps164
  go_wp2_with (first
   | (go_at_call 179;refine HC.out.mono ?_;rintro e w' ⟨rfl,rfl⟩)
   | (go_at_call 180;refine HPk.out.mono ?_;rintro e w' ⟨rfl,rfl⟩)
   | fail)
  go_loopw [1,5] (fun a b wr=>∃ i:Nat,i<E.length∧a=.int .i64 i∧b=.int .i64 (parI (evsL E) i)∧rootGo (evsL E) k k=rootGo (evsL E) i i∧w=wr) (fun a _ _=>(intOf a).toNat)
  case atStart=>exact ⟨k,hk,rfl,rfl,rfl,rfl⟩
  case round =>
   obtain ⟨i,hi,rfl,rfl,heq,rfl⟩:=hrel
   have HE:=hid heq
   have hlt:parI (evsL E) i<i:=parI_lt
   have HS:Hid (∀ j:Nat,parI (evsL E) i=j→rootGo (evsL E) i i=rootGo (evsL E) j j):=hid (fun j hj=>by
    have:=rootGo_step (E:=evsL E) (f:=i) (id:=i) (by omega) (Nat.le_refl _) (by omega)
    rw [this,hj]
    rfl)
   have HZ:Hid (parI (evsL E) i<0→rootGo (evsL E) i i=i):=hid (fun h=>by
    cases i with
    | zero=>rfl
    | succ i=>simp only [rootGo,h,if_true])
   clear heq
   by_cases hp:parI (evsL E) i<0
   ·have HR:=hid (HE.out.trans (HZ.out hp))
    generalize parI (evsL E) i=q at *
    go_wp2_with fail
    go_ret
    exact ⟨by rw [HQ.out,HR.out];rfl,rfl⟩
   ·obtain ⟨j,hj⟩:∃ j:Nat,parI (evsL E) i=j:=⟨(parI (evsL E) i).toNat,by omega⟩
    have HR:=hid (HE.out.trans (HS.out j hj))
    have hji:j<i:=by omega
    have hj2:j<E.length:=by omega
    have HPj:=hid (HP.out j hj2)
    rw [hj] at *
    clear hj hlt HS HZ
    go_wp2_with (go_at_call 180;refine HPj.out.mono ?_;rintro e w' ⟨rfl,rfl⟩)
    go_roundw
    case rel=>exact ⟨j,hj2,rfl,rfl,HR.out,trivial⟩
    case measure=>simp [intOf];omega
theorem way_at2 {w0 w:World} {b:Nat} {N:NetL} (h:NB w0 w b N) {c:Nat} (hc:c<9):∃ g off,N.wA=some ⟨g,off,none⟩∧w.cell? ⟨g,off+c * 2,none⟩=some (.int .i64 (N.W.getD c (0,0)).1)∧c<N.W.length:=by
 have hk:c<N.W.length:=by rw [h.ok.wn];exact hc
 obtain ⟨g,off,hA,_,hcc⟩:=h.ok.wy.at_ hk
 refine ⟨g,off,hA,?_,hk⟩
 have:=hcc 0 (.int .i64 N.W[c].1) rfl
 rw [List.getD_eq_getElem?_getD,List.getElem?_eq_getElem hk]
 exact this
theorem foSame_any (N:NetL) (c:Nat) (hc:c<9) (w:World) (h:NetOk w N) :
  Calls Tryz.prog 133 #[N.v,.int .i64 c] w fun e w'=>e=.returned (.bool (sameW N.W c))∧Below w.heap.size w w':=by
 have HN:=NB.start h
 have HQ:Hid (sameW N.W c=((N.W.getD c (0,0)).1==0)):=hid rfl
 obtain ⟨g,off,hA,hz,hk⟩:=way_at2 HN hc
 have z22:=HN.cell 22 (.slice N.wA N.W.length N.wc) rfl
 have HB:=hid HN.hb
 rw [hA] at z22
 clear h HN hA
 generalize (N.W.getD c (0,0)).1=x at *
 go_enter Tryz.func133,Tryz.ntmps133
 go_wp2_with fail
 go_ret
 exact ⟨by rw [HQ.out];rfl,HB.out⟩
theorem foMsg_any (N:NetL) (id than:Int) (w:World) (h:NetOk w N) :
  Calls Tryz.prog 129 #[N.v,.int .i64 id,.int .i64 than] w fun e w'=>e=.returned (.bool (msgB (evsL N.E) id than))∧Below w.heap.size w w':=by
 have HN:=NB.start h
 have z23:=HN.cell 23 (.slice N.eA N.E.length N.ec) rfl
 have HB:=hid HN.hb
 have hen:=h.en
 have HQ:Hid (msgB (evsL N.E) id than=(decide (0≤id) && (decide (id<than) && (decide (id<N.E.length) && ((evAt (evsL N.E) id.toNat).kind==0))))):=hid (by unfold msgB;simp)
 cases d0:decide (0≤id)
 ·clear HN
  go_enter Tryz.func129,Tryz.ntmps129
  go_wp2_with fail
  go_ret
  exact ⟨by rw [HQ.out,d0];rfl,HB.out⟩
 cases d1:decide (id<than)
 ·clear HN
  go_enter Tryz.func129,Tryz.ntmps129
  go_wp2_with fail
  go_ret
  exact ⟨by rw [HQ.out,d0,d1];rfl,HB.out⟩
 obtain ⟨k,rfl⟩:∃ k:Nat,id=k:=⟨id.toNat,by simp at d0;omega⟩
 cases d2:decide ((k:Int)<N.E.length)
 ·have d3:decide (k<N.E.length)=false:=by simp at d2 ⊢;omega
  have d4:N.E.length≤k:=by simp at d2;omega
  clear HN
  go_enter Tryz.func129,Tryz.ntmps129
  go_wp2_with fail
  go_ret
  exact ⟨by rw [HQ.out,d0,d1,d2];rfl,HB.out⟩
 ·have hk:k<N.E.length:=by simp at d2;omega
  obtain ⟨g,off,hA,_,_,hcc,_⟩:=HN.ev hk
  have z3:=hcc 3 (.int .i64 N.E[k].ev.kind) rfl
  rw [Int.toNat_natCast,ev_at hk] at HQ
  rw [hA] at z23
  clear HN hcc hA
  generalize N.E[k].ev.kind=kd at *
  go_enter Tryz.func129,Tryz.ntmps129
  go_wp2_with fail
  go_ret
  exact ⟨by rw [HQ.out,d0,d1,d2];rfl,HB.out⟩
theorem foPlace_any (N:NetL) (id:Int) (w:World) (h:NetOk w N) :
  Calls Tryz.prog 130 #[N.v,.int .i64 id] w fun e w'=>e=.returned (.int .i64 (placeP N.p (evsL N.E) id))∧Below w.heap.size w w':=by
 have HN:=NB.start h
 have z5:=HN.cell 5 (.int .i64 N.p.thread) rfl
 have z23:=HN.cell 23 (.slice N.eA N.E.length N.ec) rfl
 have HB:=hid HN.hb
 have HC:=hid (vRoot_any N.E N.eA N.ec id _ HN.ok.ev (by have:=h.en;omega))
 have HQ:Hid (placeP N.p (evsL N.E) id=if N.p.thread=2 then id else if N.p.thread=1 then rootF (evsL N.E) id else -1):=hid rfl
 clear HN h
 by_cases h2:N.p.thread=2
 ·have HR:Hid (placeP N.p (evsL N.E) id=id):=hid (by rw [HQ.out,if_pos h2])
  go_enter Tryz.func130,Tryz.ntmps130
  go_wp2_with fail
  go_ret
  exact ⟨by rw [HR.out];rfl,HB.out⟩
 by_cases h1:N.p.thread=1
 ·have HR:Hid (placeP N.p (evsL N.E) id=rootF (evsL N.E) id):=hid (by rw [HQ.out,if_neg h2,if_pos h1])
  generalize rootF (evsL N.E) id=r at *
  go_enter Tryz.func130,Tryz.ntmps130
  go_wp2_with (go_at_call 164;refine HC.out.mono ?_;rintro e w' ⟨rfl,rfl⟩)
  go_ret
  exact ⟨by rw [HR.out];rfl,HB.out⟩
 ·have HR:Hid (placeP N.p (evsL N.E) id=-1):=hid (by rw [HQ.out,if_neg h2,if_neg h1])
  go_enter Tryz.func130,Tryz.ntmps130
  go_wp2_with fail
  go_ret
  exact ⟨by rw [HR.out];rfl,HB.out⟩
/- Contracts of package loss: right,Certify (layer 20),for ways that are compiled. -/
def WayOk (x:Int × Int):Prop:=0≤x.1∧x.1<6∧0≤x.2∧x.2<3
theorem way_ok (p:Prof):∀ x∈wayL p,WayOk x:=by
 intro x hx
 unfold wayL at hx
 simp only [List.mem_cons,List.not_mem_nil,or_false] at hx
 unfold WayOk
 rcases hx with rfl | rfl | rfl | rfl | rfl | rfl | rfl | rfl | rfl
 ·simp
 ·unfold longW;split
  ·split <;> simp
  ·simp
 ·unfold editW;split <;> simp
 ·unfold goneW;split
  ·split <;> simp
  ·simp
 ·unfold reactW;split
  ·split <;> simp
  ·simp
 ·unfold replyW;split
  ·simp
  ·split <;> simp
 ·unfold ownW;split <;> simp
 ·unfold ownW;split <;> simp
 ·unfold Go.Proofs.YtlnnjdibkbabiaaGreatDoor.fileW;split
  ·simp
  ·split <;> simp
theorem loC1_any (x:Int × Int) (w:World) (h:WayOk x):Calls Tryz.prog 119 #[.agg #[.int .i64 x.1,.int .i64 x.2]] w fun e w'=>e=.returned (.bool false)∧Below w.heap.size w w':=by
 have HB:=hid (show Below w.heap.size w (w.alloc (.cells #[.int .i64 x.1,.int .i64 x.2] 80)) from (Below.refl _ _).alloc (Nat.le_refl _) _)
 obtain ⟨h1,h2,h3,h4⟩:=h
 obtain ⟨a,b⟩:=x
 simp only at h1 h2 h3 h4 HB ⊢
 have d1:decide (a<0)=false:=by simp;omega
 have d2:decide (6≤a)=false:=by simp;omega
 have d3:decide (b<0)=false:=by simp;omega
 have d4:decide (3≤b)=false:=by simp;omega
 go_enter Tryz.func119,Tryz.ntmps119
 go_wp2_with fail
 go_ret
 exact ⟨rfl,HB.out⟩
theorem rd_way {w:World} {B:Nat} {A:Option Addr} {k:Nat} {xs:List (Int × Int)} (h:RdL 2 wayC w B A xs) (hk:k<xs.length):∃ b off,A=some ⟨b,off,none⟩∧b<B∧w.cell? ⟨b,off+k * 2,none⟩=some (.int .i64 xs[k].1)∧w.cell? ⟨b,off+k * 2+1,none⟩=some (.int .i64 xs[k].2):=by
 obtain ⟨b,off,e,hb,hc⟩:=h.at_ hk
 exact ⟨b,off,e,hb,by simpa using hc 0 _ rfl,hc 1 _ rfl⟩
theorem loIF_any (xs:List (Int × Int)) (A:Option Addr) (c:Nat) (w:World) (hr:RdL 2 wayC w w.heap.size A xs) (hm:xs.length≤1000) (ho:∀ x∈xs,WayOk x) :
  Calls Tryz.prog 162 #[.slice A xs.length c,.func (.func 119) #[] #[]] w fun e w'=>e=.returned (.int .i64 (-1))∧Below w.heap.size w w':=by
 have hK:=fun args w'=>enter_fn Tryz.func119 (by kernel_rfl) rfl args w'
 have HR:=hid hr
 have HO:=hid ho
 clear hr ho
 go_enter Tryz.func162,Tryz.ntmps162
 go_wp2_with fail
 go_loopw [5,8] (fun _ i wr=>∃ k:Nat,k≤xs.length∧i=.int .i64 k∧Below w.heap.size w wr) (fun _ i _=>xs.length - (intOf i).toNat)
 case atStart=>exact ⟨0,Nat.zero_le _,rfl,Below.refl _ _⟩
 case round =>
  obtain ⟨k,hk,rfl,hb⟩:=hrel
  have HB:=hid hb
  by_cases hlt:k<xs.length
  ·obtain ⟨b,off,rfl,hbb,c0,c1⟩:=rd_way (HR.out.now hb) hlt
   have HC:=hid (loC1_any xs[k] wr (HO.out _ (List.getElem_mem hlt)))
   clear hb
   generalize xs[k]=x at *
   obtain ⟨a1,a2⟩:=x
   simp only at c0 c1 HC
   go_wp2_with fail
   refine HC.out.mono ?_
   rintro e w1 ⟨rfl,hb1⟩
   have HB1:=hid (HB.out.trans (hb1.mono HB.out.size))
   clear hb1
   go_wp2_with fail
   go_roundw
   case rel=>exact ⟨k+1,by omega,by go_num,HB1.out⟩
   case measure=>simp [intOf];omega
  ·have d1:decide (k<xs.length)=false:=decide_eq_false (by omega)
   go_wp2_with fail
   go_ret
   exact ⟨rfl,HB.out⟩
theorem loRight_any (xs:List (Int × Int)) (A:Option Addr) (c:Nat) (w:World) (hr:RdL 2 wayC w w.heap.size A xs) (hm:xs.length=9) (ho:∀ x∈xs,WayOk x) :
  Calls Tryz.prog 67 #[.slice A xs.length c] w fun e w'=>e=.returned (.bool true)∧Below w.heap.size w w':=by
 have HI:=hid (loIF_any xs A c w hr (by omega) ho)
 have HCF:Hid (Calls Tryz.prog 120 #[.slice A xs.length c,.func (.func 119) #[] #[]] w fun e w'=>e=.returned (.bool false)∧Below w.heap.size w w'):=hid (by
  clear hr hm ho
  go_enter Tryz.func120,Tryz.ntmps120
  go_wp2_with fail
  refine HI.out.mono ?_
  rintro e w1 ⟨rfl,hb1⟩
  go_wp2_with fail
  go_ret
  exact ⟨rfl,hb1⟩)
 clear hr ho HI
 have h9:((xs.length:Int)==9)=true:=by simp [hm]
 have HM:=hid hm
 clear hm
 go_enter Tryz.func67,Tryz.ntmps67
 go_wp2_with fail
 refine HCF.out.mono ?_
 rintro e w1 ⟨rfl,hb1⟩
 go_wp2_with fail
 go_ret
 exact ⟨rfl,hb1⟩
def lossC (x:Loss):List Value:=[.int .i64 x.1,.int .i64 x.2.1,.int .i64 x.2.2]
theorem layLoss:Lay 3 lossC:=⟨fun _=>rfl,fun x u hu=>by simp only [lossC,List.mem_cons,List.not_mem_nil,or_false] at hu;rcases hu with rfl | rfl | rfl <;> rfl⟩
theorem slLoss:SlTy Tryz.prog 60 104 3 24:=by
 obtain ⟨i,hi,h0,h1,h2⟩:=info_parts (show (Tryz.prog.info? 104).map (fun i=>(i.zero,i.size,i.bytes))=some (some (.agg #[.int .i64 0,.int .i64 0,.int .i64 0]),3,24) by kernel_rfl)
 exact ⟨Tryz.underlying60,⟨i,_,hi,h0,h1,h2,rfl⟩,by decide,by decide⟩
theorem cert_snoc (x:Int × Int):∀ (l:List (Int × Int)) (i:Int),certGo i (l++[x])=certGo i l++(if x.1≠0 then [(i+l.length,x.1,x.2)] else [])
 | [],i=>by
  simp only [List.nil_append,certGo,List.length_nil]
  split <;> simp
 | y::r,i=>by
  rw [List.cons_append]
  unfold certGo
  have h:=cert_snoc x r (i+1)
  have e:i+1+(r.length:Int)=i+((y::r).length:Int):=by simp;omega
  rw [e] at h
  split
  ·rw [h,List.cons_append]
  ·exact h
theorem cert_len:∀ (l:List (Int × Int)) (i:Int),(certGo i l).length≤l.length
 | [],_=>by simp [certGo]
 | y::r,i=>by
  unfold certGo
  have:=cert_len r (i+1)
  split <;> simp <;> omega
theorem loCert_any (p:Prof) (A:Option Addr) (pc:Nat) (W:List (Int × Int)) (wA:Option Addr) (wc:Nat) (w:World) (hp:ProfOk w w.heap.size A p) (hpc:p.types.length≤pc) (ck:profCheck p=0) (hr:RdL 2 wayC w w.heap.size wA W) (hW:W=wayL p) :
  Calls Tryz.prog 29 #[p.v A pc,.slice wA W.length wc] w fun e w'=>∃ A' c',e=.returned (.tuple #[.slice A' (certL W).length c',.int .i64 0])∧OwnL w' w.heap.size 104 3 lossC A' c' (certL W)∧Below w.heap.size w w':=by
 have hb0:Below w.heap.size w (w.alloc (.cells (p.cs A pc) 24)):=(Below.refl _ _).alloc (Nat.le_refl _) _
 have HRA:=hid (boxRange w (p.cs A pc) 24 (Below.refl _ _))
 have hck:=pCheck_any p A pc _ (hp.now hb0) hpc
 rw [ck] at hck
 have HCk:=hid hck
 have HR:=hid (hr.now hb0)
 have HB:=hid hb0
 have HWl:Hid (W.length=9):=hid (by rw [hW];rfl)
 have HWo:Hid (∀ x∈W,WayOk x):=hid (by rw [hW];exact way_ok p)
 clear hp hr hb0 hck hW ck
 go_enter Tryz.func29,Tryz.ntmps29
 go_wp2_with ((with_reducible show wpList _ _ _ (Oper.mk _ (Op.load 24 _) _ _ _ _::_) _ _);refine wpList_load_g rfl 24 (.tmp 2) rfl w.heap.size 0 rfl (p.cs A pc).toList _ HRA.out Tryz.underlying24 rfl (by kernel_rfl) ?_)
 refine HCk.out.mono ?_
 rintro e w1 ⟨rfl,hb1⟩
 have HR:=hid (HR.out.now hb1)
 have HB:=hid (HB.out.trans (hb1.mono HB.out.size))
 have HRi:=hid (loRight_any W wA wc w1 HR.out HWl.out HWo.out)
 clear hb1 HRA HCk
 go_wp2_with fail
 refine HRi.out.mono ?_
 rintro e w2 ⟨rfl,hb1⟩
 have HR:=hid (HR.out.now hb1)
 have HB:=hid (HB.out.trans (hb1.mono HB.out.size))
 clear hb1 HRi
 go_wp2_with fail
 go_loopw [6,7,8,17] (fun o _ _ i wx=>∃ (k:Nat) (A':Option Addr) (c':Nat),k≤W.length∧i=.int .i64 k∧o=.slice A' (certGo 0 (W.take k)).length c'∧OwnL wx w2.heap.size 104 3 lossC A' c' (certGo 0 (W.take k))∧Below w2.heap.size w2 wx) (fun _ _ _ i _=>W.length - (intOf i).toNat)
 case atStart=>exact ⟨0,none,0,Nat.zero_le _,rfl,rfl,OwnL.nil_,Below.refl _ _⟩
 case round =>
  obtain ⟨k,A2,c2,hk,rfl,rfl,hown,hbw⟩:=hrel
  have hw9:W.length≤9:=by have:=HWl.out;omega
  have HO:=hid hown
  have HBw:=hid hbw
  have HRw:=hid (HR.out.now hbw)
  clear hown hbw
  by_cases hlt:k<W.length
  ·have HSn:Hid (certGo 0 (W.take (k+1))=certGo 0 (W.take k)++(if W[k].1≠0 then [(((k:Nat):Int),W[k].1,W[k].2)] else [])):=hid (by
    rw [List.take_succ_eq_append_getElem hlt,cert_snoc]
    have:(0:Int)+((W.take k).length:Int)=k:=by simp;omega
    rw [this])
   have HLe:=hid (Nat.le_trans (cert_len (W.take k) 0) (by have:=HWl.out;rw [List.length_take];omega:(W.take k).length≤9))
   obtain ⟨b,off,rfl,_,c0,c1⟩:=rd_way HRw.out hlt
   generalize certGo 0 (W.take k)=out at *
   generalize W[k]=x at *
   obtain ⟨a1,a2⟩:=x
   simp only at c0 c1 HSn
   go_upto_region 9 with fail
   change Code.wp _ _ _ _ (wr.alloc (.cells #[.int .i64 a1,.int .i64 a2] 80))
   have hb1:Below wr.heap.size wr (wr.alloc (.cells #[.int .i64 a1,.int .i64 a2] 80)):=(Below.refl _ _).alloc (Nat.le_refl _) _
   have hx1:(wr.alloc (.cells #[.int .i64 a1,.int .i64 a2] 80)).heap[wr.heap.size]?=some (.cells #[.int .i64 a1,.int .i64 a2] 80 (0,0)):=(MapKept.heap_alloc wr _).1
   have HO1:=hid (HO.out.below hb1)
   have HB1:=hid (HBw.out.trans (hb1.mono HBw.out.size))
   have y0:=box_cell hx1 0 (.int .i64 a1) rfl
   have y1:=box_cell hx1 1 (.int .i64 a2) rfl
   clear hb1 hx1 c0 c1 HRw
   obtain ⟨xb,hxb⟩:∃ y,y=wr.heap.size:=⟨_,rfl⟩
   rw [← hxb] at y0 y1 ⊢
   clear hxb
   generalize wr.alloc (.cells #[.int .i64 a1,.int .i64 a2] 80)=w3 at *
   cases q:a1 != 0
   ·have q2:a1=0:=by simpa using q
    have HV:Hid (certGo 0 (W.take (k+1))=out):=hid (by rw [HSn.out,if_neg (fun h=>h q2),List.append_nil])
    clear q2
    go_wp2_with fail
    go_roundw
    case rel=>exact ⟨k+1,A2,c2,by omega,by go_num,by rw [HV.out],by rw [HV.out];exact HO1.out,HB1.out⟩
    case measure=>simp [intOf];omega
   ·have q2:a1≠0:=by simpa using q
    have HV:Hid (certGo 0 (W.take (k+1))=out++[((k:Int),a1,a2)]):=hid (by rw [HSn.out,if_pos q2])
    clear q2
    go_wp2_with (first
     | (at_builtin;refine wp_append_l rfl (.tmp 25) (.tmp 32) rfl slLoss layLoss w2.heap.size (xs:=out) (ys:=[((k:Int),a1,a2)]) rfl rfl (HO1.out.alloc _) rfl rfl (RdL.one (enc:=lossC) w3 ((k:Int),a1,a2) _ _ rfl _ rfl) (by have:=HLe.out;simp;omega) (by have:=HB1.out.size;simp;omega) ?_;intro A3 c3 w6 hown hg hb2 hat;have HO3:=hid hown;have HB3:=hid (((Below.refl w2.heap.size w3).alloc HB1.out.size _).trans hb2);clear hown hg hb2 hat)
     | fail)
    go_roundw
    case rel=>exact ⟨k+1,A3,c3,by omega,by go_num,by rw [HV.out];simp,by rw [HV.out];exact HO3.out,HB1.out.trans HB3.out⟩
    case measure=>simp [intOf];omega
  ·have hke:k=W.length:=by omega
   have d1:decide (k<W.length)=false:=decide_eq_false (by omega)
   have HKe:=hid hke
   have HSz:=hid HB.out.size
   clear hke hlt
   go_wp2_with fail
   go_ret2
   have hc:certGo 0 (W.take k)=certL W:=by rw [HKe.out,List.take_length];rfl
   exact ⟨A2,c2,by rw [hc];rfl,by have:=HO.out.mono HSz.out;rwa [hc] at this,HB.out.trans (HBw.out.mono HB.out.size)⟩
/- Contract of linguaref20.Same (layer 20). -/
theorem neq_loss (a b c e f g:Int) (w:World):(binOp .neq 104 (.agg #[.int .i64 a,.int .i64 b,.int .i64 c]) (.agg #[.int .i64 e,.int .i64 f,.int .i64 g])).run Tryz.prog w=.ok (.bool (!(a==e && (b==f && c==g)))) w:=by
 by_cases h1:a=e <;> by_cases h2:b=f <;> by_cases h3:c=g <;> simp [go_sem,h1,h2,h3]
theorem loss_ne (p q:Loss) (h:p≠q):(p.1==q.1 && (p.2.1==q.2.1 && p.2.2==q.2.2))=false:=by
 obtain ⟨a,b,c⟩:=p
 obtain ⟨e,f,g⟩:=q
 rw [← Bool.not_eq_true]
 intro hh
 simp at hh
 exact h (by simp [hh])
theorem loss_hit (xs ys:List Loss) (k:Nat) {p q:Loss} (hp:xs[k]?=some p) (hq:ys[k]?=some q) (hne:p≠q):decide (xs=ys)=false:=by
 rw [decide_eq_false_iff_not]
 rintro rfl
 rw [hp] at hq
 injection hq with hq
 exact hne hq
theorem rd_loss {w:World} {B:Nat} {A:Option Addr} {xs:List Loss} {k:Nat} (h:RdL 3 lossC w B A xs) (hk:k<xs.length):∃ b off p,A=some ⟨b,off,none⟩∧b<B∧xs[k]?=some p ∧
  w.cell? ⟨b,off+k * 3,none⟩=some (.int .i64 p.1)∧w.cell? ⟨b,off+k * 3+1,none⟩=some (.int .i64 p.2.1)∧w.cell? ⟨b,off+k * 3+2,none⟩=some (.int .i64 p.2.2):=by
 obtain ⟨b,off,e,hb,hc⟩:=h.at_ hk
 exact ⟨b,off,xs[k],e,hb,List.getElem?_eq_getElem hk,by simpa using hc 0 _ rfl,hc 1 _ rfl,hc 2 _ rfl⟩
theorem rSame20_any (xs ys:List Loss) (A B:Option Addr) (c d:Nat) (w:World) (hx:RdL 3 lossC w w.heap.size A xs) (hy:RdL 3 lossC w w.heap.size B ys) (hm:xs.length≤9223372036854775807) :
  Calls Tryz.prog 26 #[.slice A xs.length c,.slice B ys.length d] w fun e w'=>e=.returned (.bool (decide (xs=ys)))∧Below w.heap.size w w':=by
 by_cases hl:xs.length=ys.length
 ·have HL:=hid hl
  rw [← hl]
  have hl2:ys.length≤xs.length:=by omega
  clear hl
  go_enter Tryz.func26,Tryz.ntmps26
  go_wp2
  go_loopw [5] (fun i wr=>∃ k:Nat,k≤xs.length∧i=.int .i64 k∧xs.take k=ys.take k∧Below w.heap.size w wr) (fun i _=>xs.length - (intOf i).toNat)
  case atStart=>exact ⟨0,Nat.zero_le _,rfl,rfl,Below.refl _ _⟩
  case round =>
   obtain ⟨k,hk,rfl,hf,hb⟩:=hrel
   have HF:=hid hf
   clear hf
   by_cases hlt:k<xs.length
   ·have hlt2:k<ys.length:=by have:=HL.out;omega
    obtain ⟨b,off,p,rfl,hbb,hp,c0,c1,c2⟩:=rd_loss (hx.now hb) hlt
    obtain ⟨b',off',q,rfl,hbb',hq,d0,d1,d2⟩:=rd_loss (hy.now hb) hlt2
    have HP:=hid hp
    have HQ:=hid hq
    clear hp hq
    by_cases hpq:p=q
    ·subst hpq
     go_wp2_with fail
     go_quiet (fail)
     go_wp2
     go_roundw
     case rel =>
      refine ⟨k+1,by omega,by go_num,?_,below_drewN hb _⟩
      obtain ⟨_,e1⟩:=List.getElem?_eq_some_iff.1 HP.out
      obtain ⟨_,e2⟩:=List.getElem?_eq_some_iff.1 HQ.out
      rw [List.take_succ_eq_append_getElem hlt,List.take_succ_eq_append_getElem hlt2,HF.out,e1,e2]
     case measure=>simp [intOf];omega
    ·have hne:=loss_ne p q hpq
     have hrun:=fun w=>neq_loss p.1 p.2.1 p.2.2 q.1 q.2.1 q.2.2 w
     rw [hne] at hrun
     clear hne
     go_wp2_with fail
     go_quiet (fail)
     go_wp2
     go_ret
     have h3:=loss_hit xs ys k HP.out HQ.out hpq
     exact ⟨by rw [h3];rfl,below_drewN hb _⟩
   ·go_wp2
    go_ret
    have h2:=HF.out
    have h3:=HL.out
    rw [List.take_of_length_le (by omega),List.take_of_length_le (by omega)] at h2
    exact ⟨by simp [h2],hb⟩
 ·have hl2:((xs.length:Int) != (ys.length:Int))=true:=by rw [bne_iff_ne];omega
  go_enter Tryz.func26,Tryz.ntmps26
  go_wp2
  go_ret
  exact ⟨by rw [decide_eq_false (fun e=>hl (by rw [e]))];rfl,Below.refl _ _⟩
/- lingualaw24's sample. -/
def tHello:ByteArray:=⟨#[104,101,108,108,111]⟩
def tYes:ByteArray:=⟨#[121,101,115]⟩
def tHi:ByteArray:=⟨#[104,105]⟩
def sE0:EvM:=⟨1,0,[],0,0,-1,-1,-1,0,tHello,[],0⟩
def sE1:EvM:=⟨2,0,[],0,0,0,-1,-1,0,tYes,[],0⟩
def sE2:EvM:=⟨1,1,[],1,0,0,-1,-1,0,tHi,[],0⟩
def sE3:EvM:=⟨3,0,[],3,0,0,-1,-1,7,⟨#[]⟩,[],0⟩
def sampleE:List EvM:=[sE0,sE1,sE2,sE3]
def tRe:ByteArray:=⟨#[114,101,58,32,104,101,108,108,111,10,121,101,115]⟩
def tRct:ByteArray:=⟨#[114,101,97,99,116,105,111,110,32,55]⟩
def sB1:EvM:=⟨2,0,[],0,0,-1,-1,-1,0,tRe,[],0⟩
def sB3:EvM:=⟨3,0,[],0,0,-1,-1,-1,0,tRct,[],0⟩
theorem trip_plain:tripP plainTP sampleE=(0,[sE0,sB1,sE2,sB3],[(4,3,2),(5,2,2)]):=by kernel_rfl
theorem trip_rich0:tripP richTP sampleE=(0,sampleE,[]):=by kernel_rfl
abbrev mkEv (e:EvM):EvL:=⟨e,none,0,none,0⟩
theorem lSample_any (w:World):Calls Tryz.prog 57 #[] w fun e w'=>∃ g,e=.returned (.slice (some ⟨g,0,none⟩) 4 4)∧RdL 12 EvL.cs w' w'.heap.size (some ⟨g,0,none⟩) (sampleE.map mkEv)∧Below w.heap.size w w':=by
 go_enter Tryz.func57,Tryz.ntmps57
 go_wp2_with fail
 go_ret
 exact ⟨w.heap.size,rfl,RdL.lit layEvL w (sampleE.map mkEv) _ 40 (by rfl),(Below.refl _ _).alloc (Nat.le_refl _) _⟩
theorem sample_ok (w:World) (B:Nat):∀ x∈sampleE.map mkEv,EvLOk w B x:=by
 intro x hx
 have hc:x.ev.causes=[]∧x.ev.files=[]∧x.ev.text.size≤20∧x.cA=none∧x.fA=none:=by
  simp only [sampleE,List.map_cons,List.map_nil,List.mem_cons,List.not_mem_nil,or_false] at hx
  rcases hx with rfl | rfl | rfl | rfl <;> exact ⟨rfl,rfl,by decide,rfl,rfl⟩
 obtain ⟨h1,h2,h3,h4,h5⟩:=hc
 refine ⟨⟨by rw [h1,h4];exact RdL.nil_,by rw [h2,h5];exact RdL.nil_,by rw [h1];simp,by rw [h2];simp,by omega⟩,by rw [h2];simp⟩
/- Contracts of linguaref16.Few (layer 16) and of lingualaw24's plain profile (layer 24). -/
def few16E (e:EvM):Bool:=!decide ((20:Int)<e.causes.length) && (!decide ((10:Int)<e.files.length) && !decide ((200:Int)<e.text.size))
def few16B (l:List EvM) (n:Nat):Bool:=decide (l.length≤n) && l.all few16E
theorem few16_no {l:List EvL} {k n:Nat} (hk:k<l.length) (h:few16E l[k].ev=false):few16B (evsL l) n=false:=by
 unfold few16B
 have:(evsL l).all few16E=false:=by
  rw [List.all_eq_false]
  exact ⟨l[k].ev,List.mem_map_of_mem (List.getElem_mem hk),by simp [h]⟩
 rw [this,Bool.and_false]
theorem rFew16_any (l:List EvL) (A:Option Addr) (c:Nat) (w:World) (hr:RdL 12 EvL.cs w w.heap.size A l) (hl:l.length≤9223372036854775807) :
  Calls Tryz.prog 23 #[.slice A l.length c,.int .i64 20] w fun e w'=>e=.returned (.bool (few16B (evsL l) 20))∧w=w':=by
 have HR:=hid hr
 clear hr
 go_enter Tryz.func23,Tryz.ntmps23
 go_wp2_with fail
 go_loopw [5] (fun i wr=>∃ k:Nat,k≤l.length∧k≤21∧i=.int .i64 k∧(∀ j (hj:j<l.length),j<k→few16E l[j].ev=true)∧w=wr) (fun i _=>l.length - (intOf i).toNat)
 case atStart=>exact ⟨0,Nat.zero_le _,by omega,rfl,fun j _ h=>by omega,rfl⟩
 case round =>
  obtain ⟨k,hk,hk21,rfl,ha,rfl⟩:=hrel
  have HA:=hid ha
  clear ha
  by_cases hlt:k<l.length
  ·by_cases h20:k≤20
   ·obtain ⟨b,off,rfl,hb,hcc⟩:=HR.out.at_ hlt
    have c2:=hcc 2 (.slice l[k].cA l[k].ev.causes.length l[k].cc) rfl
    have c9:=hcc 9 (.string l[k].ev.text) rfl
    have c10:=hcc 10 (.slice l[k].fA l[k].ev.files.length l[k].fc) rfl
    have HNo:Hid (few16E l[k].ev=false→few16B (evsL l) 20=false):=hid (few16_no hlt)
    have HE:Hid (few16E l[k].ev=(!decide ((20:Int)<l[k].ev.causes.length) && (!decide ((10:Int)<l[k].ev.files.length) && !decide ((200:Int)<l[k].ev.text.size)))):=hid rfl
    have HNx:Hid (few16E l[k].ev=true→∀ j (hj:j<l.length),j<k+1→few16E l[j].ev=true):=hid (fun h j hj hjk=>by
     by_cases he:j=k
     ·subst he;exact h
     ·exact HA.out j hj (by omega))
    have h20i:decide ((k:Int)≤20)=true:=by simp;omega
    clear hcc
    generalize few16E l[k].ev=q at *
    generalize l[k].ev.causes.length=cl at *
    generalize l[k].ev.files.length=fl at *
    generalize l[k].ev.text=tx at *
    cases d1:decide ((20:Int)<(cl:Int))
    ·cases d2:decide ((10:Int)<(fl:Int))
     ·cases d3:decide ((200:Int)<(tx.size:Int))
      ·have HQ:Hid (q=true):=hid (by rw [HE.out,d1,d2,d3];rfl)
       go_wp2_with fail
       go_roundw
       case rel=>exact ⟨k+1,by omega,by omega,by go_num,HNx.out HQ.out,trivial⟩
       case measure=>simp [intOf];omega
      ·have HQ:Hid (few16B (evsL l) 20=false):=hid (HNo.out (by rw [HE.out,d1,d2,d3];rfl))
       go_wp2_with fail
       go_ret
       exact ⟨by rw [HQ.out];rfl,rfl⟩
     ·have HQ:Hid (few16B (evsL l) 20=false):=hid (HNo.out (by rw [HE.out,d1,d2];rfl))
      go_wp2_with fail
      go_ret
      exact ⟨by rw [HQ.out];rfl,rfl⟩
    ·have HQ:Hid (few16B (evsL l) 20=false):=hid (HNo.out (by rw [HE.out,d1];rfl))
     go_wp2_with fail
     go_ret
     exact ⟨by rw [HQ.out];rfl,rfl⟩
   ·have HQ:Hid (few16B (evsL l) 20=false):=hid (by
     unfold few16B
     have:decide ((evsL l).length≤20)=false:=by simp;omega
     rw [this,Bool.false_and])
    have d1:decide ((k:Int)≤20)=false:=by simp;omega
    have d2:decide ((l.length:Int)≤20)=false:=by simp;omega
    go_wp2_with fail
    go_ret
    exact ⟨by rw [HQ.out];rfl,rfl⟩
  ·have hke:k=l.length:=by omega
   have d1:decide (k<l.length)=false:=decide_eq_false (by omega)
   have HQ:Hid (few16B (evsL l) 20=decide ((l.length:Int)≤20)):=hid (by
    unfold few16B
    have h1:(evsL l).all few16E=true:=by
     rw [List.all_eq_true]
     intro x hx
     obtain ⟨y,hy,rfl⟩:=List.mem_map.1 hx
     obtain ⟨j,hj,rfl⟩:=List.getElem_of_mem hy
     exact HA.out j hj (by omega)
    rw [h1,Bool.and_true]
    simp
    omega)
   clear hke
   go_wp2_with fail
   go_ret
   exact ⟨by rw [HQ.out];rfl,rfl⟩
/- Contract of lingualaw24.within. -/
end Go.Proofs.YtlnnjdibkbabiaaGreatDoor
