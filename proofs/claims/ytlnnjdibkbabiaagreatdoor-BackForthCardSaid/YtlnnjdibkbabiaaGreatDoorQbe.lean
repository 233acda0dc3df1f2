/- Contracts and plain laws, joined: StD, StE, StF, StG. -/
import Derived.Test.YtlnnjdibkbabiaaGreatDoorQap
import Derived.Test.YtlnnjdibkbabiaaGreatDoorQae
import Derived.Test.YtlnnjdibkbabiaaGreatDoorQai
import Derived.Deep.DeepCutAuto
import Derived.Deep.CutBlock
import Derived.Test.YtlnnjdibkbabiaaGreatDoorQah
/- state.once at Waiting,Sent,Debt (written by genstd.py). -/
set_option linter.unusedSimpArgs false
set_option linter.unusedVariables false
namespace Go.Proofs.YtlnnjdibkbabiaaGreatDoor
open Go.RowKit
set_option maxRecDepth 100000
structure FunD {T:Type} (w:World) (f:FV) (xs:List T) (vx:T→Value) (of:T→D2):Prop where
 ent:∀ args w',(callFunc f.n args).run Tryz.prog w'=.ok (.enter f.n args) w'
 run:∀ x∈xs,∀ w',Below w.heap.size w w'→Calls Tryz.prog f.n (f.bnd++#[vx x]++f.cap) w' fun e w''=>e=.returned (.agg #[.int .i64 (of x).a,.int .i64 (of x).b])∧Below w'.heap.size w' w''
theorem FunD.now {T:Type} {w w':World} {f:FV} {xs:List T} {vx:T→Value} {of:T→D2} (h:FunD w f xs vx of) (hb:Below w.heap.size w w'):FunD w' f xs vx of :=
 ⟨h.ent,fun x hx w2 h2=>h.run x hx w2 (hb.trans (h2.mono hb.size))⟩
/- Contract of hold.Right (layer 42). -/
theorem all_take {T:Type} (P:T→Bool) (xs:List T) (k:Nat) (hk:k<xs.length) (h:(xs.take k).all P=true) (h1:P xs[k]=true):(xs.take (k+1)).all P=true:=by
 rw [List.take_succ_eq_append_getElem hk,List.all_append,h]
 simp [h1]
/- Contracts of linguaref42.Right,linguaref46.Once,Ascend. -/
/-! Neighbours in a list. -/
/- A state in memory (layer 46;written by genstg.py). -/
structure NL where
 l:List E5
 A:Option Addr
 c:Nat
def NL.cs (x:NL):List Value:=[.slice x.A x.l.length x.c]
abbrev NL.v (x:NL):Value:=.slice x.A x.l.length x.c
structure EvL where
 ev:EvM
 cA:Option Addr
 cc:Nat
 fA:Option Addr
 fc:Nat
def EvL.cs (x:EvL):List Value:=(x.ev.cs x.cA x.cc x.fA x.fc).toList
abbrev EvL.v (x:EvL):Value:=x.ev.v x.cA x.cc x.fA x.fc
structure EvLOk (w:World) (B:Nat) (x:EvL):Prop where
 ok:EvOk w B x.cA x.fA x.ev
 cap:x.ev.files.length≤x.fc
structure Stt where
 step:Int
 events:List EvL
 queue:List D4
 sent:List D3
 refused:List D2
 pairs:List D4
 proofs:List D3
 notes:List NL
 bad:List E3
 holds:List D4
 orders:List D4
 sealed:List D3
 debts:List D2
structure StAd where
 ke:Option Addr × Nat
 kq:Option Addr × Nat
 ks:Option Addr × Nat
 kr:Option Addr × Nat
 kp:Option Addr × Nat
 kf:Option Addr × Nat
 kn:Option Addr × Nat
 kb:Option Addr × Nat
 kh:Option Addr × Nat
 ko:Option Addr × Nat
 kx:Option Addr × Nat
 kd:Option Addr × Nat
abbrev Stt.v (s:Stt) (a:StAd):Value:=.agg #[.int .i64 s.step,.slice a.ke.1 s.events.length a.ke.2,.slice a.kq.1 s.queue.length a.kq.2,.slice a.ks.1 s.sent.length a.ks.2,.slice a.kr.1 s.refused.length a.kr.2,.slice a.kp.1 s.pairs.length a.kp.2,.slice a.kf.1 s.proofs.length a.kf.2,.slice a.kn.1 s.notes.length a.kn.2,.slice a.kb.1 s.bad.length a.kb.2,.slice a.kh.1 s.holds.length a.kh.2,.slice a.ko.1 s.orders.length a.ko.2,.slice a.kx.1 s.sealed.length a.kx.2,.slice a.kd.1 s.debts.length a.kd.2]
structure StOk (w:World) (B:Nat) (s:Stt) (a:StAd):Prop where
 ke:RdL 12 EvL.cs w B a.ke.1 s.events
 kq:RdL 4 D4.cs w B a.kq.1 s.queue
 ks:RdL 3 D3.cs w B a.ks.1 s.sent
 kr:RdL 2 D2.cs w B a.kr.1 s.refused
 kp:RdL 4 D4.cs w B a.kp.1 s.pairs
 kf:RdL 3 D3.cs w B a.kf.1 s.proofs
 kn:RdL 1 NL.cs w B a.kn.1 s.notes
 kb:RdL 3 E3.cs w B a.kb.1 s.bad
 kh:RdL 4 D4.cs w B a.kh.1 s.holds
 ko:RdL 4 D4.cs w B a.ko.1 s.orders
 kx:RdL 3 D3.cs w B a.kx.1 s.sealed
 kd:RdL 2 D2.cs w B a.kd.1 s.debts
 evs:∀ x∈s.events,EvLOk w B x
 nos:∀ x∈s.notes,RdL 5 E5.cs w B x.A x.l∧x.l.length≤9223372036854775807∧x.l.length≤x.c
 lke:s.events.length≤9223372036854775807
 cke:s.events.length≤a.ke.2
 lkq:s.queue.length≤9223372036854775807
 ckq:s.queue.length≤a.kq.2
 lks:s.sent.length≤9223372036854775807
 cks:s.sent.length≤a.ks.2
 lkr:s.refused.length≤9223372036854775807
 ckr:s.refused.length≤a.kr.2
 lkp:s.pairs.length≤9223372036854775807
 ckp:s.pairs.length≤a.kp.2
 lkf:s.proofs.length≤9223372036854775807
 ckf:s.proofs.length≤a.kf.2
 lkn:s.notes.length≤9223372036854775807
 ckn:s.notes.length≤a.kn.2
 lkb:s.bad.length≤9223372036854775807
 ckb:s.bad.length≤a.kb.2
 lkh:s.holds.length≤9223372036854775807
 ckh:s.holds.length≤a.kh.2
 lko:s.orders.length≤9223372036854775807
 cko:s.orders.length≤a.ko.2
 lkx:s.sealed.length≤9223372036854775807
 ckx:s.sealed.length≤a.kx.2
 lkd:s.debts.length≤9223372036854775807
 ckd:s.debts.length≤a.kd.2
theorem StOk.now {w w':World} {s:Stt} {a:StAd} (h:StOk w w.heap.size s a) (hb:Below w.heap.size w w'):StOk w' w'.heap.size s a :=
 ⟨h.ke.now hb,h.kq.now hb,h.ks.now hb,h.kr.now hb,h.kp.now hb,h.kf.now hb,h.kn.now hb,h.kb.now hb,h.kh.now hb,h.ko.now hb,h.kx.now hb,h.kd.now hb,fun x hx=>⟨(h.evs x hx).ok.now hb,(h.evs x hx).cap⟩,fun x hx=>⟨(h.nos x hx).1.now hb,(h.nos x hx).2⟩,h.lke,h.cke,h.lkq,h.ckq,h.lks,h.cks,h.lkr,h.ckr,h.lkp,h.ckp,h.lkf,h.ckf,h.lkn,h.ckn,h.lkb,h.ckb,h.lkh,h.ckh,h.lko,h.cko,h.lkx,h.ckx,h.lkd,h.ckd⟩
section
variable {b:Nat} {s:Stt} {a:StAd} {w w':World}
end
end Go.Proofs.YtlnnjdibkbabiaaGreatDoor
