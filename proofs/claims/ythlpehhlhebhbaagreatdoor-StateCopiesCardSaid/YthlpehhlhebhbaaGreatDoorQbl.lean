/- Contracts and plain laws, joined: StCp. -/
import Derived.Test.YthlpehhlhebhbaaGreatDoorQbg
import Derived.Test.YthlpehhlhebhbaaGreatDoorQbh
import Derived.Test.YthlpehhlhebhbaaGreatDoorQag
import Derived.Test.YthlpehhlhebhbaaGreatDoorQbk
import Derived.Deep.DeepCutAuto
import Derived.Deep.CutBlock
/- Contract of state.Copy (layer 46;written by gencp.py). -/
set_option linter.unusedSimpArgs false
set_option linter.unusedVariables false
namespace Go.Proofs.YthlpehhlhebhbaaGreatDoor
open Lib (hid)
open Go.RowKit
set_option maxRecDepth 100000
section
variable {T:Type} {sz:Nat} {enc:T→List Value} {w:World} {base:Nat} {e:TypeId} {g c:Nat} {xs:List T}
theorem flat_set1 (L:Lay sz enc) (xs:List T) (i j:Nat) (hi:i<xs.length) (hj:j<sz) (v:Value) (x:T) (hx:enc x=(enc xs[i]).set j v):(xs.set i x).flatMap enc=(xs.flatMap enc).set (i * sz+j) v:=by
 have h1:=flat_set L xs i x hi
 have h2:=flat_set L xs i xs[i] hi
 rw [List.set_getElem_self] at h2
 have hle:(i+1) * sz≤xs.length * sz:=Nat.mul_le_mul_right _ hi
 have hlen:((xs.flatMap enc).take (i * sz)).length=i * sz:=by
  rw [List.length_take,flat_len L]
  rw [Nat.add_mul] at hle
  omega
 rw [h1]
 conv=>rhs;rw [h2]
 rw [List.append_assoc,List.append_assoc,List.set_append_right _ _ (by rw [hlen];omega),hlen,Nat.add_sub_cancel_left,List.set_append_left _ _ (by rw [L.len];exact hj),hx]
theorem OwnL.cellc (L:Lay sz enc) (h:OwnL w base e sz enc (some ⟨g,0,none⟩) c xs) (i j:Nat) (hi:i<xs.length) (v:Value) (hv:(enc xs[i])[j]?=some v):w.cell? ⟨g,i * sz+j,none⟩=some v:=by
 obtain ⟨b,off,he,_,hc⟩:=(h.rd L).at_ hi
 injection he with he
 injection he with h1 h2
 subst h1 h2
 simpa using hc j v hv
theorem OwnL.freec (h:OwnL w base e sz enc (some ⟨g,0,none⟩) c xs) (o:Nat):w.frozen? ⟨g,o,none⟩=false:=by
 rcases h.2 with ⟨hv,_⟩ | ⟨g',cap,cur,hv,hb,hg,_⟩
 ·cases hv
 ·injection hv with e1
  injection e1 with e1
  injection e1 with e1
  subst e1
  exact box_free hg o
theorem OwnL.setc (L:Lay sz enc) (h:OwnL w base e sz enc (some ⟨g,0,none⟩) c xs) (i j:Nat) (hi:i<xs.length) (hj:j<sz) (v:Value) (x:T) (hx:enc x=(enc xs[i]).set j v):OwnL (w.setCell ⟨g,i * sz+j,none⟩ v) base e sz enc (some ⟨g,0,none⟩) c (xs.set i x):=by
 rcases h.2 with ⟨hv,_⟩ | ⟨g',cap,cur,hv,hb,hg,hn,hcm,hcs,htake⟩
 ·cases hv
 ·injection hv with e1 e2 e3
  injection e1 with e1
  injection e1 with e1
  subst e1 e3
  refine ⟨by rw [flat_len L,List.length_set],.inr ⟨g,c,_,by rw [List.length_set],hb,heap_setCell_same w g (i * sz+j) _ _ v hg,by rw [List.length_set];exact hn,hcm,by simpa using hcs,?_⟩⟩
  rw [flat_set1 L xs i j hi hj v x hx,List.length_set,← htake]
  simp [List.take_set]
theorem OwnL.some_ {A0:Option Addr} (h:OwnL w base e sz enc A0 c xs) (hx:xs≠[]):∃ g,A0=some ⟨g,0,none⟩∧base≤g∧g<w.heap.size:=by
 rcases h.2 with ⟨hv,hn⟩ | ⟨g,cap,cur,hv,hb,hg,_⟩
 ·exact absurd (List.eq_nil_of_length_eq_zero hn) hx
 ·injection hv with e1
  exact ⟨g,e1,hb,box_lt hg⟩
end
theorem frozen_of_block {w w':World} {i:Nat} (h:w'.heap[i]?=w.heap[i]?) (o:Nat):w'.frozen? ⟨i,o,none⟩=w.frozen? ⟨i,o,none⟩:=by
 unfold World.frozen?
 simp only [h]
theorem OwnL.free_ {T:Type} {sz:Nat} {enc:T→List Value} {w:World} {base:Nat} {e:TypeId} {A:Option Addr} {c:Nat} {xs:List T} (h:OwnL w base e sz enc A c xs) {i:Nat} (hi:slBlk A=some i) (o:Nat):w.frozen? ⟨i,o,none⟩=false:=by
 rcases h.2 with ⟨hv,_⟩ | ⟨g,cap,cur,hv,hb,hg,_⟩
 ·injection hv with e1
  subst e1
  cases hi
 ·injection hv with e1
  subst e1
  obtain rfl:=Option.some.inj hi
  exact box_free hg o
structure EvInv (w:World) (b0 lo:Nat) (A:Option Addr) (c:Nat) (es:List EvL) (k:Nat) (xs:List EvL):Prop where
 own:OwnL w b0 56 12 EvL.cs A c xs
 len:xs.length=es.length
 ev:xs.map (fun x:EvL=>x.ev)=es.map (fun x:EvL=>x.ev)
 new:∀ j (hj:j<xs.length),j<k→okEv w xs[j]∧∀ i,xs[j].at_ i→lo≤i
 old:∀ j (hj:j<xs.length) (hj2:j<es.length),k≤j→xs[j]=es[j]
 blk:∀ i,slBlk A=some i→i<lo
 fr:∀ j (hj:j<xs.length),j<k→∀ i,xs[j].at_ i→∀ o,w.frozen? ⟨i,o,none⟩=false
structure NlInv (w:World) (b0 lo:Nat) (A:Option Addr) (c:Nat) (es:List NL) (k:Nat) (xs:List NL):Prop where
 own:OwnL w b0 57 1 NL.cs A c xs
 len:xs.length=es.length
 ev:xs.map (fun x:NL=>x.l)=es.map (fun x:NL=>x.l)
 new:∀ j (hj:j<xs.length),j<k→okNL w xs[j]∧∀ i,xs[j].at_ i→lo≤i
 old:∀ j (hj:j<xs.length) (hj2:j<es.length),k≤j→xs[j]=es[j]
 blk:∀ i,slBlk A=some i→i<lo
 fr:∀ j (hj:j<xs.length),j<k→∀ i,xs[j].at_ i→∀ o,w.frozen? ⟨i,o,none⟩=false
theorem EvInv.turn {w w':World} {b0 lo:Nat} {A:Option Addr} {c:Nat} {es xs:List EvL} {k:Nat} {F:Nat→Prop} (h:EvInv w b0 lo A c es k xs) (t:Turn F w w') (hF:∀ i,F i→i<lo∧slBlk A≠some i):EvInv w' b0 lo A c es k xs :=
 ⟨h.own.turn (fun i hi hl=>t.block i hl (fun hf=>(hF i hf).2 hi)),h.len,h.ev,fun j hj hjk=>⟨(h.new j hj hjk).1.frame (fun i hi=>t.block i ((h.new j hj hjk).1.2 i hi) (fun hf=>by have:=(hF i hf).1;have:=(h.new j hj hjk).2 i hi;omega)) t.size,(h.new j hj hjk).2⟩,h.old,h.blk,fun j hj hjk i hi o=>(frozen_of_block (t.block i ((h.new j hj hjk).1.2 i hi) (fun hf=>by have:=(hF i hf).1;have:=(h.new j hj hjk).2 i hi;omega)) o).trans (h.fr j hj hjk i hi o)⟩
theorem EvInv.all {w:World} {b0 lo:Nat} {A:Option Addr} {c:Nat} {es xs:List EvL} (h:EvInv w b0 lo A c es es.length xs):∀ x∈xs,okEv w x∧∀ i,x.at_ i→lo≤i:=fun x hx=>by
 obtain ⟨j,hj,rfl⟩:=List.getElem_of_mem hx
 exact h.new j hj (by rw [← h.len];exact hj)
theorem EvInv.step {w w':World} {b0 lo:Nat} {A:Option Addr} {c:Nat} {es xs:List EvL} {k:Nat} (h:EvInv w b0 lo A c es k xs) (hk:k<xs.length) (x:EvL) (hx:x.ev=xs[k].ev) (hok:okEv w' x) (hlo:∀ i,x.at_ i→lo≤i)
  (hown:OwnL w' b0 56 12 EvL.cs A c (xs.set k x)) (hb:∀ i,i<w.heap.size→slBlk A≠some i→w'.heap[i]?=w.heap[i]?) (hs:w.heap.size≤w'.heap.size) (hfr:∀ i,x.at_ i→∀ o,w'.frozen? ⟨i,o,none⟩=false):EvInv w' b0 lo A c es (k+1) (xs.set k x):=by
 refine ⟨hown,by rw [List.length_set];exact h.len,?_,fun j hj hjk=>?_,fun j hj hj2 hjk=>?_,h.blk,fun j hj hjk i hi o=>?_⟩
 ·have hk2:xs[k].ev=(xs.map (fun x:EvL=>x.ev))[k]'(by simpa using hk):=by simp
  rw [← h.ev,List.map_set]
  simp only [hx]
  rw [hk2,List.set_getElem_self]
 ·rw [List.length_set] at hj
  by_cases hjk2:j=k
  ·subst hjk2
   simp only [List.getElem_set_self]
   exact ⟨hok,hlo⟩
  ·rw [List.getElem_set_ne (fun e=>hjk2 e.symm)]
   have hn:=h.new j hj (by omega)
   exact ⟨hn.1.frame (fun i hi=>hb i (hn.1.2 i hi) (fun he=>by have:=h.blk i he;have:=hn.2 i hi;omega)) hs,hn.2⟩
 ·rw [List.length_set] at hj
  rw [List.getElem_set_ne (by omega)]
  exact h.old j hj hj2 (by omega)
 ·rw [List.length_set] at hj
  by_cases hjk2:j=k
  ·subst hjk2
   rw [List.getElem_set_self] at hi
   exact hfr i hi o
  ·rw [List.getElem_set_ne (fun e=>hjk2 e.symm)] at hi
   have hn:=h.new j hj (by omega)
   exact (frozen_of_block (hb i (hn.1.2 i hi) (fun he=>by have:=h.blk i he;have:=hn.2 i hi;omega)) o).trans (h.fr j hj (by omega) i hi o)
theorem NlInv.turn {w w':World} {b0 lo:Nat} {A:Option Addr} {c:Nat} {es xs:List NL} {k:Nat} {F:Nat→Prop} (h:NlInv w b0 lo A c es k xs) (t:Turn F w w') (hF:∀ i,F i→i<lo∧slBlk A≠some i):NlInv w' b0 lo A c es k xs :=
 ⟨h.own.turn (fun i hi hl=>t.block i hl (fun hf=>(hF i hf).2 hi)),h.len,h.ev,fun j hj hjk=>⟨(h.new j hj hjk).1.frame (fun i hi=>t.block i ((h.new j hj hjk).1.2 i hi) (fun hf=>by have:=(hF i hf).1;have:=(h.new j hj hjk).2 i hi;omega)) t.size,(h.new j hj hjk).2⟩,h.old,h.blk,fun j hj hjk i hi o=>(frozen_of_block (t.block i ((h.new j hj hjk).1.2 i hi) (fun hf=>by have:=(hF i hf).1;have:=(h.new j hj hjk).2 i hi;omega)) o).trans (h.fr j hj hjk i hi o)⟩
theorem NlInv.all {w:World} {b0 lo:Nat} {A:Option Addr} {c:Nat} {es xs:List NL} (h:NlInv w b0 lo A c es es.length xs):∀ x∈xs,okNL w x∧∀ i,x.at_ i→lo≤i:=fun x hx=>by
 obtain ⟨j,hj,rfl⟩:=List.getElem_of_mem hx
 exact h.new j hj (by rw [← h.len];exact hj)
theorem NlInv.step {w w':World} {b0 lo:Nat} {A:Option Addr} {c:Nat} {es xs:List NL} {k:Nat} (h:NlInv w b0 lo A c es k xs) (hk:k<xs.length) (x:NL) (hx:x.l=xs[k].l) (hok:okNL w' x) (hlo:∀ i,x.at_ i→lo≤i)
  (hown:OwnL w' b0 57 1 NL.cs A c (xs.set k x)) (hb:∀ i,i<w.heap.size→slBlk A≠some i→w'.heap[i]?=w.heap[i]?) (hs:w.heap.size≤w'.heap.size) (hfr:∀ i,x.at_ i→∀ o,w'.frozen? ⟨i,o,none⟩=false):NlInv w' b0 lo A c es (k+1) (xs.set k x):=by
 refine ⟨hown,by rw [List.length_set];exact h.len,?_,fun j hj hjk=>?_,fun j hj hj2 hjk=>?_,h.blk,fun j hj hjk i hi o=>?_⟩
 ·have hk2:xs[k].l=(xs.map (fun x:NL=>x.l))[k]'(by simpa using hk):=by simp
  rw [← h.ev,List.map_set]
  simp only [hx]
  rw [hk2,List.set_getElem_self]
 ·rw [List.length_set] at hj
  by_cases hjk2:j=k
  ·subst hjk2
   simp only [List.getElem_set_self]
   exact ⟨hok,hlo⟩
  ·rw [List.getElem_set_ne (fun e=>hjk2 e.symm)]
   have hn:=h.new j hj (by omega)
   exact ⟨hn.1.frame (fun i hi=>hb i (hn.1.2 i hi) (fun he=>by have:=h.blk i he;have:=hn.2 i hi;omega)) hs,hn.2⟩
 ·rw [List.length_set] at hj
  rw [List.getElem_set_ne (by omega)]
  exact h.old j hj hj2 (by omega)
 ·rw [List.length_set] at hj
  by_cases hjk2:j=k
  ·subst hjk2
   rw [List.getElem_set_self] at hi
   exact hfr i hi o
  ·rw [List.getElem_set_ne (fun e=>hjk2 e.symm)] at hi
   have hn:=h.new j hj (by omega)
   exact (frozen_of_block (hb i (hn.1.2 i hi) (fun he=>by have:=h.blk i he;have:=hn.2 i hi;omega)) o).trans (h.fr j hj (by omega) i hi o)
theorem cell_set_ne (w:World) {b j g o:Nat} {v:Value} (h:b≠g):(w.setCell ⟨g,o,none⟩ v).cell? ⟨b,j,none⟩=w.cell? ⟨b,j,none⟩:=World.cell?_of_block (heap_setCell_other w ⟨g,o,none⟩ b v h)
theorem ev_clone {w w5:World} {b0 lo g c:Nat} {es xs:List EvL} {k:Nat} {A2 A3:Option Addr} {c2 c3:Nat} (h:EvInv w b0 lo (some ⟨g,0,none⟩) c es k xs) (hk:k<xs.length) (hb:Below w.heap.size w w5) (hlo:lo≤w.heap.size)
  (h2:OwnL w5 w.heap.size 3 1 intC A2 c2 xs[k].ev.causes) (h3:OwnL w5 w.heap.size 3 1 intC A3 c3 xs[k].ev.files) (hcl:xs[k].ev.causes.length≤9223372036854775807) (hfl:xs[k].ev.files.length≤9223372036854775807) (htx:xs[k].ev.text.size≤9223372036854775807) :
  EvInv ((w5.setCell ⟨g,k * 12+2,none⟩ (.slice A2 xs[k].ev.causes.length c2)).setCell ⟨g,k * 12+10,none⟩ (.slice A3 xs[k].ev.files.length c3)) b0 lo (some ⟨g,0,none⟩) c es (k+1) (xs.set k ⟨xs[k].ev,A2,c2,A3,c3⟩):=by
 have hg:g<lo:=h.blk g rfl
 have hgw:g<w.heap.size:=by omega
 have o1:=OwnL.below h.own hb
 have o2:=OwnL.setc layEvL o1 k 2 hk (by omega) (.slice A2 xs[k].ev.causes.length c2) ⟨xs[k].ev,A2,c2,xs[k].fA,xs[k].fc⟩ rfl
 have o3:=OwnL.setc layEvL o2 k 10 (by simpa using hk) (by omega) (.slice A3 xs[k].ev.files.length c3) ⟨xs[k].ev,A2,c2,A3,c3⟩ (by rw [List.getElem_set_self];rfl)
 rw [List.set_set] at o3
 have hoth:∀ i,i≠g→((w5.setCell ⟨g,k * 12+2,none⟩ (.slice A2 xs[k].ev.causes.length c2)).setCell ⟨g,k * 12+10,none⟩ (.slice A3 xs[k].ev.files.length c3)).heap[i]?=w5.heap[i]?:=fun i hi =>
  (heap_setCell_other _ ⟨g,k * 12+10,none⟩ i _ hi).trans (heap_setCell_other _ ⟨g,k * 12+2,none⟩ i _ hi)
 have hsz:((w5.setCell ⟨g,k * 12+2,none⟩ (.slice A2 xs[k].ev.causes.length c2)).setCell ⟨g,k * 12+10,none⟩ (.slice A3 xs[k].ev.files.length c3)).heap.size=w5.heap.size:=by simp [World.setCell]
 refine h.step hk ⟨xs[k].ev,A2,c2,A3,c3⟩ rfl ⟨⟨⟨?_,?_,hcl,hfl,htx⟩,h3.len_le⟩,?_⟩ ?_ o3 (fun i hi hne=>(hoth i (fun e=>hne (by rw [e];rfl))).trans (hb.block i hi)) (by rw [hsz];exact hb.size) ?_
 ·exact (h2.rd intLayV).turn (fun i hi hl=>hoth i (by have:=(h2.blk_lt hi).1;omega)) (by rw [hsz];exact Nat.le_refl _)
 ·exact (h3.rd intLayV).turn (fun i hi hl=>hoth i (by have:=(h3.blk_lt hi).1;omega)) (by rw [hsz];exact Nat.le_refl _)
 ·rintro i (hi | hi)
  ·rw [hsz];exact (h2.blk_lt hi).2
  ·rw [hsz];exact (h3.blk_lt hi).2
 ·rintro i (hi | hi)
  ·have:=(h2.blk_lt hi).1;omega
  ·have:=(h3.blk_lt hi).1;omega
 ·rintro i (hi | hi) o
  ·exact (frozen_of_block (hoth i (by have:=(h2.blk_lt hi).1;omega)) o).trans (h2.free_ hi o)
  ·exact (frozen_of_block (hoth i (by have:=(h3.blk_lt hi).1;omega)) o).trans (h3.free_ hi o)
theorem nl_clone {w w5:World} {b0 lo g c:Nat} {es xs:List NL} {k:Nat} {A2:Option Addr} {c2:Nat} (h:NlInv w b0 lo (some ⟨g,0,none⟩) c es k xs) (hk:k<xs.length) (hb:Below w.heap.size w w5) (hlo:lo≤w.heap.size)
  (h2:OwnL w5 w.heap.size 59 5 E5.cs A2 c2 xs[k].l) (hcl:xs[k].l.length≤9223372036854775807) :
  NlInv (w5.setCell ⟨g,k,none⟩ (.slice A2 xs[k].l.length c2)) b0 lo (some ⟨g,0,none⟩) c es (k+1) (xs.set k ⟨xs[k].l,A2,c2⟩):=by
 have hg:g<lo:=h.blk g rfl
 have o1:=OwnL.below h.own hb
 have o2:=OwnL.setc layNL o1 k 0 hk (by omega) (.slice A2 xs[k].l.length c2) ⟨xs[k].l,A2,c2⟩ rfl
 rw [Nat.mul_one,Nat.add_zero] at o2
 have hoth:∀ i,i≠g→(w5.setCell ⟨g,k,none⟩ (.slice A2 xs[k].l.length c2)).heap[i]?=w5.heap[i]?:=fun i hi=>heap_setCell_other _ ⟨g,k,none⟩ i _ hi
 have hsz:(w5.setCell ⟨g,k,none⟩ (.slice A2 xs[k].l.length c2)).heap.size=w5.heap.size:=by simp [World.setCell]
 refine h.step hk ⟨xs[k].l,A2,c2⟩ rfl ⟨⟨?_,hcl,h2.len_le⟩,?_⟩ ?_ o2 (fun i hi hne=>(hoth i (fun e=>hne (by rw [e];rfl))).trans (hb.block i hi)) (by rw [hsz];exact hb.size) ?_
 ·exact (h2.rd layE5).turn (fun i hi hl=>hoth i (by have:=(h2.blk_lt hi).1;omega)) (by rw [hsz];exact Nat.le_refl _)
 ·intro i hi
  rw [hsz];exact (h2.blk_lt hi).2
 ·intro i hi
  have:=(h2.blk_lt hi).1;omega
 ·intro i hi o
  exact (frozen_of_block (hoth i (by have:=(h2.blk_lt hi).1;omega)) o).trans (h2.free_ hi o)
def FreeA (w:World) (lo:Nat) (A:Option Addr):Prop:=∀ i,slBlk A=some i→lo≤i∧i<w.heap.size∧∀ o,w.frozen? ⟨i,o,none⟩=false
theorem FreeA.turn {w w':World} {lo:Nat} {A:Option Addr} {F:Nat→Prop} (h:FreeA w lo A) (t:Turn F w w') (hF:∀ i,F i→i<lo):FreeA w' lo A:=fun i hi =>
 have h1:=h i hi
 ⟨h1.1,Nat.lt_of_lt_of_le h1.2.1 t.size,fun o=>(frozen_of_block (t.block i h1.2.1 (fun hf=>by have:=hF i hf;omega)) o).trans (h1.2.2 o)⟩
structure RdStF (w:World) (lo:Nat) (s:Stt) (a:StAd):Prop where
 st:RdSt w lo s a
 fq:FreeA w lo a.kq.1
 fd:FreeA w lo a.kd.1
 fn:∀ x∈s.notes,∀ i,x.at_ i→∀ o,w.frozen? ⟨i,o,none⟩=false
theorem RdStF.zero (w:World) (lo:Nat) (n:Int):RdStF w lo (sttZ n) adZ:=⟨RdSt.zero w lo n,fun i hi=>(nomatch hi),fun i hi=>(nomatch hi),fun x hx=>(nomatch hx)⟩
theorem RdStF.turn {w w':World} {lo:Nat} {s:Stt} {a:StAd} {F:Nat→Prop} (h:RdStF w lo s a) (t:Turn F w w') (hF:∀ i,F i→i<lo):RdStF w' lo s a :=
 ⟨h.st.turn t hF,h.fq.turn t hF,h.fd.turn t hF,fun x hx i hi o=>(frozen_of_block (t.block i ((h.st.nos x hx).1.2 i hi) (fun hf=>by have:=hF i hf;have:=(h.st.nos x hx).2 i hi;omega)) o).trans (h.fn x hx i hi o)⟩
section
variable {w:World} {lo:Nat} {s:Stt} {a:StAd}
theorem RdStF.notes (h:RdStF w lo s a) {xs:List NL} {A:Option Addr} {c:Nat} (hx:HeldL 1 NL.cs w lo (A,c) xs) (he:∀ x∈xs,okNL w x∧∀ i,x.at_ i→lo≤i) (hf:∀ x∈xs,∀ i,x.at_ i→∀ o,w.frozen? ⟨i,o,none⟩=false):RdStF w lo {s with notes:=xs} {a with kn:=(A,c)}:=⟨h.st.notes hx he,h.fq,h.fd,hf⟩
theorem RdStF.queue (h:RdStF w lo s a) {xs:List D4} {A:Option Addr} {c:Nat} (hx:HeldL 4 D4.cs w lo (A,c) xs) (hf:FreeA w lo A):RdStF w lo {s with queue:=xs} {a with kq:=(A,c)}:=⟨h.st.queue hx,hf,h.fd,h.fn⟩
theorem RdStF.sent (h:RdStF w lo s a) {xs:List D3} {A:Option Addr} {c:Nat} (hx:HeldL 3 D3.cs w lo (A,c) xs):RdStF w lo {s with sent:=xs} {a with ks:=(A,c)}:=⟨h.st.sent hx,h.fq,h.fd,h.fn⟩
theorem RdStF.refused (h:RdStF w lo s a) {xs:List D2} {A:Option Addr} {c:Nat} (hx:HeldL 2 D2.cs w lo (A,c) xs):RdStF w lo {s with refused:=xs} {a with kr:=(A,c)}:=⟨h.st.refused hx,h.fq,h.fd,h.fn⟩
theorem RdStF.pairs (h:RdStF w lo s a) {xs:List D4} {A:Option Addr} {c:Nat} (hx:HeldL 4 D4.cs w lo (A,c) xs):RdStF w lo {s with pairs:=xs} {a with kp:=(A,c)}:=⟨h.st.pairs hx,h.fq,h.fd,h.fn⟩
theorem RdStF.proofs (h:RdStF w lo s a) {xs:List D3} {A:Option Addr} {c:Nat} (hx:HeldL 3 D3.cs w lo (A,c) xs):RdStF w lo {s with proofs:=xs} {a with kf:=(A,c)}:=⟨h.st.proofs hx,h.fq,h.fd,h.fn⟩
theorem RdStF.bad (h:RdStF w lo s a) {xs:List E3} {A:Option Addr} {c:Nat} (hx:HeldL 3 E3.cs w lo (A,c) xs):RdStF w lo {s with bad:=xs} {a with kb:=(A,c)}:=⟨h.st.bad hx,h.fq,h.fd,h.fn⟩
theorem RdStF.holds (h:RdStF w lo s a) {xs:List D4} {A:Option Addr} {c:Nat} (hx:HeldL 4 D4.cs w lo (A,c) xs):RdStF w lo {s with holds:=xs} {a with kh:=(A,c)}:=⟨h.st.holds hx,h.fq,h.fd,h.fn⟩
theorem RdStF.orders (h:RdStF w lo s a) {xs:List D4} {A:Option Addr} {c:Nat} (hx:HeldL 4 D4.cs w lo (A,c) xs):RdStF w lo {s with orders:=xs} {a with ko:=(A,c)}:=⟨h.st.orders hx,h.fq,h.fd,h.fn⟩
theorem RdStF.sealed (h:RdStF w lo s a) {xs:List D3} {A:Option Addr} {c:Nat} (hx:HeldL 3 D3.cs w lo (A,c) xs):RdStF w lo {s with sealed:=xs} {a with kx:=(A,c)}:=⟨h.st.sealed hx,h.fq,h.fd,h.fn⟩
theorem RdStF.debts (h:RdStF w lo s a) {xs:List D2} {A:Option Addr} {c:Nat} (hx:HeldL 2 D2.cs w lo (A,c) xs) (hf:FreeA w lo A):RdStF w lo {s with debts:=xs} {a with kd:=(A,c)}:=⟨h.st.debts hx,h.fq,hf,h.fn⟩
end
def CopyOut (s:Stt) (w:World) (e:Ending) (w':World):Prop :=
 ∃ (t:Stt) (c:StAd) (lo:Nat),e=.returned (t.v c)∧t.pl=s.pl∧w.heap.size≤lo∧RdSt w' w.heap.size t c∧RdSt w' lo {t with events:=[]} {c with ke:=(none,0)}∧EvInv w' w.heap.size lo c.ke.1 c.ke.2 s.events s.events.length t.events∧Below w.heap.size w w'
def CopyOut2 (s:Stt) (w:World) (e:Ending) (w':World):Prop :=
 ∃ (t:Stt) (c:StAd) (lo:Nat),e=.returned (t.v c)∧t.pl=s.pl∧w.heap.size≤lo∧RdSt w' w.heap.size t c∧RdSt w' lo {t with events:=[]} {c with ke:=(none,0)}∧EvInv w' w.heap.size lo c.ke.1 c.ke.2 s.events s.events.length t.events∧Below w.heap.size w w' ∧
  FreeA w' lo c.kq.1∧FreeA w' lo c.kd.1∧∀ x∈t.notes,(∀ i,x.at_ i→lo≤i)∧∀ i,x.at_ i→∀ o,w'.frozen? ⟨i,o,none⟩=false
structure CapS (s:Stt):Prop where
 ev:s.events.length≤1000000
 evc:∀ x∈s.events,x.ev.causes.length≤1000000∧x.ev.files.length≤1000000
 l1:s.queue.length≤1000000
 l2:s.sent.length≤1000000
 l3:s.refused.length≤1000000
 l4:s.pairs.length≤1000000
 l5:s.proofs.length≤1000000
 l6:s.notes.length≤1000000
 l6b:∀ x∈s.notes,x.l.length≤1000000
 l7:s.bad.length≤1000000
 l8:s.holds.length≤1000000
 l9:s.orders.length≤1000000
 la:s.sealed.length≤1000000
 lb:s.debts.length≤1000000
theorem OwnL.held {T:Type} {sz:Nat} {enc:T→List Value} {w:World} {lo:Nat} {e:TypeId} {A:Option Addr} {c:Nat} {xs:List T} {base:Nat} (L:Lay sz enc) (h:OwnL w base e sz enc A c xs) (hb:lo≤base) (hl:xs.length≤9223372036854775807):HeldL sz enc w lo (A,c) xs :=
 ⟨h.rd L,hl,h.len_le,fun i hi=>Nat.le_trans hb (h.blk_lt hi).1⟩
set_option maxHeartbeats 16000000 in
theorem stCopy2_any (s:Stt) (a:StAd) (w:World) (h:StOk w w.heap.size s a) (hc:CapS s):Calls Tryz.prog 18 #[s.v a] w (CopyOut2 s w):=by
 have hb0:Below w.heap.size w ((w.alloc (.cells (s.arr a) 34)).alloc (.cells ((sttZ 0).arr adZ) 34)):=by repeat (first | with_reducible exact Below.refl _ _ | with_reducible assumption | with_reducible refine Below.drew ?_ | with_reducible refine Below.alloc ?_ (by first | omega | (simp;done) | (simp;omega)) _)
 have HX:Hid (StBox w.heap.size s a ((w.alloc (.cells (s.arr a) 34)).alloc (.cells ((sttZ 0).arr adZ) 34))):=hid (StBox.now (show StBox w.heap.size s a (w.alloc (.cells (s.arr a) 34)) from (MapKept.heap_alloc w _).1) ((Below.refl _ _).alloc (Nat.le_refl _) _))
 have HO:Hid (StBox (w.heap.size+1) (sttZ 0) adZ ((w.alloc (.cells (s.arr a) 34)).alloc (.cells ((sttZ 0).arr adZ) 34))):=hid (by
  have:=(MapKept.heap_alloc (w.alloc (.cells (s.arr a) 34)) (.cells ((sttZ 0).arr adZ) 34)).1
  simpa [StBox] using this)
 have hsz:((w.alloc (.cells (s.arr a) 34)).alloc (.cells ((sttZ 0).arr adZ) 34)).heap.size=w.heap.size+2:=by simp
 have HS:=hid h
 have HB:=hid hb0
 have HCap:=hid hc
 have HSz:=hid hsz
 clear hsz
 clear hb0 h hc
 go_enter Tryz.func18,Tryz.ntmps18
 go_upto_region 1 with fail
 change Code.wp _ _ _ _ ((w.alloc (.cells (s.arr a) 34)).alloc (.cells ((sttZ 0).arr adZ) 34))
 generalize (w.alloc (.cells (s.arr a) 34)).alloc (.cells ((sttZ 0).arr adZ) 34)=w0 at *
 obtain ⟨b2,hb2⟩:∃ x,x=w.heap.size+1:=⟨_,rfl⟩
 obtain ⟨b1,hb1⟩:∃ x,x=w.heap.size:=⟨_,rfl⟩
 rw [← hb2] at HO ⊢
 rw [← hb1] at HX ⊢
 have Hb1:=hid hb1
 have Hb2:=hid hb2
 clear hb1 hb2
 have HXr:=hid (show w0.rangeAt b1 0 (s.arr a).toList from range_block HX.out rfl)
 go_upto_region 2 with (first
  | ((with_reducible show wpList _ _ _ (Oper.mk _ (Op.load 34 _) _ _ _ _::_) _ _);refine wpList_load_g rfl 34 (.tmp 1) rfl b1 0 rfl (s.arr a).toList _ HXr.out Tryz.underlying34 rfl (by kernel_rfl) ?_)
  | fail)
 change Code.wp _ _ _ _ (w0.alloc (.cells (s.arr a) 34))
 have hw1:Below w0.heap.size w0 (w0.alloc (.cells (s.arr a) 34)):=by repeat (first | with_reducible exact Below.refl _ _ | with_reducible assumption | with_reducible refine Below.drew ?_ | with_reducible refine Below.alloc ?_ (by first | omega | (simp;done) | (simp;omega)) _)
 have hd:StBox w0.heap.size s a (w0.alloc (.cells (s.arr a) 34)):=(MapKept.heap_alloc w0 _).1
 have hs1:(w0.alloc (.cells (s.arr a) 34)).heap.size=w0.heap.size+1:=by simp
 generalize w0.alloc (.cells (s.arr a) 34)=w1 at *
 obtain ⟨b3,hb3⟩:∃ x,x=w0.heap.size:=⟨_,rfl⟩
 rw [← hb3] at hd ⊢
 obtain ⟨lo0,hlo0⟩:∃ x,x=w1.heap.size:=⟨_,rfl⟩
 have HX:=hid (HX.out.now hw1)
 have HO:=hid (HO.out.now hw1)
 have HB:=hid (HB.out.trans (hw1.mono HB.out.size))
 have HD:=hid hd
 have HN:Hid (b1=w.heap.size∧b2=w.heap.size+1∧b3=w.heap.size+2∧lo0=w.heap.size+3∧lo0=w1.heap.size):=hid ⟨Hb1.out,Hb2.out,by have:=HSz.out;omega,by have:=HSz.out;omega,hlo0⟩
 clear hw1 hd hs1 hb3 hlo0 Hb1 Hb2 HXr HSz
 have zx:=HX.out.ke
 go_wp2_with fail
 refine (clEvent_any s.events a.ke.1 a.ke.2 w1 (HS.out.now HB.out).ke HCap.out.ev).mono ?_
 rintro e w2 ⟨A1,c1,rfl,ho,hb⟩
 have HE0:=hid ho
 have HX:=hid (HX.out.now hb)
 have HO:=hid (HO.out.now hb)
 have HD:=hid (HD.out.now hb)
 have HB:=hid (HB.out.trans (hb.mono HB.out.size))
 have HZ:Hid (lo0≤w2.heap.size):=hid (by have h1:=HN.out.2.2.2.2;have h2:=hb.size;omega)
 clear ho hb zx
 have fz:=fun j=>box_free HD.out j
 have zd:=HD.out.ke
 go_upto_region 3 with fail
 clear fz zd
 change Code.wp _ _ _ _ (World.setCell w2 ⟨b3,1,none⟩ (.slice A1 s.events.length c1))
 have ht:Turn (One b3) w2 (World.setCell w2 ⟨b3,1,none⟩ (.slice A1 s.events.length c1)):=(Turn.refl (One b3) w2).set b3 1 _ (.inl rfl)
 have hn:=HN.out
 have HD:=hid (HD.out.set_ke s.events A1 c1)
 have HX:=hid (HX.out.set' b3 1 (.slice A1 s.events.length c1) (by omega))
 have HO:=hid (HO.out.set' b3 1 (.slice A1 s.events.length c1) (by omega))
 have HB:=hid (HB.out.trans (ht.to_below HB.out.size (fun i hi=>by unfold One at hi;omega)))
 have HTs:Hid (Turn (fun i=>w.heap.size≤i) w (World.setCell w2 ⟨b3,1,none⟩ (.slice A1 s.events.length c1))):=hid ⟨HB.out.os,HB.out.tape,HB.out.output,HB.out.size,fun k hk _=>HB.out.block k hk⟩
 have HE0:=hid (HE0.out.turn (w':=World.setCell w2 ⟨b3,1,none⟩ (.slice A1 s.events.length c1)) (fun i hi hl=>ht.block i hl (fun hf=>by have:=(HE0.out.blk_lt hi).1;unfold One at hf;omega)))
 have HZ:=hid (Nat.le_trans HZ.out ht.size)
 clear ht hn HTs
 generalize World.setCell w2 ⟨b3,1,none⟩ (.slice A1 s.events.length c1)=w3 at *
 obtain ⟨lo,hlo⟩:∃ x,x=w3.heap.size:=⟨_,rfl⟩
 have HE1:Hid (EvInv w3 w.heap.size lo A1 c1 s.events 0 s.events):=hid ⟨HE0.out.mono (by have:=HN.out;omega),rfl,rfl,fun j _ h=>by omega,fun _ _ _ _=>rfl,fun i hi=>by have:=(HE0.out.blk_lt hi).2;omega,fun j _ h=>by omega⟩
 have HLo:Hid (lo≤w3.heap.size∧lo0≤lo):=hid ⟨by omega,by have:=HZ.out;omega⟩
 have HA1:Hid (∀ i,slBlk A1=some i→lo0≤i):=hid (fun i hi=>by have h1:=(HE0.out.blk_lt hi).1;have h2:=HN.out.2.2.2.2;omega)
 clear hlo HE0 HZ
 have zd:=HD.out.ke
 have hevl:=HCap.out.ev
 go_wp2_with fail
 clear zd
 go_loopw [4,5,16] (fun _ _ i wr=>∃ (k:Nat) (xs:List EvL),k≤s.events.length∧i=.int .i64 k∧EvInv wr w.heap.size lo A1 c1 s.events k xs∧StBox b1 s a wr∧StBox b2 (sttZ 0) adZ wr∧StBox b3 s {a with ke:=(A1,c1)} wr∧Below w.heap.size w wr∧lo≤wr.heap.size) (fun _ _ i _=>s.events.length - (intOf i).toNat)
 case atStart=>exact ⟨0,s.events,Nat.zero_le _,rfl,HE1.out,HX.out,HO.out,HD.out,HB.out,HLo.out.1⟩
 case round =>
  obtain ⟨k,xs,hk,rfl,he,hx,ho,hd,hbw,hlw⟩:=hrel
  have HE:=hid he
  have HX:=hid hx
  have HO:=hid ho
  have HD:=hid hd
  have HB:=hid hbw
  have HLw:=hid hlw
  clear he hx ho hd hbw hlw
  by_cases hlt:k<s.events.length
  ·have hkx:k<xs.length:=by rw [HE.out.len];exact hlt
   have hold:=HE.out.old k hkx hlt (Nat.le_refl _)
   obtain ⟨g,rfl,hg,_⟩:=HE.out.own.some_ (fun e=>by rw [e] at hkx;simp at hkx)
   have hsok:=(HS.out.now HB.out).evs _ (List.getElem_mem hlt)
   have hcap:=HCap.out.evc _ (List.getElem_mem hlt)
   rw [← hold] at hsok hcap
   have HCx:Hid (wr.rangeAt g (k * 12) xs[k].cs):=hid (fun j v hj=>HE.out.own.cellc layEvL k j hkx v hj)
   have HCl:=hid (fun w5 A2 c2 A3 c3 hb h2 h3=>ev_clone (w5:=w5) (A2:=A2) (A3:=A3) (c2:=c2) (c3:=c3) HE.out hkx hb HLw.out h2 h3 hsok.ok.cl hsok.ok.fl hsok.ok.tx)
   have HFz:=hid (fun o=>HE.out.own.freec o)
   have HThr:Hid (∀ j,j<12→∃ v,wr.cell? ⟨g,k * 12+j,none⟩=some v):=hid (fun j hj=>⟨_,HE.out.own.cellc layEvL k j hkx _ (List.getElem?_eq_getElem (by rw [layEvL.len];exact hj))⟩)
   have HSk:=hid hsok
   have HCk:=hid hcap
   have HG:Hid (g<lo∧lo0≤g):=hid ⟨HE.out.blk g rfl,HA1.out g rfl⟩
   have hlen:=HE.out.len
   have HLen:=hid hlen
   clear hold hsok hcap hg hlen
   generalize hx:xs[k]=x at *
   clear hx
   go_upto_region 6 with (first
    | ((with_reducible show wpList _ _ _ (Oper.mk _ (Op.load 56 _) _ _ _ _::_) _ _);refine wpList_load_g rfl 56 (.tmp 19) rfl g (k * 12) rfl (x.ev.cs x.cA x.cc x.fA x.fc).toList _ HCx.out Tryz.underlying56 rfl (by kernel_rfl) ?_)
    | fail)
   change Code.wp _ _ _ _ (wr.alloc (.cells (x.ev.cs x.cA x.cc x.fA x.fc) 56))
   have hb1:Below wr.heap.size wr (wr.alloc (.cells (x.ev.cs x.cA x.cc x.fA x.fc) 56)):=(Below.refl _ _).alloc (Nat.le_refl _) _
   have hr1:(wr.alloc (.cells (x.ev.cs x.cA x.cc x.fA x.fc) 56)).heap[wr.heap.size]?=some (.cells (x.ev.cs x.cA x.cc x.fA x.fc) 56 (0,0)):=(MapKept.heap_alloc wr _).1
   have hsz1:(wr.alloc (.cells (x.ev.cs x.cA x.cc x.fA x.fc) 56)).heap.size=wr.heap.size+1:=by simp
   have HB1:=hid hb1
   have HR1:=hid hr1
   have HSz:=hid hsz1
   have HXv:=hid (HX.out.now hb1)
   have HOv:=hid (HO.out.now hb1)
   have HDv:=hid (HD.out.now hb1)
   clear hb1 hr1 hsz1 HX HO HD
   generalize wr.alloc (.cells (x.ev.cs x.cA x.cc x.fA x.fc) 56)=wv at *
   obtain ⟨b5,hb5⟩:∃ z,z=wr.heap.size:=⟨_,rfl⟩
   rw [← hb5] at HR1 ⊢
   have Hb5:=hid hb5
   clear hb5
   refine wp_region_J (S:=fun w'=>w'.cell? ⟨b3,1,none⟩=some (.slice (some ⟨g,0,none⟩) s.events.length c1)∧w'.cell? ⟨b5,2,none⟩=some (.slice x.cA x.ev.causes.length x.cc)∧w'.cell? ⟨b5,10,none⟩=some (.slice x.fA x.ev.files.length x.fc)) (fun _=>false) (by kernel_rfl) (⟨box_cell HDv.out 1 _ rfl,box_cell HR1.out 2 _ rfl,box_cell HR1.out 10 _ rfl⟩) (fun hHeld=>?_)
   refine wpAnyJ_pure (i:=0) (v:=?_) rfl (by kernel_rfl) (by kernel_rfl) (by kernel_rfl) (fun _ _ _ h=>h) (Or.inl ⟨by rfl,?_⟩) ?_
   rotate_left
   ·intro wq _
    go_simp
    try with_reducible rfl
   simp only [Act.put,sA,sB,sC]
   refine wpAnyJ_take (i:=1) (v:=?_) rfl (by kernel_rfl) (by kernel_rfl) (by kernel_rfl) (by kernel_rfl) (fun _ _ _ h=>h) (Or.inl ⟨by rfl,?_⟩) hHeld ?_
   rotate_left
   ·intro wq hSq
    obtain ⟨h1,h2,h3⟩:=hSq
    go_simp
    try with_reducible rfl
   simp only [Act.put,sA,sB,sC]
   refine wpAnyJ_pure (i:=2) (v:=?_) rfl (by kernel_rfl) (by kernel_rfl) (by kernel_rfl) (fun _ _ _ h=>h) (Or.inl ⟨by rfl,?_⟩) ?_
   rotate_left
   ·intro wq _
    go_simp
    try with_reducible rfl
   simp only [Act.put,sA,sB,sC]
   refine wpAnyJ_pure (i:=3) (v:=?_) rfl (by kernel_rfl) (by kernel_rfl) (by kernel_rfl) (fun _ _ _ h=>h) (Or.inl ⟨by rfl,?_⟩) ?_
   rotate_left
   ·intro wq _
    go_simp
    try with_reducible rfl
   simp only [Act.put,sA,sB,sC]
   refine wpAnyJ_take (i:=4) (v:=?_) rfl (by kernel_rfl) (by kernel_rfl) (by kernel_rfl) (by kernel_rfl) (fun _ _ _ h=>h) (Or.inl ⟨by rfl,?_⟩) hHeld ?_
   rotate_left
   ·intro wq hSq
    obtain ⟨h1,h2,h3⟩:=hSq
    go_simp
    try with_reducible rfl
   simp only [Act.put,sA,sB,sC]
   refine wpAnyJ_pure (i:=5) (v:=?_) rfl (by kernel_rfl) (by kernel_rfl) (by kernel_rfl) (fun _ _ _ h=>h) (Or.inl ⟨by rfl,?_⟩) ?_
   rotate_left
   ·intro wq _
    go_simp
    try with_reducible rfl
   simp only [Act.put,sA,sB,sC]
   refine wpAnyJ_pure (i:=6) (v:=?_) rfl (by kernel_rfl) (by kernel_rfl) (by kernel_rfl) (fun _ _ _ h=>h) (Or.inl ⟨by rfl,?_⟩) ?_
   rotate_left
   ·intro wq _
    go_simp
    try with_reducible rfl
   simp only [Act.put,sA,sB,sC]
   refine wpAnyJ_take (i:=7) (v:=?_) rfl (by kernel_rfl) (by kernel_rfl) (by kernel_rfl) (by kernel_rfl) (fun _ _ _ h=>h) (Or.inl ⟨by rfl,?_⟩) hHeld ?_
   rotate_left
   ·intro wq hSq
    obtain ⟨h1,h2,h3⟩:=hSq
    go_simp
    try with_reducible rfl
   simp only [Act.put,sA,sB,sC]
   refine wpAnyJ_pure (i:=9) (v:=?_) rfl (by kernel_rfl) (by kernel_rfl) (by kernel_rfl) (fun _ _ _ h=>h) (Or.inl ⟨by rfl,?_⟩) ?_
   rotate_left
   ·intro wq _
    go_simp
    try with_reducible rfl
   simp only [Act.put,sA,sB,sC]
   refine wpAnyJ_take (i:=10) (v:=?_) rfl (by kernel_rfl) (by kernel_rfl) (by kernel_rfl) (by kernel_rfl) (fun _ _ _ h=>h) (Or.inl ⟨by rfl,?_⟩) hHeld ?_
   rotate_left
   ·intro wq hSq
    obtain ⟨h1,h2,h3⟩:=hSq
    go_simp
    try with_reducible rfl
   simp only [Act.put,sA,sB,sC]
   refine wpAnyJ_one (i:=8) rfl (by kernel_rfl) (fun K hK=>?_)
   go_simp
   have HBd:=hid (HB1.out.trans ((Below.refl wv.heap.size wv).drew.mono HB1.out.size))
   refine (intClone_any x.ev.causes x.cA _ x.cc wv.drew rfl (HSk.out.now HBd.out).ok.ca (by have:=HCk.out.1;omega)).mono ?_
   rintro en w5 ⟨A2,c2,rfl,ho2,hb2⟩
   go_wp2_with fail
   have hlb3:b3<wv.drew.heap.size:=box_lt HDv.out
   have hlb5:b5<wv.drew.heap.size:=box_lt HR1.out
   refine hK.out _ _ (fun _ h=>⟨(hb2.cell (p:=⟨b3,1,none⟩) hlb3).trans h.1,(hb2.cell (p:=⟨b5,2,none⟩) hlb5).trans h.2.1,(hb2.cell (p:=⟨b5,10,none⟩) hlb5).trans h.2.2⟩) ?_
   clear hK K
   have HB5:=hid (HBd.out.trans (hb2.mono HBd.out.size))
   have HO2:=hid (ho2.mono (base':=wr.heap.size) HBd.out.size)
   have HZ5:Hid (wv.heap.size≤w5.heap.size):=hid hb2.size
   have HV5:Hid (Below wv.heap.size wv w5):=hid ((Below.refl wv.heap.size wv).drew.trans (hb2.mono (Nat.le_refl wv.heap.size)))
   clear ho2 hb2 hlb3 hlb5
   refine wpAnyJ_one (i:=11) rfl (by kernel_rfl) (fun K hK=>?_)
   go_simp
   refine (intClone_any x.ev.files x.fA _ x.fc w5 rfl (HSk.out.now HB5.out).ok.fi (by have:=HCk.out.2;omega)).mono ?_
   rintro en w6 ⟨A3,c3,rfl,ho3,hb3⟩
   go_wp2_with fail
   have hlb3:b3<w5.heap.size:=Nat.lt_of_lt_of_le (box_lt HDv.out) HZ5.out
   have hlb5:b5<w5.heap.size:=Nat.lt_of_lt_of_le (box_lt HR1.out) HZ5.out
   refine hK.out _ _ (fun _ h=>⟨(hb3.cell (p:=⟨b3,1,none⟩) hlb3).trans h.1,(hb3.cell (p:=⟨b5,2,none⟩) hlb5).trans h.2.1,(hb3.cell (p:=⟨b5,10,none⟩) hlb5).trans h.2.2⟩) ?_
   clear hK K
   have HB6:=hid (HB5.out.trans (hb3.mono HB5.out.size))
   have HO3:=hid (ho3.mono (base':=wr.heap.size) HB5.out.size)
   have HO2:=hid (HO2.out.turn (w':=w6) (fun i hi hl=>hb3.block i hl))
   have HV6:Hid (Below wv.heap.size wv w6):=hid (HV5.out.trans (hb3.mono HZ5.out))
   clear ho3 hb3 hlb3 hlb5
   have HEs:=hid (HCl.out w6 A2 c2 A3 c3 HB6.out HO2.out HO3.out)
   have HF6:Hid (∀ o,w6.frozen? ⟨g,o,none⟩=false):=hid (fun o=>(HB6.out.frozen (p:=⟨g,o,none⟩) (by have:=HLw.out;omega)).trans (HFz.out o))
   have HT6:Hid (∀ j,j<12→∃ v,w6.cell? ⟨g,k * 12+j,none⟩=some v):=hid (fun j hj=>by
    obtain ⟨v,hv⟩:=HThr.out j hj
    exact ⟨v,(HB6.out.cell (p:=⟨g,k * 12+j,none⟩) (by have:=HLw.out;omega)).trans hv⟩)
   obtain ⟨v2,z2⟩:=HT6.out 2 (by omega)
   obtain ⟨v10,z10⟩:=HT6.out 10 (by omega)
   have fz:=HF6.out
   refine wpAnyJ_pure (i:=12) (v:=?_) rfl (by kernel_rfl) (by kernel_rfl) (by kernel_rfl) (fun _ _ _ h=>h) (Or.inl ⟨by rfl,?_⟩) ?_
   rotate_left
   ·intro wq _
    go_simp
    try with_reducible rfl
   simp only [Act.put,sA,sB,sC]
   refine wpAnyJ_pure (i:=13) (v:=?_) rfl (by kernel_rfl) (by kernel_rfl) (by kernel_rfl) (fun _ _ _ h=>h) (Or.inl ⟨by rfl,?_⟩) ?_
   rotate_left
   ·intro wq _
    go_simp
    try with_reducible rfl
   simp only [Act.put,sA,sB,sC]
   refine wpAnyJ_one (i:=14) rfl (by kernel_rfl) (fun K hK=>?_)
   go_simp
   refine hK.out _ _ (fun _ h=>⟨(cell_set_ne w6 (by have:=HG.out;have:=HN.out;omega)).trans h.1,(cell_set_ne w6 (by have:=HG.out;have:=HLw.out;have:=Hb5.out;omega)).trans h.2.1,(cell_set_ne w6 (by have:=HG.out;have:=HLw.out;have:=Hb5.out;omega)).trans h.2.2⟩) ?_
   clear hK K
   refine wpAnyJ_pure (i:=15) (v:=?_) rfl (by kernel_rfl) (by kernel_rfl) (by kernel_rfl) (fun _ _ _ h=>h) (Or.inl ⟨by rfl,?_⟩) ?_
   rotate_left
   ·intro wq _
    go_simp
    try with_reducible rfl
   simp only [Act.put,sA,sB,sC]
   refine wpAnyJ_pure (i:=16) (v:=?_) rfl (by kernel_rfl) (by kernel_rfl) (by kernel_rfl) (fun _ _ _ h=>h) (Or.inl ⟨by rfl,?_⟩) ?_
   rotate_left
   ·intro wq _
    go_simp
    try with_reducible rfl
   simp only [Act.put,sA,sB,sC]
   refine wpAnyJ_one (i:=17) rfl (by kernel_rfl) (fun K hK=>?_)
   go_simp
   refine hK.out _ _ (fun _ h=>⟨(cell_set_ne (w6.setCell ⟨g,k * 12+2,none⟩ (.slice A2 x.ev.causes.length c2)) (by have:=HG.out;have:=HN.out;omega)).trans h.1,(cell_set_ne (w6.setCell ⟨g,k * 12+2,none⟩ (.slice A2 x.ev.causes.length c2)) (by have:=HG.out;have:=HLw.out;have:=Hb5.out;omega)).trans h.2.1,(cell_set_ne (w6.setCell ⟨g,k * 12+2,none⟩ (.slice A2 x.ev.causes.length c2)) (by have:=HG.out;have:=HLw.out;have:=Hb5.out;omega)).trans h.2.2⟩) ?_
   clear hK K
   refine wpAnyJ_done (by kernel_rfl) ?_ _
   clear z2 z10 fz
   have ht:Turn (One g) w6 ((w6.setCell ⟨g,k * 12+2,none⟩ (.slice A2 x.ev.causes.length c2)).setCell ⟨g,k * 12+10,none⟩ (.slice A3 x.ev.files.length c3)):=((Turn.refl (One g) w6).set g _ _ (.inl rfl)).set g _ _ (.inl rfl)
   have HX7:=hid ((HXv.out.now HV6.out).set' g (k * 12+2) (.slice A2 x.ev.causes.length c2) (by have:=HG.out;have:=HN.out;omega) |>.set' g (k * 12+10) (.slice A3 x.ev.files.length c3) (by have:=HG.out;have:=HN.out;omega))
   have HO7:=hid ((HOv.out.now HV6.out).set' g (k * 12+2) (.slice A2 x.ev.causes.length c2) (by have:=HG.out;have:=HN.out;omega) |>.set' g (k * 12+10) (.slice A3 x.ev.files.length c3) (by have:=HG.out;have:=HN.out;omega))
   have HD7:=hid ((HDv.out.now HV6.out).set' g (k * 12+2) (.slice A2 x.ev.causes.length c2) (by have:=HG.out;have:=HN.out;omega) |>.set' g (k * 12+10) (.slice A3 x.ev.files.length c3) (by have:=HG.out;have:=HN.out;omega))
   have HB7:=hid ((HB.out.trans (HB6.out.mono HB.out.size)).trans (ht.to_below (Nat.le_trans HB.out.size HB6.out.size) (fun i hi=>by have:=HG.out;have:=HN.out;unfold One at hi;omega)))
   have HL7:Hid (lo≤((w6.setCell ⟨g,k * 12+2,none⟩ (.slice A2 x.ev.causes.length c2)).setCell ⟨g,k * 12+10,none⟩ (.slice A3 x.ev.files.length c3)).heap.size):=hid (Nat.le_trans HLw.out (Nat.le_trans HB6.out.size ht.size))
   clear ht hHeld
   go_wp2_with fail
   go_roundw
   case rel=>exact ⟨k+1,_,by omega,by go_num,HEs.out,HX7.out,HO7.out,HD7.out,HB7.out,HL7.out⟩
   case measure=>simp [intOf];omega
  ·obtain rfl:k=s.events.length:=by omega
   clear hlt
   have HRs:=hid (RdStF.zero wr lo s.step)
   go_upto_region 8 with fail
   refine wp_region_J (S:=fun w'=>StBox b1 s a w') (fun _=>false) (by kernel_rfl) (HX.out) (fun hHeld=>?_)
   refine wpAnyJ_pure (i:=0) (v:=?_) rfl (by kernel_rfl) (by kernel_rfl) (by kernel_rfl) (fun _ _ _ h=>h) (Or.inl ⟨by rfl,?_⟩) ?_
   rotate_left
   ·intro wq _
    go_simp
    try with_reducible rfl
   simp only [Act.put,sA,sB,sC]
   refine wpAnyJ_take (i:=1) (v:=?_) rfl (by kernel_rfl) (by kernel_rfl) (by kernel_rfl) (by kernel_rfl) (fun _ _ _ h=>h) (Or.inl ⟨by rfl,?_⟩) hHeld ?_
   rotate_left
   ·intro wq hSq
    have zx:=hSq.kq
    go_simp
    try with_reducible rfl
   simp only [Act.put,sA,sB,sC]
   refine wpAnyJ_pure (i:=3) (v:=?_) rfl (by kernel_rfl) (by kernel_rfl) (by kernel_rfl) (fun _ _ _ h=>h) (Or.inl ⟨by rfl,?_⟩) ?_
   rotate_left
   ·intro wq _
    go_simp
    try with_reducible rfl
   simp only [Act.put,sA,sB,sC]
   refine wpAnyJ_take (i:=4) (v:=?_) rfl (by kernel_rfl) (by kernel_rfl) (by kernel_rfl) (by kernel_rfl) (fun _ _ _ h=>h) (Or.inl ⟨by rfl,?_⟩) hHeld ?_
   rotate_left
   ·intro wq hSq
    have zx:=hSq.ks
    go_simp
    try with_reducible rfl
   simp only [Act.put,sA,sB,sC]
   refine wpAnyJ_pure (i:=6) (v:=?_) rfl (by kernel_rfl) (by kernel_rfl) (by kernel_rfl) (fun _ _ _ h=>h) (Or.inl ⟨by rfl,?_⟩) ?_
   rotate_left
   ·intro wq _
    go_simp
    try with_reducible rfl
   simp only [Act.put,sA,sB,sC]
   refine wpAnyJ_take (i:=7) (v:=?_) rfl (by kernel_rfl) (by kernel_rfl) (by kernel_rfl) (by kernel_rfl) (fun _ _ _ h=>h) (Or.inl ⟨by rfl,?_⟩) hHeld ?_
   rotate_left
   ·intro wq hSq
    have zx:=hSq.kr
    go_simp
    try with_reducible rfl
   simp only [Act.put,sA,sB,sC]
   have hdr:Below wr.heap.size wr wr.drew:=(Below.refl _ _).drew
   have HX:=hid (HX.out.now hdr)
   have HE:=hid (HE.out.turn (Turn.below (F:=fun _=>False) hdr) (fun i hi=>hi.elim))
   have HO:=hid (HO.out.now hdr)
   have HD:=hid (HD.out.now hdr)
   have HRs:=hid (HRs.out.turn (Turn.below (F:=fun _=>False) hdr) (fun i hi=>hi.elim))
   have HB:=hid (HB.out.trans (hdr.mono HB.out.size))
   have HLw:=hid (Nat.le_trans HLw.out hdr.size)
   clear hdr
   generalize wr.drew=wrd at *
   refine wpAnyJ_one (i:=2) rfl (by kernel_rfl) (fun K hK=>?_)
   go_simp
   refine (clWaiting_any s.queue a.kq.1 a.kq.2 wrd (HS.out.now HB.out).kq HCap.out.l1).mono ?_
   rintro en y1 ⟨B1,d1,rfl,ho,hb⟩
   go_wp2_with fail
   refine hK.out _ _ (fun _ h=>h.now hb) ?_
   clear hK K
   have HL1:Hid (HeldL 4 D4.cs y1 lo (B1,d1) s.queue):=hid (ho.held layD4 HLw.out (by have:=HCap.out.l1;omega))
   have HX:=hid (HX.out.now hb)
   have HE:=hid (HE.out.turn (Turn.below (F:=fun _=>False) hb) (fun i hi=>hi.elim))
   have HO:=hid (HO.out.now hb)
   have HD:=hid (HD.out.now hb)
   have HRs:=hid (HRs.out.turn (Turn.below (F:=fun _=>False) hb) (fun i hi=>hi.elim))
   have HB:=hid (HB.out.trans (hb.mono HB.out.size))
   have HLw:=hid (Nat.le_trans HLw.out hb.size)
   have HRs:=hid (HRs.out.queue HL1.out (fun i hi=>⟨HL1.out.lo i hi,(ho.blk_lt hi).2,fun o=>ho.free_ hi o⟩))
   clear ho hb HL1
   refine wpAnyJ_pure (i:=9) (v:=?_) rfl (by kernel_rfl) (by kernel_rfl) (by kernel_rfl) (fun _ _ _ h=>h) (Or.inl ⟨by rfl,?_⟩) ?_
   rotate_left
   ·intro wq _
    go_simp
    try with_reducible rfl
   simp only [Act.put,sA,sB,sC]
   refine wpAnyJ_one (i:=5) rfl (by kernel_rfl) (fun K hK=>?_)
   go_simp
   refine (clSent_any s.sent a.ks.1 a.ks.2 y1 (HS.out.now HB.out).ks HCap.out.l2).mono ?_
   rintro en y2 ⟨B2,d2,rfl,ho,hb⟩
   go_wp2_with fail
   refine hK.out _ _ (fun _ h=>h.now hb) ?_
   clear hK K
   have HL2:Hid (HeldL 3 D3.cs y2 lo (B2,d2) s.sent):=hid (ho.held layD3 HLw.out (by have:=HCap.out.l2;omega))
   have HX:=hid (HX.out.now hb)
   have HE:=hid (HE.out.turn (Turn.below (F:=fun _=>False) hb) (fun i hi=>hi.elim))
   have HO:=hid (HO.out.now hb)
   have HD:=hid (HD.out.now hb)
   have HRs:=hid (HRs.out.turn (Turn.below (F:=fun _=>False) hb) (fun i hi=>hi.elim))
   have HB:=hid (HB.out.trans (hb.mono HB.out.size))
   have HLw:=hid (Nat.le_trans HLw.out hb.size)
   have HRs:=hid (HRs.out.sent HL2.out)
   clear ho hb HL2
   refine wpAnyJ_one (i:=8) rfl (by kernel_rfl) (fun K hK=>?_)
   go_simp
   refine (clDebt_any s.refused a.kr.1 a.kr.2 y2 (HS.out.now HB.out).kr HCap.out.l3).mono ?_
   rintro en y3 ⟨B3,d3,rfl,ho,hb⟩
   go_wp2_with fail
   refine hK.out _ _ (fun _ h=>h.now hb) ?_
   clear hK K
   have HL3:Hid (HeldL 2 D2.cs y3 lo (B3,d3) s.refused):=hid (ho.held layD2 HLw.out (by have:=HCap.out.l3;omega))
   have HX:=hid (HX.out.now hb)
   have HE:=hid (HE.out.turn (Turn.below (F:=fun _=>False) hb) (fun i hi=>hi.elim))
   have HO:=hid (HO.out.now hb)
   have HD:=hid (HD.out.now hb)
   have HRs:=hid (HRs.out.turn (Turn.below (F:=fun _=>False) hb) (fun i hi=>hi.elim))
   have HB:=hid (HB.out.trans (hb.mono HB.out.size))
   have HLw:=hid (Nat.le_trans HLw.out hb.size)
   have HRs:=hid (HRs.out.refused HL3.out)
   clear ho hb HL3
   have fz:=fun j=>box_free HD.out j
   have z1:=HD.out.kq
   have z2:=HD.out.ks
   have z3:=HD.out.kr
   refine wpAnyJ_one (i:=10) rfl (by kernel_rfl) (fun K hK=>?_)
   go_simp
   refine hK.out _ _ (fun _ h=>h.set' b3 2 _ (by have:=HN.out;omega)) ?_
   clear hK K
   refine wpAnyJ_pure (i:=11) (v:=?_) rfl (by kernel_rfl) (by kernel_rfl) (by kernel_rfl) (fun _ _ _ h=>h) (Or.inl ⟨by rfl,?_⟩) ?_
   rotate_left
   ·intro wq _
    go_simp
    try with_reducible rfl
   simp only [Act.put,sA,sB,sC]
   refine wpAnyJ_one (i:=12) rfl (by kernel_rfl) (fun K hK=>?_)
   go_simp
   refine hK.out _ _ (fun _ h=>h.set' b3 3 _ (by have:=HN.out;omega)) ?_
   clear hK K
   refine wpAnyJ_pure (i:=13) (v:=?_) rfl (by kernel_rfl) (by kernel_rfl) (by kernel_rfl) (fun _ _ _ h=>h) (Or.inl ⟨by rfl,?_⟩) ?_
   rotate_left
   ·intro wq _
    go_simp
    try with_reducible rfl
   simp only [Act.put,sA,sB,sC]
   refine wpAnyJ_one (i:=14) rfl (by kernel_rfl) (fun K hK=>?_)
   go_simp
   refine hK.out _ _ (fun _ h=>h.set' b3 4 _ (by have:=HN.out;omega)) ?_
   clear hK K
   refine wpAnyJ_done (by kernel_rfl) ?_ _
   clear hHeld fz z1 z2 z3
   have hts:=((((Turn.refl (One b3) y3).set b3 2 (.slice B1 s.queue.length d1) (.inl rfl)).set b3 3 (.slice B2 s.sent.length d2) (.inl rfl)).set b3 4 (.slice B3 s.refused.length d3) (.inl rfl))
   have HD:=hid (((HD.out.set_kq s.queue B1 d1).set_ks s.sent B2 d2).set_kr s.refused B3 d3)
   have HX:=hid (((HX.out.set' b3 2 (.slice B1 s.queue.length d1) (by have:=HN.out;omega)).set' b3 3 (.slice B2 s.sent.length d2) (by have:=HN.out;omega)).set' b3 4 (.slice B3 s.refused.length d3) (by have:=HN.out;omega))
   have HO:=hid (((HO.out.set' b3 2 (.slice B1 s.queue.length d1) (by have:=HN.out;omega)).set' b3 3 (.slice B2 s.sent.length d2) (by have:=HN.out;omega)).set' b3 4 (.slice B3 s.refused.length d3) (by have:=HN.out;omega))
   have HE:=hid (HE.out.turn hts (fun i hi=>⟨by have:=HN.out;have:=HLo.out;unfold One at hi;omega,fun he=>by have:=HA1.out i he;have:=HN.out;unfold One at hi;omega⟩))
   have HRs:=hid (HRs.out.turn hts (fun i hi=>by have:=HN.out;have:=HLo.out;unfold One at hi;omega))
   have HB:=hid (HB.out.trans (hts.to_below HB.out.size (fun i hi=>by have:=HN.out;unfold One at hi;omega)))
   have HLw:=hid (Nat.le_trans HLw.out hts.size)
   clear hts
   go_upto_region 9 with fail
   change Code.wp _ _ _ _ (World.setCell (World.setCell (World.setCell y3 ⟨b3,2,none⟩ (.slice B1 s.queue.length d1)) ⟨b3,3,none⟩ (.slice B2 s.sent.length d2)) ⟨b3,4,none⟩ (.slice B3 s.refused.length d3))
   generalize (World.setCell (World.setCell (World.setCell y3 ⟨b3,2,none⟩ (.slice B1 s.queue.length d1)) ⟨b3,3,none⟩ (.slice B2 s.sent.length d2)) ⟨b3,4,none⟩ (.slice B3 s.refused.length d3))=v4 at *
   refine wp_region_J (S:=fun w'=>StBox b1 s a w') (fun _=>false) (by kernel_rfl) (HX.out) (fun hHeld=>?_)
   refine wpAnyJ_pure (i:=0) (v:=?_) rfl (by kernel_rfl) (by kernel_rfl) (by kernel_rfl) (fun _ _ _ h=>h) (Or.inl ⟨by rfl,?_⟩) ?_
   rotate_left
   ·intro wq _
    go_simp
    try with_reducible rfl
   simp only [Act.put,sA,sB,sC]
   refine wpAnyJ_take (i:=1) (v:=?_) rfl (by kernel_rfl) (by kernel_rfl) (by kernel_rfl) (by kernel_rfl) (fun _ _ _ h=>h) (Or.inl ⟨by rfl,?_⟩) hHeld ?_
   rotate_left
   ·intro wq hSq
    have zx:=hSq.kp
    go_simp
    try with_reducible rfl
   simp only [Act.put,sA,sB,sC]
   refine wpAnyJ_pure (i:=3) (v:=?_) rfl (by kernel_rfl) (by kernel_rfl) (by kernel_rfl) (fun _ _ _ h=>h) (Or.inl ⟨by rfl,?_⟩) ?_
   rotate_left
   ·intro wq _
    go_simp
    try with_reducible rfl
   simp only [Act.put,sA,sB,sC]
   refine wpAnyJ_take (i:=4) (v:=?_) rfl (by kernel_rfl) (by kernel_rfl) (by kernel_rfl) (by kernel_rfl) (fun _ _ _ h=>h) (Or.inl ⟨by rfl,?_⟩) hHeld ?_
   rotate_left
   ·intro wq hSq
    have zx:=hSq.kf
    go_simp
    try with_reducible rfl
   simp only [Act.put,sA,sB,sC]
   refine wpAnyJ_pure (i:=6) (v:=?_) rfl (by kernel_rfl) (by kernel_rfl) (by kernel_rfl) (fun _ _ _ h=>h) (Or.inl ⟨by rfl,?_⟩) ?_
   rotate_left
   ·intro wq _
    go_simp
    try with_reducible rfl
   simp only [Act.put,sA,sB,sC]
   refine wpAnyJ_take (i:=7) (v:=?_) rfl (by kernel_rfl) (by kernel_rfl) (by kernel_rfl) (by kernel_rfl) (fun _ _ _ h=>h) (Or.inl ⟨by rfl,?_⟩) hHeld ?_
   rotate_left
   ·intro wq hSq
    have zx:=hSq.kb
    go_simp
    try with_reducible rfl
   simp only [Act.put,sA,sB,sC]
   have hdr:Below v4.heap.size v4 v4.drew:=(Below.refl _ _).drew
   have HX:=hid (HX.out.now hdr)
   have HE:=hid (HE.out.turn (Turn.below (F:=fun _=>False) hdr) (fun i hi=>hi.elim))
   have HO:=hid (HO.out.now hdr)
   have HD:=hid (HD.out.now hdr)
   have HRs:=hid (HRs.out.turn (Turn.below (F:=fun _=>False) hdr) (fun i hi=>hi.elim))
   have HB:=hid (HB.out.trans (hdr.mono HB.out.size))
   have HLw:=hid (Nat.le_trans HLw.out hdr.size)
   clear hdr
   generalize v4.drew=v4d at *
   refine wpAnyJ_one (i:=2) rfl (by kernel_rfl) (fun K hK=>?_)
   go_simp
   refine (clPair_any s.pairs a.kp.1 a.kp.2 v4d (HS.out.now HB.out).kp HCap.out.l4).mono ?_
   rintro en y5 ⟨B5,d5,rfl,ho,hb⟩
   go_wp2_with fail
   refine hK.out _ _ (fun _ h=>h.now hb) ?_
   clear hK K
   have HL5:Hid (HeldL 4 D4.cs y5 lo (B5,d5) s.pairs):=hid (ho.held layD4 HLw.out (by have:=HCap.out.l4;omega))
   have HX:=hid (HX.out.now hb)
   have HE:=hid (HE.out.turn (Turn.below (F:=fun _=>False) hb) (fun i hi=>hi.elim))
   have HO:=hid (HO.out.now hb)
   have HD:=hid (HD.out.now hb)
   have HRs:=hid (HRs.out.turn (Turn.below (F:=fun _=>False) hb) (fun i hi=>hi.elim))
   have HB:=hid (HB.out.trans (hb.mono HB.out.size))
   have HLw:=hid (Nat.le_trans HLw.out hb.size)
   have HRs:=hid (HRs.out.pairs HL5.out)
   clear ho hb HL5
   refine wpAnyJ_pure (i:=9) (v:=?_) rfl (by kernel_rfl) (by kernel_rfl) (by kernel_rfl) (fun _ _ _ h=>h) (Or.inl ⟨by rfl,?_⟩) ?_
   rotate_left
   ·intro wq _
    go_simp
    try with_reducible rfl
   simp only [Act.put,sA,sB,sC]
   refine wpAnyJ_one (i:=5) rfl (by kernel_rfl) (fun K hK=>?_)
   go_simp
   refine (clProof_any s.proofs a.kf.1 a.kf.2 y5 (HS.out.now HB.out).kf HCap.out.l5).mono ?_
   rintro en y6 ⟨B6,d6,rfl,ho,hb⟩
   go_wp2_with fail
   refine hK.out _ _ (fun _ h=>h.now hb) ?_
   clear hK K
   have HL6:Hid (HeldL 3 D3.cs y6 lo (B6,d6) s.proofs):=hid (ho.held layD3 HLw.out (by have:=HCap.out.l5;omega))
   have HX:=hid (HX.out.now hb)
   have HE:=hid (HE.out.turn (Turn.below (F:=fun _=>False) hb) (fun i hi=>hi.elim))
   have HO:=hid (HO.out.now hb)
   have HD:=hid (HD.out.now hb)
   have HRs:=hid (HRs.out.turn (Turn.below (F:=fun _=>False) hb) (fun i hi=>hi.elim))
   have HB:=hid (HB.out.trans (hb.mono HB.out.size))
   have HLw:=hid (Nat.le_trans HLw.out hb.size)
   have HRs:=hid (HRs.out.proofs HL6.out)
   clear ho hb HL6
   refine wpAnyJ_one (i:=8) rfl (by kernel_rfl) (fun K hK=>?_)
   go_simp
   refine (clVerdict_any s.bad a.kb.1 a.kb.2 y6 (HS.out.now HB.out).kb HCap.out.l7).mono ?_
   rintro en y7 ⟨B7,d7,rfl,ho,hb⟩
   go_wp2_with fail
   refine hK.out _ _ (fun _ h=>h.now hb) ?_
   clear hK K
   have HL7:Hid (HeldL 3 E3.cs y7 lo (B7,d7) s.bad):=hid (ho.held layE3 HLw.out (by have:=HCap.out.l7;omega))
   have HX:=hid (HX.out.now hb)
   have HE:=hid (HE.out.turn (Turn.below (F:=fun _=>False) hb) (fun i hi=>hi.elim))
   have HO:=hid (HO.out.now hb)
   have HD:=hid (HD.out.now hb)
   have HRs:=hid (HRs.out.turn (Turn.below (F:=fun _=>False) hb) (fun i hi=>hi.elim))
   have HB:=hid (HB.out.trans (hb.mono HB.out.size))
   have HLw:=hid (Nat.le_trans HLw.out hb.size)
   have HRs:=hid (HRs.out.bad HL7.out)
   clear ho hb HL7
   have fz:=fun j=>box_free HD.out j
   have z5:=HD.out.kp
   have z6:=HD.out.kf
   have z7:=HD.out.kb
   refine wpAnyJ_one (i:=10) rfl (by kernel_rfl) (fun K hK=>?_)
   go_simp
   refine hK.out _ _ (fun _ h=>h.set' b3 5 _ (by have:=HN.out;omega)) ?_
   clear hK K
   refine wpAnyJ_pure (i:=11) (v:=?_) rfl (by kernel_rfl) (by kernel_rfl) (by kernel_rfl) (fun _ _ _ h=>h) (Or.inl ⟨by rfl,?_⟩) ?_
   rotate_left
   ·intro wq _
    go_simp
    try with_reducible rfl
   simp only [Act.put,sA,sB,sC]
   refine wpAnyJ_one (i:=12) rfl (by kernel_rfl) (fun K hK=>?_)
   go_simp
   refine hK.out _ _ (fun _ h=>h.set' b3 6 _ (by have:=HN.out;omega)) ?_
   clear hK K
   refine wpAnyJ_pure (i:=13) (v:=?_) rfl (by kernel_rfl) (by kernel_rfl) (by kernel_rfl) (fun _ _ _ h=>h) (Or.inl ⟨by rfl,?_⟩) ?_
   rotate_left
   ·intro wq _
    go_simp
    try with_reducible rfl
   simp only [Act.put,sA,sB,sC]
   refine wpAnyJ_one (i:=14) rfl (by kernel_rfl) (fun K hK=>?_)
   go_simp
   refine hK.out _ _ (fun _ h=>h.set' b3 8 _ (by have:=HN.out;omega)) ?_
   clear hK K
   refine wpAnyJ_done (by kernel_rfl) ?_ _
   clear hHeld fz z5 z6 z7
   have hts:=((((Turn.refl (One b3) y7).set b3 5 (.slice B5 s.pairs.length d5) (.inl rfl)).set b3 6 (.slice B6 s.proofs.length d6) (.inl rfl)).set b3 8 (.slice B7 s.bad.length d7) (.inl rfl))
   have HD:=hid (((HD.out.set_kp s.pairs B5 d5).set_kf s.proofs B6 d6).set_kb s.bad B7 d7)
   have HX:=hid (((HX.out.set' b3 5 (.slice B5 s.pairs.length d5) (by have:=HN.out;omega)).set' b3 6 (.slice B6 s.proofs.length d6) (by have:=HN.out;omega)).set' b3 8 (.slice B7 s.bad.length d7) (by have:=HN.out;omega))
   have HO:=hid (((HO.out.set' b3 5 (.slice B5 s.pairs.length d5) (by have:=HN.out;omega)).set' b3 6 (.slice B6 s.proofs.length d6) (by have:=HN.out;omega)).set' b3 8 (.slice B7 s.bad.length d7) (by have:=HN.out;omega))
   have HE:=hid (HE.out.turn hts (fun i hi=>⟨by have:=HN.out;have:=HLo.out;unfold One at hi;omega,fun he=>by have:=HA1.out i he;have:=HN.out;unfold One at hi;omega⟩))
   have HRs:=hid (HRs.out.turn hts (fun i hi=>by have:=HN.out;have:=HLo.out;unfold One at hi;omega))
   have HB:=hid (HB.out.trans (hts.to_below HB.out.size (fun i hi=>by have:=HN.out;unfold One at hi;omega)))
   have HLw:=hid (Nat.le_trans HLw.out hts.size)
   clear hts
   go_upto_region 10 with fail
   change Code.wp _ _ _ _ (World.setCell (World.setCell (World.setCell y7 ⟨b3,5,none⟩ (.slice B5 s.pairs.length d5)) ⟨b3,6,none⟩ (.slice B6 s.proofs.length d6)) ⟨b3,8,none⟩ (.slice B7 s.bad.length d7))
   generalize (World.setCell (World.setCell (World.setCell y7 ⟨b3,5,none⟩ (.slice B5 s.pairs.length d5)) ⟨b3,6,none⟩ (.slice B6 s.proofs.length d6)) ⟨b3,8,none⟩ (.slice B7 s.bad.length d7))=v8 at *
   have HE8:=hid HE.out
   have HR8:=hid HRs.out
   have HTv:=hid (Turn.refl (One b3) v8)
   have HW8:Hid (lo≤v8.heap.size):=HLw
   have zx:=HX.out.kn
   go_wp2_with fail
   clear zx
   refine (clNotes_any s.notes a.kn.1 a.kn.2 v8 (HS.out.now HB.out).kn HCap.out.l6).mono ?_
   rintro en q1 ⟨B0,d0,rfl,ho,hb⟩
   have HNo:=hid ho
   have HBl:Hid (lo≤v8.heap.size):=HLw
   have HTv:=hid (HTv.out.trans (Turn.below (F:=One b3) hb) (fun i hi=>.inl hi))
   have HX:=hid (HX.out.now hb)
   have HE:=hid (HE.out.turn (Turn.below (F:=fun _=>False) hb) (fun i hi=>hi.elim))
   have HO:=hid (HO.out.now hb)
   have HD:=hid (HD.out.now hb)
   have HRs:=hid (HRs.out.turn (Turn.below (F:=fun _=>False) hb) (fun i hi=>hi.elim))
   have HB:=hid (HB.out.trans (hb.mono HB.out.size))
   have HLw:=hid (Nat.le_trans HLw.out hb.size)
   clear ho hb
   have fz:=fun j=>box_free HD.out j
   have zd:=HD.out.kn
   have hts:=((Turn.refl (One b3) q1).set b3 7 (.slice B0 s.notes.length d0) (.inl rfl))
   have HD:=hid (HD.out.set_kn s.notes B0 d0)
   have HX:=hid (HX.out.set' b3 7 (.slice B0 s.notes.length d0) (by have:=HN.out;omega))
   have HTv:=hid (HTv.out.trans hts (fun i hi=>.inl hi))
   have HNo:=hid (HNo.out.turn (w':=World.setCell q1 ⟨b3,7,none⟩ (.slice B0 s.notes.length d0)) (fun i hi hl=>hts.block i hl (fun hf=>by have:=(HNo.out.blk_lt hi).1;have:=HBl.out;have:=HLo.out;have:=HN.out;unfold One at hf;omega)))
   have HO:=hid (HO.out.set' b3 7 (.slice B0 s.notes.length d0) (by have:=HN.out;omega))
   have HE:=hid (HE.out.turn hts (fun i hi=>⟨by have:=HN.out;have:=HLo.out;unfold One at hi;omega,fun he=>by have:=HA1.out i he;have:=HN.out;unfold One at hi;omega⟩))
   have HRs:=hid (HRs.out.turn hts (fun i hi=>by have:=HN.out;have:=HLo.out;unfold One at hi;omega))
   have HB:=hid (HB.out.trans (hts.to_below HB.out.size (fun i hi=>by have:=HN.out;unfold One at hi;omega)))
   have HLw:=hid (Nat.le_trans HLw.out hts.size)
   clear hts
   go_upto_region 11 with fail
   clear fz zd
   change Code.wp _ _ _ _ (World.setCell q1 ⟨b3,7,none⟩ (.slice B0 s.notes.length d0))
   generalize (World.setCell q1 ⟨b3,7,none⟩ (.slice B0 s.notes.length d0))=v9 at *
   obtain ⟨lo2,hlo2⟩:∃ x,x=v9.heap.size:=⟨_,rfl⟩
   have HNl:Hid (NlInv v9 lo lo2 B0 d0 s.notes 0 s.notes):=hid ⟨HNo.out.mono HBl.out,rfl,rfl,fun j _ h=>by omega,fun _ _ _ _=>rfl,fun i hi=>by have:=(HNo.out.blk_lt hi).2;omega,fun j _ h=>by omega⟩
   have HLo2:Hid (lo≤lo2∧lo2≤v9.heap.size):=hid ⟨by have:=HLw.out;omega,by omega⟩
   have HBa:Hid (∀ i,slBlk B0=some i→lo≤i∧v8.heap.size≤i):=hid (fun i hi=>by have h1:=(HNo.out.blk_lt hi).1;have:=HBl.out;omega)
   clear hlo2 HNo HBl
   have zd:=HD.out.kn
   have hnl:=HCap.out.l6
   go_wp2_with fail
   clear zd
   obtain ⟨ad,HDp⟩:∃ ad,Hid (ad=_∧StBox b3 s ad v9):=⟨_,hid ⟨rfl,HD.out⟩⟩
   obtain ⟨tR,cR,HRp⟩:∃ tR cR,Hid (tR=_∧cR=_∧RdStF v8 lo tR cR):=⟨_,_,hid ⟨rfl,rfl,HR8.out⟩⟩
   have hkn:ad.kn=(B0,d0):=by rw [HDp.out.1]
   have HAd:=hid HDp.out.1
   have HTc:=hid (And.intro HRp.out.1 HRp.out.2.1)
   have HKn:=hid hkn
   clear HD HR8
   have HD:=hid HDp.out.2
   have HR8:=hid HRp.out.2.2
   clear hkn HDp HRp HRs HE
   go_loopw [6,7,69] (fun _ _ i wz=>∃ (k:Nat) (ys:List NL),k≤s.notes.length∧i=.int .i64 k∧NlInv wz lo lo2 B0 d0 s.notes k ys∧StBox b1 s a wz∧StBox b2 (sttZ 0) adZ wz∧StBox b3 s ad wz∧Below w.heap.size w wz∧lo2≤wz.heap.size∧Turn (One b3) v8 wz) (fun _ _ i _=>s.notes.length - (intOf i).toNat)
   case atStart=>exact ⟨0,s.notes,Nat.zero_le _,rfl,HNl.out,HX.out,HO.out,HD.out,HB.out,HLo2.out.2,HTv.out⟩
   case round =>
    obtain ⟨k,ys,hk,rfl,he,hx,ho,hd,hbw,hlw,htv⟩:=hrel
    have HNl:=hid he
    have HX:=hid hx
    have HO:=hid ho
    have HD:=hid hd
    have HB:=hid hbw
    have HLz:=hid hlw
    have HTv:=hid htv
    clear he hx ho hd hbw hlw htv HLw
    by_cases hlt:k<s.notes.length
    ·have hkx:k<ys.length:=by rw [HNl.out.len];exact hlt
     have hold:=HNl.out.old k hkx hlt (Nat.le_refl _)
     obtain ⟨g,rfl,hg,_⟩:=HNl.out.own.some_ (fun e=>by rw [e] at hkx;simp at hkx)
     have hsok:=(HS.out.now HB.out).nos _ (List.getElem_mem hlt)
     have hcap:=HCap.out.l6b _ (List.getElem_mem hlt)
     rw [← hold] at hsok hcap
     have HCl:=hid (fun w5 A2 c2 hb h2=>nl_clone (w5:=w5) (A2:=A2) (c2:=c2) HNl.out hkx hb HLz.out h2 hsok.2.1)
     have hc0:wr.cell? ⟨g,k,none⟩=some (.slice ys[k].A ys[k].l.length ys[k].c):=by
      have:=HNl.out.own.cellc layNL k 0 hkx _ rfl
      simpa using this
     have HC0:=hid hc0
     have HFz:=hid (fun o=>HNl.out.own.freec o)
     have HSk:=hid hsok
     have HCk:=hid hcap
     have HG:Hid (g<lo2∧lo≤g∧v8.heap.size≤g):=hid ⟨HNl.out.blk g rfl,HBa.out g rfl⟩
     clear hold hsok hcap hg
     generalize hx:ys[k]=x at *
     clear hx
     go_upto_region 14 with fail
     clear hc0
     have hD7:wr.cell? ⟨b3,7,none⟩=some (.slice (some ⟨g,0,none⟩) s.notes.length d0):=by
      have h1:=HD.out.kn
      rw [HKn.out] at h1
      exact h1
     refine wp_region_J (S:=fun w'=>w'.cell? ⟨b3,7,none⟩=some (.slice (some ⟨g,0,none⟩) s.notes.length d0)) (fun _=>false) (by kernel_rfl) (hD7) (fun hHeld=>?_)
     refine wpAnyJ_pure (i:=0) (v:=?_) rfl (by kernel_rfl) (by kernel_rfl) (by kernel_rfl) (fun _ _ _ h=>h) (Or.inl ⟨by rfl,?_⟩) ?_
     rotate_left
     ·intro wq _
      go_simp
      try with_reducible rfl
     simp only [Act.put,sA,sB,sC]
     refine wpAnyJ_take (i:=1) (v:=?_) rfl (by kernel_rfl) (by kernel_rfl) (by kernel_rfl) (by kernel_rfl) (fun _ _ _ h=>h) (Or.inl ⟨by rfl,?_⟩) hHeld ?_
     rotate_left
     ·intro wq hSq
      have zz:=hSq
      go_simp
      try with_reducible rfl
     simp only [Act.put,sA,sB,sC]
     refine wpAnyJ_pure (i:=2) (v:=?_) rfl (by kernel_rfl) (by kernel_rfl) (by kernel_rfl) (fun _ _ _ h=>h) (Or.inl ⟨by rfl,?_⟩) ?_
     rotate_left
     ·intro wq _
      go_simp
      try with_reducible rfl
     simp only [Act.put,sA,sB,sC]
     refine wpAnyJ_pure (i:=3) (v:=?_) rfl (by kernel_rfl) (by kernel_rfl) (by kernel_rfl) (fun _ _ _ h=>h) (Or.inl ⟨by rfl,?_⟩) ?_
     rotate_left
     ·intro wq _
      go_simp
      try with_reducible rfl
     simp only [Act.put,sA,sB,sC]
     have HBd:Hid (Below wr.heap.size wr wr.drew):=hid (Below.refl _ _).drew
     have Hl3:Hid (b3<wr.drew.heap.size):=hid (box_lt HD.out)
     clear hD7
     refine wpAnyJ_one (i:=4) rfl (by kernel_rfl) (fun K hK=>?_)
     go_simp
     refine (clNote_any x.l x.A x.c wr.drew (HSk.out.1.now HBd.out) HCk.out).mono ?_
     rintro en w6 ⟨A2,c2,rfl,ho2,hb2⟩
     go_wp2_with fail
     refine hK.out _ _ (fun _ h=>(hb2.cell (p:=⟨b3,7,none⟩) Hl3.out).trans h) ?_
     clear hK K
     have HB6:=hid (HBd.out.trans (hb2.mono HBd.out.size))
     have HNs:=hid (HCl.out w6 A2 c2 HB6.out (ho2.mono (base':=wr.heap.size) HBd.out.size))
     have hgl:g<wr.heap.size:=by have:=HG.out;have:=HLz.out;omega
     have fz:=fun o=>(HB6.out.frozen (p:=⟨g,o,none⟩) hgl).trans (HFz.out o)
     have z2:=(HB6.out.cell (p:=⟨g,k,none⟩) hgl).trans HC0.out
     have HGl:=hid hgl
     clear ho2 hb2 hgl
     refine wpAnyJ_pure (i:=5) (v:=?_) rfl (by kernel_rfl) (by kernel_rfl) (by kernel_rfl) (fun _ _ _ h=>h) (Or.inl ⟨by rfl,?_⟩) ?_
     rotate_left
     ·intro wq _
      go_simp
      try with_reducible rfl
     simp only [Act.put,sA,sB,sC]
     refine wpAnyJ_one (i:=6) rfl (by kernel_rfl) (fun K hK=>?_)
     go_simp
     refine hK.out _ _ (fun _ h=>(cell_set_ne w6 (by have:=HG.out;have:=HN.out;have:=HLo.out;omega)).trans h) ?_
     clear hK K
     refine wpAnyJ_done (by kernel_rfl) ?_ _
     clear fz z2 hHeld
     have ht:Turn (One g) w6 (w6.setCell ⟨g,k,none⟩ (.slice A2 x.l.length c2)):=(Turn.refl (One g) w6).set g _ _ (.inl rfl)
     have htz:=(Turn.below (F:=One g) HB6.out).trans ht (fun i hi=>.inl hi)
     have HX7:=hid ((HX.out.now HB6.out).set' g k (.slice A2 x.l.length c2) (by have:=HG.out;have:=HN.out;have:=HLo.out;omega))
     have HO7:=hid ((HO.out.now HB6.out).set' g k (.slice A2 x.l.length c2) (by have:=HG.out;have:=HN.out;have:=HLo.out;omega))
     have HD7:=hid ((HD.out.now HB6.out).set' g k (.slice A2 x.l.length c2) (by have:=HG.out;have:=HN.out;have:=HLo.out;omega))
     have HB7:=hid ((HB.out.trans (HB6.out.mono HB.out.size)).trans (ht.to_below (Nat.le_trans HB.out.size HB6.out.size) (fun i hi=>by have:=HG.out;have:=HN.out;have:=HLo.out;unfold One at hi;omega)))
     have HL7:Hid (lo2≤(w6.setCell ⟨g,k,none⟩ (.slice A2 x.l.length c2)).heap.size):=hid (Nat.le_trans HLz.out (Nat.le_trans HB6.out.size ht.size))
     have HTv7:=hid (HTv.out.trans htz (fun i hi=>.inr (by have:=HG.out;unfold One at hi;omega)))
     clear ht htz
     go_wp2_with fail
     go_roundw
     case rel=>exact ⟨k+1,_,by omega,by go_num,HNs.out,HX7.out,HO7.out,HD7.out,HB7.out,HL7.out,HTv7.out⟩
     case measure=>simp [intOf];omega
    ·obtain rfl:k=s.notes.length:=by omega
     clear hlt
     have HE:=hid (HE8.out.turn HTv.out (fun i hi=>⟨by have:=HN.out;have:=HLo.out;unfold One at hi;omega,fun he=>by have:=HA1.out i he;have:=HN.out;unfold One at hi;omega⟩))
     have HLw:Hid (lo≤wr.heap.size):=hid (by have:=HLz.out;have:=HLo2.out;omega)
     have HRs:=hid ((HR8.out.turn HTv.out (fun i hi=>by have:=HN.out;have:=HLo.out;unfold One at hi;omega)).notes (HNl.out.own.held layNL (Nat.le_refl _) (by have h1:=HNl.out.len;have:=HCap.out.l6;omega)) (fun x hx=>⟨(HNl.out.all x hx).1,fun i hi=>by have:=(HNl.out.all x hx).2 i hi;have:=HLo2.out;omega⟩) (fun x hx i hi o=>by
      obtain ⟨j,hj,rfl⟩:=List.getElem_of_mem hx
      exact HNl.out.fr j hj (by rw [← HNl.out.len];exact hj) i hi o))
     have HYs:Hid (ys.length=s.notes.length∧ys.map (fun x:NL=>x.l)=s.notes.map (fun x:NL=>x.l)):=hid ⟨HNl.out.len,HNl.out.ev⟩
     go_upto_region 16 with fail
     refine wp_region_J (S:=fun w'=>StBox b1 s a w') (fun _=>false) (by kernel_rfl) (HX.out) (fun hHeld=>?_)
     refine wpAnyJ_pure (i:=0) (v:=?_) rfl (by kernel_rfl) (by kernel_rfl) (by kernel_rfl) (fun _ _ _ h=>h) (Or.inl ⟨by rfl,?_⟩) ?_
     rotate_left
     ·intro wq _
      go_simp
      try with_reducible rfl
     simp only [Act.put,sA,sB,sC]
     refine wpAnyJ_take (i:=1) (v:=?_) rfl (by kernel_rfl) (by kernel_rfl) (by kernel_rfl) (by kernel_rfl) (fun _ _ _ h=>h) (Or.inl ⟨by rfl,?_⟩) hHeld ?_
     rotate_left
     ·intro wq hSq
      have zx:=hSq.kh
      go_simp
      try with_reducible rfl
     simp only [Act.put,sA,sB,sC]
     refine wpAnyJ_pure (i:=3) (v:=?_) rfl (by kernel_rfl) (by kernel_rfl) (by kernel_rfl) (fun _ _ _ h=>h) (Or.inl ⟨by rfl,?_⟩) ?_
     rotate_left
     ·intro wq _
      go_simp
      try with_reducible rfl
     simp only [Act.put,sA,sB,sC]
     refine wpAnyJ_take (i:=4) (v:=?_) rfl (by kernel_rfl) (by kernel_rfl) (by kernel_rfl) (by kernel_rfl) (fun _ _ _ h=>h) (Or.inl ⟨by rfl,?_⟩) hHeld ?_
     rotate_left
     ·intro wq hSq
      have zx:=hSq.ko
      go_simp
      try with_reducible rfl
     simp only [Act.put,sA,sB,sC]
     have hdr:Below wr.heap.size wr wr.drew:=(Below.refl _ _).drew
     have HX:=hid (HX.out.now hdr)
     have HE:=hid (HE.out.turn (Turn.below (F:=fun _=>False) hdr) (fun i hi=>hi.elim))
     have HO:=hid (HO.out.now hdr)
     have HD:=hid (HD.out.now hdr)
     have HRs:=hid (HRs.out.turn (Turn.below (F:=fun _=>False) hdr) (fun i hi=>hi.elim))
     have HB:=hid (HB.out.trans (hdr.mono HB.out.size))
     have HLw:=hid (Nat.le_trans HLw.out hdr.size)
     clear hdr
     generalize wr.drew=wrd at *
     refine wpAnyJ_one (i:=2) rfl (by kernel_rfl) (fun K hK=>?_)
     go_simp
     refine (clHold_any s.holds a.kh.1 a.kh.2 wrd (HS.out.now HB.out).kh HCap.out.l8).mono ?_
     rintro en y10 ⟨B10,d10,rfl,ho,hb⟩
     go_wp2_with fail
     refine hK.out _ _ (fun _ h=>h.now hb) ?_
     clear hK K
     have HL10:Hid (HeldL 4 D4.cs y10 lo (B10,d10) s.holds):=hid (ho.held layD4 HLw.out (by have:=HCap.out.l8;omega))
     have HX:=hid (HX.out.now hb)
     have HE:=hid (HE.out.turn (Turn.below (F:=fun _=>False) hb) (fun i hi=>hi.elim))
     have HO:=hid (HO.out.now hb)
     have HD:=hid (HD.out.now hb)
     have HRs:=hid (HRs.out.turn (Turn.below (F:=fun _=>False) hb) (fun i hi=>hi.elim))
     have HB:=hid (HB.out.trans (hb.mono HB.out.size))
     have HLw:=hid (Nat.le_trans HLw.out hb.size)
     have HRs:=hid (HRs.out.holds HL10.out)
     clear ho hb HL10
     refine wpAnyJ_pure (i:=6) (v:=?_) rfl (by kernel_rfl) (by kernel_rfl) (by kernel_rfl) (fun _ _ _ h=>h) (Or.inl ⟨by rfl,?_⟩) ?_
     rotate_left
     ·intro wq _
      go_simp
      try with_reducible rfl
     simp only [Act.put,sA,sB,sC]
     refine wpAnyJ_one (i:=5) rfl (by kernel_rfl) (fun K hK=>?_)
     go_simp
     refine (clOrder_any s.orders a.ko.1 a.ko.2 y10 (HS.out.now HB.out).ko HCap.out.l9).mono ?_
     rintro en y11 ⟨B11,d11,rfl,ho,hb⟩
     go_wp2_with fail
     refine hK.out _ _ (fun _ h=>h.now hb) ?_
     clear hK K
     have HL11:Hid (HeldL 4 D4.cs y11 lo (B11,d11) s.orders):=hid (ho.held layD4 HLw.out (by have:=HCap.out.l9;omega))
     have HX:=hid (HX.out.now hb)
     have HE:=hid (HE.out.turn (Turn.below (F:=fun _=>False) hb) (fun i hi=>hi.elim))
     have HO:=hid (HO.out.now hb)
     have HD:=hid (HD.out.now hb)
     have HRs:=hid (HRs.out.turn (Turn.below (F:=fun _=>False) hb) (fun i hi=>hi.elim))
     have HB:=hid (HB.out.trans (hb.mono HB.out.size))
     have HLw:=hid (Nat.le_trans HLw.out hb.size)
     have HRs:=hid (HRs.out.orders HL11.out)
     clear ho hb HL11
     have fz:=fun j=>box_free HD.out j
     have z10:=HD.out.kh
     have z11:=HD.out.ko
     refine wpAnyJ_one (i:=7) rfl (by kernel_rfl) (fun K hK=>?_)
     go_simp
     refine hK.out _ _ (fun _ h=>h.set' b3 9 _ (by have:=HN.out;omega)) ?_
     clear hK K
     refine wpAnyJ_pure (i:=8) (v:=?_) rfl (by kernel_rfl) (by kernel_rfl) (by kernel_rfl) (fun _ _ _ h=>h) (Or.inl ⟨by rfl,?_⟩) ?_
     rotate_left
     ·intro wq _
      go_simp
      try with_reducible rfl
     simp only [Act.put,sA,sB,sC]
     refine wpAnyJ_one (i:=9) rfl (by kernel_rfl) (fun K hK=>?_)
     go_simp
     refine hK.out _ _ (fun _ h=>h.set' b3 10 _ (by have:=HN.out;omega)) ?_
     clear hK K
     refine wpAnyJ_done (by kernel_rfl) ?_ _
     clear hHeld fz z10 z11
     have hts:=(((Turn.refl (One b3) y11).set b3 9 (.slice B10 s.holds.length d10) (.inl rfl)).set b3 10 (.slice B11 s.orders.length d11) (.inl rfl))
     have HD:=hid ((HD.out.set_kh s.holds B10 d10).set_ko s.orders B11 d11)
     have HX:=hid ((HX.out.set' b3 9 (.slice B10 s.holds.length d10) (by have:=HN.out;omega)).set' b3 10 (.slice B11 s.orders.length d11) (by have:=HN.out;omega))
     have HO:=hid ((HO.out.set' b3 9 (.slice B10 s.holds.length d10) (by have:=HN.out;omega)).set' b3 10 (.slice B11 s.orders.length d11) (by have:=HN.out;omega))
     have HE:=hid (HE.out.turn hts (fun i hi=>⟨by have:=HN.out;have:=HLo.out;unfold One at hi;omega,fun he=>by have:=HA1.out i he;have:=HN.out;unfold One at hi;omega⟩))
     have HRs:=hid (HRs.out.turn hts (fun i hi=>by have:=HN.out;have:=HLo.out;unfold One at hi;omega))
     have HB:=hid (HB.out.trans (hts.to_below HB.out.size (fun i hi=>by have:=HN.out;unfold One at hi;omega)))
     have HLw:=hid (Nat.le_trans HLw.out hts.size)
     clear hts
     go_upto_region 17 with fail
     change Code.wp _ _ _ _ (World.setCell (World.setCell y11 ⟨b3,9,none⟩ (.slice B10 s.holds.length d10)) ⟨b3,10,none⟩ (.slice B11 s.orders.length d11))
     generalize (World.setCell (World.setCell y11 ⟨b3,9,none⟩ (.slice B10 s.holds.length d10)) ⟨b3,10,none⟩ (.slice B11 s.orders.length d11))=v12 at *
     refine wp_region_J (S:=fun w'=>StBox b1 s a w') (fun _=>false) (by kernel_rfl) (HX.out) (fun hHeld=>?_)
     refine wpAnyJ_pure (i:=0) (v:=?_) rfl (by kernel_rfl) (by kernel_rfl) (by kernel_rfl) (fun _ _ _ h=>h) (Or.inl ⟨by rfl,?_⟩) ?_
     rotate_left
     ·intro wq _
      go_simp
      try with_reducible rfl
     simp only [Act.put,sA,sB,sC]
     refine wpAnyJ_take (i:=1) (v:=?_) rfl (by kernel_rfl) (by kernel_rfl) (by kernel_rfl) (by kernel_rfl) (fun _ _ _ h=>h) (Or.inl ⟨by rfl,?_⟩) hHeld ?_
     rotate_left
     ·intro wq hSq
      have zx:=hSq.kx
      go_simp
      try with_reducible rfl
     simp only [Act.put,sA,sB,sC]
     refine wpAnyJ_pure (i:=3) (v:=?_) rfl (by kernel_rfl) (by kernel_rfl) (by kernel_rfl) (fun _ _ _ h=>h) (Or.inl ⟨by rfl,?_⟩) ?_
     rotate_left
     ·intro wq _
      go_simp
      try with_reducible rfl
     simp only [Act.put,sA,sB,sC]
     refine wpAnyJ_take (i:=4) (v:=?_) rfl (by kernel_rfl) (by kernel_rfl) (by kernel_rfl) (by kernel_rfl) (fun _ _ _ h=>h) (Or.inl ⟨by rfl,?_⟩) hHeld ?_
     rotate_left
     ·intro wq hSq
      have zx:=hSq.kd
      go_simp
      try with_reducible rfl
     simp only [Act.put,sA,sB,sC]
     have hdr:Below v12.heap.size v12 v12.drew:=(Below.refl _ _).drew
     have HX:=hid (HX.out.now hdr)
     have HE:=hid (HE.out.turn (Turn.below (F:=fun _=>False) hdr) (fun i hi=>hi.elim))
     have HO:=hid (HO.out.now hdr)
     have HD:=hid (HD.out.now hdr)
     have HRs:=hid (HRs.out.turn (Turn.below (F:=fun _=>False) hdr) (fun i hi=>hi.elim))
     have HB:=hid (HB.out.trans (hdr.mono HB.out.size))
     have HLw:=hid (Nat.le_trans HLw.out hdr.size)
     clear hdr
     generalize v12.drew=v12d at *
     refine wpAnyJ_one (i:=2) rfl (by kernel_rfl) (fun K hK=>?_)
     go_simp
     refine (clSealed_any s.sealed a.kx.1 a.kx.2 v12d (HS.out.now HB.out).kx HCap.out.la).mono ?_
     rintro en y13 ⟨B13,d13,rfl,ho,hb⟩
     go_wp2_with fail
     refine hK.out _ _ (fun _ h=>h.now hb) ?_
     clear hK K
     have HL13:Hid (HeldL 3 D3.cs y13 lo (B13,d13) s.sealed):=hid (ho.held layD3 HLw.out (by have:=HCap.out.la;omega))
     have HX:=hid (HX.out.now hb)
     have HE:=hid (HE.out.turn (Turn.below (F:=fun _=>False) hb) (fun i hi=>hi.elim))
     have HO:=hid (HO.out.now hb)
     have HD:=hid (HD.out.now hb)
     have HRs:=hid (HRs.out.turn (Turn.below (F:=fun _=>False) hb) (fun i hi=>hi.elim))
     have HB:=hid (HB.out.trans (hb.mono HB.out.size))
     have HLw:=hid (Nat.le_trans HLw.out hb.size)
     have HRs:=hid (HRs.out.sealed HL13.out)
     clear ho hb HL13
     refine wpAnyJ_pure (i:=6) (v:=?_) rfl (by kernel_rfl) (by kernel_rfl) (by kernel_rfl) (fun _ _ _ h=>h) (Or.inl ⟨by rfl,?_⟩) ?_
     rotate_left
     ·intro wq _
      go_simp
      try with_reducible rfl
     simp only [Act.put,sA,sB,sC]
     refine wpAnyJ_one (i:=5) rfl (by kernel_rfl) (fun K hK=>?_)
     go_simp
     refine (clDebt_any s.debts a.kd.1 a.kd.2 y13 (HS.out.now HB.out).kd HCap.out.lb).mono ?_
     rintro en y14 ⟨B14,d14,rfl,ho,hb⟩
     go_wp2_with fail
     refine hK.out _ _ (fun _ h=>h.now hb) ?_
     clear hK K
     have HL14:Hid (HeldL 2 D2.cs y14 lo (B14,d14) s.debts):=hid (ho.held layD2 HLw.out (by have:=HCap.out.lb;omega))
     have HX:=hid (HX.out.now hb)
     have HE:=hid (HE.out.turn (Turn.below (F:=fun _=>False) hb) (fun i hi=>hi.elim))
     have HO:=hid (HO.out.now hb)
     have HD:=hid (HD.out.now hb)
     have HRs:=hid (HRs.out.turn (Turn.below (F:=fun _=>False) hb) (fun i hi=>hi.elim))
     have HB:=hid (HB.out.trans (hb.mono HB.out.size))
     have HLw:=hid (Nat.le_trans HLw.out hb.size)
     have HRs:=hid (HRs.out.debts HL14.out (fun i hi=>⟨HL14.out.lo i hi,(ho.blk_lt hi).2,fun o=>ho.free_ hi o⟩))
     clear ho hb HL14
     have fz:=fun j=>box_free HD.out j
     have z13:=HD.out.kx
     have z14:=HD.out.kd
     refine wpAnyJ_one (i:=7) rfl (by kernel_rfl) (fun K hK=>?_)
     go_simp
     refine hK.out _ _ (fun _ h=>h.set' b3 11 _ (by have:=HN.out;omega)) ?_
     clear hK K
     refine wpAnyJ_pure (i:=8) (v:=?_) rfl (by kernel_rfl) (by kernel_rfl) (by kernel_rfl) (fun _ _ _ h=>h) (Or.inl ⟨by rfl,?_⟩) ?_
     rotate_left
     ·intro wq _
      go_simp
      try with_reducible rfl
     simp only [Act.put,sA,sB,sC]
     refine wpAnyJ_one (i:=9) rfl (by kernel_rfl) (fun K hK=>?_)
     go_simp
     refine hK.out _ _ (fun _ h=>h.set' b3 12 _ (by have:=HN.out;omega)) ?_
     clear hK K
     refine wpAnyJ_done (by kernel_rfl) ?_ _
     clear hHeld fz z13 z14
     have hts:=(((Turn.refl (One b3) y14).set b3 11 (.slice B13 s.sealed.length d13) (.inl rfl)).set b3 12 (.slice B14 s.debts.length d14) (.inl rfl))
     have HD:=hid ((HD.out.set_kx s.sealed B13 d13).set_kd s.debts B14 d14)
     have HX:=hid ((HX.out.set' b3 11 (.slice B13 s.sealed.length d13) (by have:=HN.out;omega)).set' b3 12 (.slice B14 s.debts.length d14) (by have:=HN.out;omega))
     have HO:=hid ((HO.out.set' b3 11 (.slice B13 s.sealed.length d13) (by have:=HN.out;omega)).set' b3 12 (.slice B14 s.debts.length d14) (by have:=HN.out;omega))
     have HE:=hid (HE.out.turn hts (fun i hi=>⟨by have:=HN.out;have:=HLo.out;unfold One at hi;omega,fun he=>by have:=HA1.out i he;have:=HN.out;unfold One at hi;omega⟩))
     have HRs:=hid (HRs.out.turn hts (fun i hi=>by have:=HN.out;have:=HLo.out;unfold One at hi;omega))
     have HB:=hid (HB.out.trans (hts.to_below HB.out.size (fun i hi=>by have:=HN.out;unfold One at hi;omega)))
     have HLw:=hid (Nat.le_trans HLw.out hts.size)
     clear hts
     go_upto_region 18 with fail
     change Code.wp _ _ _ _ (World.setCell (World.setCell y14 ⟨b3,11,none⟩ (.slice B13 s.sealed.length d13)) ⟨b3,12,none⟩ (.slice B14 s.debts.length d14))
     generalize (World.setCell (World.setCell y14 ⟨b3,11,none⟩ (.slice B13 s.sealed.length d13)) ⟨b3,12,none⟩ (.slice B14 s.debts.length d14))=v15 at *
     obtain ⟨aF,HDp⟩:∃ aF,Hid (aF=_∧StBox b3 s aF v15):=⟨_,hid ⟨rfl,HD.out⟩⟩
     have HAF:=hid HDp.out.1
     clear HD
     have HD:=hid HDp.out.2
     clear HDp
     have HDr:=hid (show v15.rangeAt b3 0 (s.arr aF).toList from range_block HD.out rfl)
     have HTh:=hid (show v15.there b2 0 13 from there_of_box HO.out)
     go_wp2_with (first
      | ((with_reducible show wpList _ _ _ (Oper.mk _ (Op.load 34 _) _ _ _ _::_) _ _);refine wpList_load_g rfl 34 (.tmp 3) rfl b3 0 rfl (s.arr aF).toList _ HDr.out Tryz.underlying34 rfl (by kernel_rfl) ?_)
      | ((with_reducible show wpList _ _ _ (Oper.mk _ (Op.store 34 (.tmp 2) _) _ _ _ _::_) _ _);refine wpList_store_box rfl 34 _ _ rfl b2 (s.arr aF) rfl rfl HTh.out (by kernel_rfl) (by simp [Value.oneCell']) ?_;intro wS hrS htS hgS;have HRS:=hid hrS;have HGS:=hid hgS;clear hrS htS hgS)
      | fail)
     refine ret_box 2 34 rfl b2 _ _ rfl HRS.out Tryz.underlying34 rfl (by kernel_rfl) rfl ?_
     have hT:Turn (One b2) v15 wS:=Turn.grown HGS.out (fun k hk=>(Option.some.inj hk).symm)
     have hF:∀ i,One b2 i→i<lo:=fun i hi=>by have:=HN.out;have:=HLo.out;unfold One at hi;omega
     have hE:=HE.out.turn hT (fun i hi=>⟨hF i hi,fun he=>by have:=HA1.out i he;have:=HN.out;unfold One at hi;omega⟩)
     have hR:=HRs.out.turn hT hF
     have hB:=HB.out.trans (hT.to_below HB.out.size (fun i hi=>by have:=HN.out;unfold One at hi;omega))
     have hlo:w.heap.size≤lo:=by have:=HN.out;have:=HLo.out;omega
     obtain ⟨rfl,rfl⟩:=HTc.out
     have hl1:=HE.out.len
     have hl2:=HYs.out.1
     have hAF:=HAF.out
     have hAd:=HAd.out
     refine ⟨{s with events:=xs,notes:=ys},aF,lo,?_,?_,hlo,?_,?_,?_,hB,?_,?_,?_⟩
     ·simp only [Stt.v,Stt.arr,hl1,hl2]
     ·simp only [Stt.pl,evsL,hE.ev,HYs.out.2]
     ·subst hAF hAd
      exact (hR.st.lower hlo).events (hE.own.held layEvL (Nat.le_refl _) (by have:=HCap.out.ev;omega)) (fun x hx=>⟨(hE.all x hx).1,fun i hi=>Nat.le_trans hlo ((hE.all x hx).2 i hi)⟩)
     ·subst hAF hAd
      exact hR.st
     ·subst hAF hAd
      exact hE
     ·subst hAF hAd
      exact hR.fq
     ·subst hAF hAd
      exact hR.fd
     ·subst hAF hAd
      exact fun x hx=>⟨fun i hi=>(hR.st.nos x hx).2 i hi,hR.fn x hx⟩
theorem stCopy_any (s:Stt) (a:StAd) (w:World) (h:StOk w w.heap.size s a) (hc:CapS s):Calls Tryz.prog 18 #[s.v a] w (CopyOut s w) :=
 (stCopy2_any s a w h hc).mono fun e w' ⟨t,c,lo,h1,h2,h3,h4,h5,h6,h7,_⟩=>⟨t,c,lo,h1,h2,h3,h4,h5,h6,h7⟩
end Go.Proofs.YthlpehhlhebhbaaGreatDoor
