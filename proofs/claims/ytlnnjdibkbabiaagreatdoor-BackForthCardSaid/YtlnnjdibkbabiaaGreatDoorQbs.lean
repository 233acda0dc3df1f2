/- Contracts and plain laws, joined: FoD, FoE, FoF, FoG, FoH. -/
import Derived.Test.YtlnnjdibkbabiaaGreatDoorQbq
import Derived.Test.YtlnnjdibkbabiaaGreatDoorQae
import Derived.Test.YtlnnjdibkbabiaaGreatDoorQbo
import Derived.Test.YtlnnjdibkbabiaaGreatDoorQba
/- Contracts of act,line,shown and listed of package forth (layer 21). -/
set_option linter.unusedSimpArgs false
set_option linter.unusedVariables false
namespace Go.Proofs.YtlnnjdibkbabiaaGreatDoor
set_option maxHeartbeats 4000000
open _root_.Go.Lib (hid)
open Go.RowKit
set_option maxRecDepth 100000
section
variable {P:Program} {ops:Array Oper} {G:Type} {S:World→Prop} {T:World→World→Prop} {Fs:Nat→Option ((G→Value) × (G→World→Prop))}
theorem DetE.load {Z:Act→World→Prop} {o:Oper} {r:List Oper} {i:Nat} {Γ:List (Nat × (World→Prop))} {a:Act} (hF:Fs i=none) (hw:Region.wanted o (yielded ops a.tmps)=true) (ty:TypeId) (x:Operand) (ho:o.op=.load ty x)
  (b f:Nat) (hx:a.eval x=.pointer (some ⟨b,f,none⟩)) (cs:List Value) (d:TypeDesc) (hS:∀ w,S w→Know ops i Γ w→w.rangeAt b f cs) (hu:P.underlying ty=some d) (hd:d.isRow=true) (hi:(P.info? ty).map (·.size)=some cs.length)
  (h:DetE P ops S T Fs Z r (i+1) Γ (a.put o.dst (.agg cs.toArray))):DetE P ops S T Fs Z (o::r) i Γ a :=
 DetE.read hF hw (fun w hw' hk=>by
  unfold execOp
  simp only [ho,hx,Instr.loadAt,Instr.sureAddr,Sem.run_bind,Sem.run_pure,Result.andThen_ok,run_loadVar_mid w b f ty cs d (hS w hw' hk) hu hd hi]) h
end
structure FB (w0 w:World) (b:Nat) (N:NetL) (x:EvL):Prop where
 n:NB w0 w b N
 e:w.heap[b+1]?=some (.cells (x.ev.cs x.cA x.cc x.fA x.fc) 40 (0,0))
 ok:EvLOk w w.heap.size x
theorem FB.now {w0 w w':World} {b:Nat} {N:NetL} {x:EvL} (h:FB w0 w b N x) (hb:Below w.heap.size w w'):FB w0 w' b N x :=
 ⟨h.n.now hb,(hb.block (b+1) (box_lt h.e)).trans h.e,h.ok.now hb⟩
theorem FB.start {w:World} {N:NetL} {x:EvL} (h:NetOk w N) (hx:x∈N.E):FB w ((w.alloc (.cells N.cs 86)).alloc (.cells (x.ev.cs x.cA x.cc x.fA x.fc) 40)) w.heap.size N x:=by
 have hn:=(NB.start h).now ((Below.refl _ _).alloc (Nat.le_refl _) (.cells (x.ev.cs x.cA x.cc x.fA x.fc) 40))
 refine ⟨hn,?_,hn.ok.ok x hx⟩
 have:=(MapKept.heap_alloc (w.alloc (.cells N.cs 86)) (.cells (x.ev.cs x.cA x.cc x.fA x.fc) 40)).1
 simpa using this
theorem FB.cell {w0 w:World} {b:Nat} {N:NetL} {x:EvL} (h:FB w0 w b N x) (j:Nat) (v:Value) (hj:(x.ev.cs x.cA x.cc x.fA x.fc)[j]?=some v):w.cell? ⟨b+1,j,none⟩=some v:=box_cell h.e j v hj
theorem bs_tx (e:EvM):bs (tx e)=e.text:=by simp [bs,tx]
theorem tx_len (e:EvM):(tx e).length=e.text.size:=by simp [tx]
theorem foLine_any (N:NetL) (k:Nat) (hk:k<N.E.length) (w:World) (h:NetOk w N) :
  Calls Tryz.prog 135 #[N.v,.int .i64 k] w fun e w'=>e=.returned (.string (bs (lineP (evsL N.E) k)))∧Below w.heap.size w w':=by
 have HN:=NB.start h
 have z23:=HN.cell 23 (.slice N.eA N.E.length N.ec) rfl
 have HB:=hid HN.hb
 have hx:=List.getElem_mem hk
 have htn:=h.tn _ hx
 have HQ:Hid (lineP (evsL N.E) k=lineF (tx N.E[k].ev) 20):=hid (by unfold lineP;rw [Int.toNat_natCast,ev_at hk])
 obtain ⟨g,off,hA,_,_,hcc,_⟩:=HN.ev hk
 have z9:=hcc 9 (.string (bs (tx N.E[k].ev))) (by rw [bs_tx];rfl)
 rw [hA] at z23
 have hle:(tx N.E[k].ev).length≤1000000000000:=by rw [tx_len];omega
 clear HN hcc hA hx htn
 generalize tx N.E[k].ev=s at *
 go_enter Tryz.func135,Tryz.ntmps135
 go_wp2_with fail
 refine (line_any s 20 _ hle ⟨by omega,by omega⟩).mono ?_
 rintro e w1 ⟨rfl,hb1⟩
 go_wp2_with fail
 go_ret
 exact ⟨by rw [HQ.out];rfl,HB.out.trans (hb1.mono HB.out.size)⟩
theorem foAct_any (N:NetL) (k:Nat) (hk:k<N.E.length) (w:World) (h:NetOk w N) :
  Calls Tryz.prog 75 #[N.v,.int .i64 k] w fun e w'=>e=.returned (.bool (actB (evsL N.E) k))∧Below w.heap.size w w':=by
 have HD:Hid (∀ e,evAt (evsL N.E) k=e→actB (evsL N.E) k=(msgB (evsL N.E) e.target k && (((evAt (evsL N.E) e.target.toNat).group==e.group) && (!(e.kind==1) || (e.author==(evAt (evsL N.E) e.target.toNat).author))))):=hid (fun e he=>by subst he;rfl)
 have hx:=List.getElem_mem hk
 have HK:Hid (evAt (evsL N.E) k=N.E[k].ev):=hid (ev_at hk)
 have HN0:=NB.start h
 obtain ⟨eg,eoff,hA,_,hrg,_,_⟩:=HN0.ev hk
 have z23:=HN0.cell 23 (.slice N.eA N.E.length N.ec) rfl
 rw [hA] at z23
 have HRg:=hid hrg
 clear hrg hA HN0
 generalize hxe:N.E[k]=x at *
 clear hxe
 have HF:=hid (FB.start h hx)
 go_enter Tryz.func75,Tryz.ntmps75
 go_upto_region 2 with (first
  | ((with_reducible show wpList _ _ _ (Oper.mk _ (Op.load 40 _) _ _ _ _::_) _ _);refine wpList_load_g rfl 40 _ rfl eg (eoff+k * 12) rfl (x.ev.cs x.cA x.cc x.fA x.fc).toList _ HRg.out Tryz.underlying40 rfl (by kernel_rfl) ?_)
  | fail)
 change Code.wp _ _ _ _ ((w.alloc (.cells N.cs 86)).alloc (.cells (x.ev.cs x.cA x.cc x.fA x.fc) 40))
 obtain ⟨b,hb⟩:∃ b,b=w.heap.size:=⟨_,rfl⟩
 rw [← hb] at HF ⊢
 clear z23 HRg hb
 generalize (w.alloc (.cells N.cs 86)).alloc (.cells (x.ev.cs x.cA x.cc x.fA x.fc) 40)=wr at *
 have HD:=hid (HD.out _ HK.out)
 clear HK
 obtain ⟨ti,hti⟩:∃ t,t=x.ev.target:=⟨_,rfl⟩
 have y5:=HF.out.cell 5 (.int .i64 ti) (by rw [hti];rfl)
 rw [← hti] at HD
 cases hm:msgB (evsL N.E) ti k
 ·rw [hm] at HD
  have HC:Hid (∀ wq,Below wr.heap.size wr wq→Calls Tryz.prog 129 #[N.v,.int .i64 ti,.int .i64 k] wq fun e w'=>e=.returned (.bool false)∧Below wq.heap.size wq w'):=hid (fun wq hq=>by
   have hc:=foMsg_any N ti k wq (HF.out.now hq).n.ok
   rwa [hm] at hc)
  have HTi:=hid hti
  clear y5 hm hti
  refine wp_region_below [(4,fun _=>.bool false,fun (_:Option Addr × Nat) _=>True)] (by kernel_rfl) (by kernel_rfl) (by repeat (first | exact trivial | refine ⟨fun g wa wb hs hs' ht h=>by first | exact trivial | exact h.now ht | exact h.below ht | exact ht.cell h | exact h,?_⟩)) ?_
  rw [List.toList_toArray]
  refine DetE.load (by rfl) (by rfl) 86 _ rfl b 0 rfl (NetL.cs N).toList _ (fun wq hSq _=>(HF.out.now hSq).n.rng) Tryz.underlying86 rfl (by kernel_rfl) ?_
  simp only [Act.put,sA,sB,sC]
  repeat (first
   | (refine DetE.skip (by rfl) ?_;simp only [Act.put,sA,sB,sC])
   | (refine DetE.read (v:=?_) (by rfl) (by rfl) ?_ ?_;rotate_left;(· (intro wq hSq hkq;have y5:=(HF.out.now hSq).cell 5 (.int .i64 ti) (by rw [HTi.out];rfl);go_simp;try with_reducible rfl));simp only [Act.put,sA,sB,sC])
   | fail)
  refine DetE.eff _ _ (by rfl) (by rfl) (fun wq hSq hkq K hK=>?_) (fun g=>?_)
  ·go_simp
   refine (HC.out wq hSq).mono ?_
   rintro e4 w4 ⟨rfl,hb4⟩
   go_wp2_with fail
   exact hK.out ((none,0)) _ (hSq.trans (hb4.mono hSq.size)) hb4 (trivial) _ rfl
  simp only [Act.put,sA,sB,sC]
  repeat (first
   | (refine DetE.skip (by rfl) ?_;simp only [Act.put,sA,sB,sC])
   | (refine DetE.read (v:=?_) (by rfl) (by rfl) ?_ ?_;rotate_left;(· (intro wq hSq hkq;skip;go_simp;try with_reducible rfl));simp only [Act.put,sA,sB,sC])
   | fail)
  refine DetE.done fun wz hz hkz=>?_
  have HB:=hid ((HF.out.now hz).n.hb)
  clear hkz hz
  go_wp2_with fail
  go_ret
  exact ⟨by rw [HD.out];rfl,HB.out⟩
 ·have hma:=msgB_at hm
  rw [hm] at HD
  have HC:Hid (∀ wq,Below wr.heap.size wr wq→Calls Tryz.prog 129 #[N.v,.int .i64 ti,.int .i64 k] wq fun e w'=>e=.returned (.bool true)∧Below wq.heap.size wq w'):=hid (fun wq hq=>by
   have hc:=foMsg_any N ti k wq (HF.out.now hq).n.ok
   rwa [hm] at hc)
  obtain ⟨j,rfl⟩:∃ j:Nat,ti=j:=⟨ti.toNat,by omega⟩
  have hj:j<N.E.length:=by have:=hma.2.2.1;simp at this;omega
  have HTi:=hid hti
  rw [Int.toNat_natCast,ev_at hj] at HD
  obtain ⟨eg,eo,hA,_,_,_,_⟩:=HF.out.n.ev hj
  have HE:Hid (∀ wq,Below wr.heap.size wr wq→wq.cell? ⟨eg,eo+j * 12+4,none⟩=some (.int .i64 N.E[j].ev.group)∧wq.cell? ⟨eg,eo+j * 12,none⟩=some (.int .i64 N.E[j].ev.author)):=hid (fun wq hq=>by
   obtain ⟨g,off,hA2,_,_,hc,_⟩:=(HF.out.n.now hq).ev hj
   rw [hA] at hA2
   injection hA2 with hA2
   injection hA2 with e1 e2
   subst e1 e2
   exact ⟨hc 4 _ rfl,hc 0 _ rfl⟩)
  have HZ:Hid (∀ wq,Below wr.heap.size wr wq→wq.cell? ⟨b,23,none⟩=some (.slice (some ⟨eg,eo,none⟩) N.E.length N.ec)):=hid (fun wq hq=>by
   have:=(HF.out.now hq).n.cell 23 (.slice N.eA N.E.length N.ec) rfl
   rwa [hA] at this)
  clear hA
  generalize N.E[j].ev.group=jg at *
  generalize N.E[j].ev.author=ja at *
  clear y5 hm hti hma
  cases q1:jg != x.ev.group
  ·skip
   refine wp_region_below [(4,fun _=>.bool true,fun (_:Option Addr × Nat) _=>True)] (by kernel_rfl) (by kernel_rfl) (by repeat (first | exact trivial | refine ⟨fun g wa wb hs hs' ht h=>by first | exact trivial | exact h.now ht | exact h.below ht | exact ht.cell h | exact h,?_⟩)) ?_
   rw [List.toList_toArray]
   refine DetE.load (by rfl) (by rfl) 86 _ rfl b 0 rfl (NetL.cs N).toList _ (fun wq hSq _=>(HF.out.now hSq).n.rng) Tryz.underlying86 rfl (by kernel_rfl) ?_
   simp only [Act.put,sA,sB,sC]
   repeat (first
    | (refine DetE.skip (by rfl) ?_;simp only [Act.put,sA,sB,sC])
    | (refine DetE.read (v:=?_) (by rfl) (by rfl) ?_ ?_;rotate_left;(· (intro wq hSq hkq;have y5:=(HF.out.now hSq).cell 5 (.int .i64 j) (by rw [HTi.out];rfl);go_simp;try with_reducible rfl));simp only [Act.put,sA,sB,sC])
    | fail)
   refine DetE.eff _ _ (by rfl) (by rfl) (fun wq hSq hkq K hK=>?_) (fun g=>?_)
   ·go_simp
    refine (HC.out wq hSq).mono ?_
    rintro e4 w4 ⟨rfl,hb4⟩
    go_wp2_with fail
    exact hK.out ((none,0)) _ (hSq.trans (hb4.mono hSq.size)) hb4 (trivial) _ rfl
   simp only [Act.put,sA,sB,sC]
   repeat (first
    | (refine DetE.skip (by rfl) ?_;simp only [Act.put,sA,sB,sC])
    | (refine DetE.read (v:=?_) (by rfl) (by rfl) ?_ ?_;rotate_left;(· (intro wq hSq hkq;have y4:=(HF.out.now hSq).cell 4 (.int .i64 x.ev.group) rfl;have y5:=(HF.out.now hSq).cell 5 (.int .i64 j) (by rw [HTi.out];rfl);obtain ⟨hc4,hc0⟩:=HE.out wq hSq;have z23:=HZ.out wq hSq;go_simp;try with_reducible rfl));simp only [Act.put,sA,sB,sC])
    | fail)
   refine DetE.done fun wz hz hkz=>?_
   have HF:=hid (HF.out.now hz)
   obtain ⟨hc4,hc0⟩:=HE.out wz hz
   have z23:=HZ.out wz hz
   clear hkz hz HC HE HZ hc4
   have y3:=HF.out.cell 3 (.int .i64 x.ev.kind) rfl
   cases q2:x.ev.kind != 1
   ·have hk1:x.ev.kind=1:=by simpa using q2
    have y0:=HF.out.cell 0 (.int .i64 x.ev.author) rfl
    have y5:=HF.out.cell 5 (.int .i64 j) (by rw [HTi.out];rfl)
    have HB:=hid HF.out.n.hb
    clear HF
    have HV:Hid (actB (evsL N.E) k=(x.ev.author==ja)):=hid (by
     have q3:(jg==x.ev.group)=true:=by simpa using q1
     rw [HD.out,q3,hk1]
     simp)
    clear hk1
    generalize x.ev.author=xa at *
    go_wp2_with fail
    go_quiet (fail)
    go_wp2_with fail
    go_ret
    exact ⟨by rw [HV.out];rfl,below_drewN HB.out _⟩
   ·have HB:=hid HF.out.n.hb
    have HV:Hid (actB (evsL N.E) k=true):=hid (by
     have q3:(jg==x.ev.group)=true:=by simpa using q1
     have q4:(x.ev.kind==1)=false:=by simpa using q2
     rw [HD.out,q3,q4]
     simp)
    clear HF hc0 z23
    go_wp2_with fail
    go_quiet (fail)
    go_wp2_with fail
    go_ret
    exact ⟨by rw [HV.out];rfl,below_drewN HB.out _⟩
  ·skip
   refine wp_region_below [(4,fun _=>.bool true,fun (_:Option Addr × Nat) _=>True)] (by kernel_rfl) (by kernel_rfl) (by repeat (first | exact trivial | refine ⟨fun g wa wb hs hs' ht h=>by first | exact trivial | exact h.now ht | exact h.below ht | exact ht.cell h | exact h,?_⟩)) ?_
   rw [List.toList_toArray]
   refine DetE.load (by rfl) (by rfl) 86 _ rfl b 0 rfl (NetL.cs N).toList _ (fun wq hSq _=>(HF.out.now hSq).n.rng) Tryz.underlying86 rfl (by kernel_rfl) ?_
   simp only [Act.put,sA,sB,sC]
   repeat (first
    | (refine DetE.skip (by rfl) ?_;simp only [Act.put,sA,sB,sC])
    | (refine DetE.read (v:=?_) (by rfl) (by rfl) ?_ ?_;rotate_left;(· (intro wq hSq hkq;have y5:=(HF.out.now hSq).cell 5 (.int .i64 j) (by rw [HTi.out];rfl);go_simp;try with_reducible rfl));simp only [Act.put,sA,sB,sC])
    | fail)
   refine DetE.eff _ _ (by rfl) (by rfl) (fun wq hSq hkq K hK=>?_) (fun g=>?_)
   ·go_simp
    refine (HC.out wq hSq).mono ?_
    rintro e4 w4 ⟨rfl,hb4⟩
    go_wp2_with fail
    exact hK.out ((none,0)) _ (hSq.trans (hb4.mono hSq.size)) hb4 (trivial) _ rfl
   simp only [Act.put,sA,sB,sC]
   repeat (first
    | (refine DetE.skip (by rfl) ?_;simp only [Act.put,sA,sB,sC])
    | (refine DetE.read (v:=?_) (by rfl) (by rfl) ?_ ?_;rotate_left;(· (intro wq hSq hkq;have y4:=(HF.out.now hSq).cell 4 (.int .i64 x.ev.group) rfl;have y5:=(HF.out.now hSq).cell 5 (.int .i64 j) (by rw [HTi.out];rfl);obtain ⟨hc4,hc0⟩:=HE.out wq hSq;have z23:=HZ.out wq hSq;go_simp;try with_reducible rfl));simp only [Act.put,sA,sB,sC])
    | fail)
   refine DetE.done fun wz hz hkz=>?_
   have HB:=hid (HF.out.now hz).n.hb
   have HV:Hid (actB (evsL N.E) k=false):=hid (by
    have q3:(jg==x.ev.group)=false:=by simpa using q1
    rw [HD.out,q3]
    simp)
   clear hkz hz HC HE HZ HF
   go_wp2_with fail
   go_ret
   exact ⟨by rw [HV.out];rfl,HB.out⟩
/- Contracts of shown and listed of package forth (layer 21). -/
theorem shown_snoc (n:Int) (bad l:List Int) (f:Int):shownP n bad (l++[f])=if ((shownP n bad l).length:Int)<n∧f ∉ bad then shownP n bad l++[f] else shownP n bad l:=by
 unfold shownP
 rw [List.filter_append]
 by_cases hf:f∈bad
 ·rw [if_neg (by simp [hf])]
  have:[f].filter (fun f=>!decide (f∈bad))=[]:=by simp [hf]
  rw [this,List.append_nil]
 ·have:[f].filter (fun f=>!decide (f∈bad))=[f]:=by simp [hf]
  rw [this]
  generalize l.filter (fun f=>!decide (f∈bad))=m
  by_cases hl:m.length<n.toNat
  ·rw [if_pos ⟨by rw [List.length_take];omega,hf⟩,List.take_of_length_le (by simp;omega),List.take_of_length_le (by omega)]
  ·rw [if_neg (by rw [List.length_take];intro h;omega),List.take_append_of_le_length (by omega)]
theorem shown_len (n:Int) (bad l:List Int):(shownP n bad l).length≤l.length:=by
 unfold shownP
 rw [List.length_take]
 have:=List.length_filter_le (fun f=>!decide (f∈bad)) l
 omega
theorem foShown_any (N:NetL) (fs:List Int) (A:Option Addr) (c:Nat) (w:World) (h:NetOk w N) (hr:RdI w w.heap.size A fs) (hl:fs.length≤1000) :
  Calls Tryz.prog 134 #[N.v,.slice A fs.length c] w fun e w'=>∃ A' c',e=.returned (.slice A' (shownP N.p.files N.B fs).length c')∧OwnL w' w.heap.size 3 1 intC A' c' (shownP N.p.files N.B fs)∧Below w.heap.size w w':=by
 have HN:=hid (NB.start h)
 have HR:=hid (hr.now HN.out.hb)
 have hbn:=h.bn
 clear h hr
 go_enter Tryz.func134,Tryz.ntmps134
 go_wp2_with fail
 obtain ⟨b,hb⟩:∃ b,b=w.heap.size:=⟨_,rfl⟩
 rw [← hb] at HN ⊢
 have HBq:=hid hb
 clear hb
 have HSz:Hid (w.heap.size≤(w.alloc (.cells N.cs 86)).heap.size):=hid (by simp)
 generalize w.alloc (.cells N.cs 86)=wo at *
 go_loopw [5,7,10] (fun o _ i wx=>∃ (k:Nat) (A':Option Addr) (c':Nat),k≤fs.length∧i=.int .i64 k∧o=.slice A' (shownP N.p.files N.B (fs.take k)).length c'∧OwnL wx wo.heap.size 3 1 intC A' c' (shownP N.p.files N.B (fs.take k))∧Below wo.heap.size wo wx) (fun _ _ i _=>fs.length - (intOf i).toNat)
 case atStart=>exact ⟨0,none,0,Nat.zero_le _,rfl,by simp [shownP],by simpa [shownP] using OwnL.nil_,Below.refl _ _⟩
 case round =>
  obtain ⟨k,A2,c2,hk,rfl,rfl,hown,hbw⟩:=hrel
  have HN:=hid (HN.out.now hbw)
  have HR:=hid (HR.out.now hbw)
  have HB:=hid hbw
  have HO:=hid hown
  clear hbw hown
  have z10:=HN.out.cell 10 (.int .i64 N.p.files) rfl
  by_cases hlt:k<fs.length
  ·have HSn:Hid (shownP N.p.files N.B (fs.take (k+1))=if ((shownP N.p.files N.B (fs.take k)).length:Int)<N.p.files∧fs[k] ∉ N.B then shownP N.p.files N.B (fs.take k)++[fs[k]] else shownP N.p.files N.B (fs.take k)):=hid (by rw [List.take_succ_eq_append_getElem hlt];exact shown_snoc _ _ _ _)
   have HLe:=hid (Nat.le_trans (shown_len N.p.files N.B (fs.take k)) (by rw [List.length_take];omega:(fs.take k).length≤1000))
   obtain ⟨g,off,rfl,_,zk⟩:=RdI_at HR.out hlt
   have HC:=hid (intCont_any N.B fs[k] N.bA N.B.length N.bc wr rfl HN.out.ok.bd (by omega))
   have z24:=HN.out.cell 24 (.slice N.bA N.B.length N.bc) rfl
   generalize shownP N.p.files N.B (fs.take k)=out at *
   generalize fs[k]=f at *
   cases q1:decide ((out.length:Int)<N.p.files)
   ·have HS2:Hid (shownP N.p.files N.B (fs.take (k+1))=out):=hid (by rw [HSn.out,if_neg (by simp at q1;omega)])
    clear HSn
    go_wp2_with fail
    go_roundw
    case rel=>exact ⟨k+1,A2,c2,by omega,by go_num,by rw [HS2.out],by rw [HS2.out];exact HO.out,HB.out⟩
    case measure=>simp [intOf];omega
   by_cases q2:f∈N.B
   ·have HS2:Hid (shownP N.p.files N.B (fs.take (k+1))=out):=hid (by rw [HSn.out,if_neg (by simp [q2])])
    have hd:decide (f∈N.B)=true:=by simpa using q2
    rw [hd] at HC
    clear HSn hd q2
    go_wp2_with (go_at_call 143;refine HC.out.mono ?_;rintro e w' ⟨rfl,rfl⟩)
    go_roundw
    case rel=>exact ⟨k+1,A2,c2,by omega,by go_num,by rw [HS2.out],by rw [HS2.out];exact HO.out,HB.out⟩
    case measure=>simp [intOf];omega
   ·have HS2:Hid (shownP N.p.files N.B (fs.take (k+1))=out++[f]):=hid (by rw [HSn.out,if_pos ⟨by simp at q1;omega,q2⟩])
    have hd:decide (f∈N.B)=false:=by simpa using q2
    rw [hd] at HC
    clear HSn hd q2
    go_wp2_with (first
     | (go_at_call 143;refine HC.out.mono ?_;rintro e w' ⟨rfl,rfl⟩)
     | (at_builtin;refine wp_append_l rfl (.tmp 27) (.tmp 29) rfl slIntE intLayV wo.heap.size (xs:=out) (ys:=[f]) rfl rfl (HO.out.alloc _) rfl rfl (RdL.one wr f _ _ rfl _ rfl) (by have:=HLe.out;simp;omega) (by have:=HB.out.size;simp;omega) ?_;intro A3 c3 w6 hown hg hb2 hat;have HO3:=hid hown;have HB3:=hid (((Below.refl wo.heap.size wr).alloc HB.out.size _).trans hb2);clear hown hg hb2 hat)
     | fail)
    go_roundw
    case rel=>exact ⟨k+1,A3,c3,by omega,by go_num,by rw [HS2.out];simp,by rw [HS2.out];exact HO3.out,HB.out.trans HB3.out⟩
    case measure=>simp [intOf];omega
  ·have hke:k=fs.length:=by omega
   have d1:decide (k<fs.length)=false:=decide_eq_false (by omega)
   have HKe:=hid hke
   clear hke hlt
   go_wp2_with fail
   go_ret
   refine ⟨A2,c2,by rw [HKe.out,List.take_length];rfl,by have:=HO.out.mono HSz.out;rwa [HKe.out,List.take_length] at this,HN.out.hb⟩
theorem listed_snoc (l but:List Int) (f:Int):listedP (l++[f]) but=listedP l but++(if f∈but then [] else fileT f):=by
 unfold listedP
 rw [List.filter_append,List.flatMap_append]
 congr 1
 by_cases hf:f∈but <;> simp [hf]
theorem fileT_len {f:Int} (h0:0≤f) (h1:f≤1073741824):(fileT f).length≤40:=by
 have:=encI_len f ⟨by omega,by omega⟩
 unfold encI at this
 unfold fileT sFile
 simp at this ⊢
 omega
theorem listed_len {l:List Int} (but:List Int) (h:∀ f∈l,0≤f∧f≤1073741824):(listedP l but).length≤l.length * 40:=by
 induction l with
 | nil=>simp [listedP]
 | cons f l ih =>
  have h1:=ih (fun g hg=>h g (List.mem_cons_of_mem _ hg))
  have h2:=h f (List.mem_cons_self ..)
  have h3:=fileT_len h2.1 h2.2
  unfold listedP at h1 ⊢
  rw [List.filter_cons]
  split
  ·rw [List.flatMap_cons,List.length_append,List.length_cons]
   omega
  ·rw [List.length_cons]
   omega
theorem foListed_any {B:Nat} (fs bt:List Int) (A A2:Option Addr) (c c2:Nat) (w:World) (hV:Vs B w) (hr:RdI w w.heap.size A fs) (hs:RdI w w.heap.size A2 bt) (hl:fs.length≤1000) (hb:bt.length≤1000) (hf:∀ f∈fs,0≤f∧f≤1073741824) :
  Calls Tryz.prog 136 #[.slice A fs.length c,.slice A2 bt.length c2] w fun e w'=>e=.returned (.string (bs (listedP fs bt)))∧Below w.heap.size w w':=by
 have HV:=hid hV
 have HR:=hid hr
 have HS:=hid hs
 have HF:=hid hf
 clear hV hr hs hf
 go_enter Tryz.func136,Tryz.ntmps136
 go_wp2_with fail
 go_loopw [5,7,10] (fun s _ i wx=>∃ k:Nat,k≤fs.length∧i=.int .i64 k∧s=.string (bs (listedP (fs.take k) bt))∧Below w.heap.size w wx) (fun _ _ i _=>fs.length - (intOf i).toNat)
 case atStart=>exact ⟨0,Nat.zero_le _,rfl,by simp [listedP,bs],Below.refl _ _⟩
 case round =>
  obtain ⟨k,hk,rfl,rfl,hbw⟩:=hrel
  have HB:=hid hbw
  have HV1:=hid (HV.out.now hbw)
  have HR1:=hid (HR.out.now hbw)
  have HS1:=hid (HS.out.now hbw)
  clear hbw
  by_cases hlt:k<fs.length
  ·have HSn:Hid (listedP (fs.take (k+1)) bt=listedP (fs.take k) bt++(if fs[k]∈bt then [] else fileT fs[k])):=hid (by rw [List.take_succ_eq_append_getElem hlt];exact listed_snoc _ _ _)
   have hin:=HF.out _ (List.getElem_mem hlt)
   have hLe:(listedP (fs.take k) bt).length≤40000:=by
    have:=listed_len bt (fun f hf=>HF.out f (List.mem_of_mem_take hf)) (l:=fs.take k)
    rw [List.length_take] at this
    omega
   have hL2:(Lib.itoa fs[k]).length≤30:=by
    have:=encI_len fs[k] ⟨by omega,by omega⟩
    unfold encI at this
    simp at this
    omega
   obtain ⟨g,off,rfl,_,zk⟩:=RdI_at HR1.out hlt
   have HC:=hid (intCont_any bt fs[k] A2 bt.length c2 wr rfl HS1.out (by omega))
   have HIt:=hid (itoa_any fs[k] wr HV1.out ⟨by omega,by omega⟩)
   have HT:Hid (fileT fs[k]=[10,91,102,105,108,101,32]++Lib.itoa fs[k]++[93]):=hid rfl
   generalize listedP (fs.take k) bt=s at *
   generalize fs[k]=f at *
   by_cases q2:f∈bt
   ·have HS2:Hid (listedP (fs.take (k+1)) bt=s):=hid (by rw [HSn.out,if_pos q2,List.append_nil])
    have hd:decide (f∈bt)=true:=by simpa using q2
    rw [hd] at HC
    clear HSn hd q2
    go_wp2_with (go_at_call 143;refine HC.out.mono ?_;rintro e w' ⟨rfl,rfl⟩)
    go_roundw
    case rel=>exact ⟨k+1,by omega,by go_num,by rw [HS2.out],HB.out⟩
    case measure=>simp [intOf];omega
   ·have HS2:Hid (listedP (fs.take (k+1)) bt=s++([10,91,102,105,108,101,32]++Lib.itoa f++[93])):=hid (by rw [HSn.out,if_neg q2,HT.out])
    have hd:decide (f∈bt)=false:=by simpa using q2
    rw [hd] at HC
    clear HSn hd q2 HT
    generalize Lib.itoa f=d at *
    go_wp2_with (first
     | (go_at_call 143;refine HC.out.mono ?_;rintro e w' ⟨rfl,rfl⟩)
     | (go_at_call 139;refine HIt.out.mono ?_;rintro e w' ⟨rfl,hb1⟩;have HB1:=hid hb1;clear hb1)
      | ((with_reducible show wpList _ _ _ (Oper.mk _ (Op.binOp .add 9 _ _ _) _ _ _ _::_) _ _);refine wp_cat rfl rfl Tryz.underlying9 rfl rfl (by first | omega | (simp;done) | (simp;omega)) ?_)
     | fail)
    go_roundw
    case rel=>exact ⟨k+1,by omega,by go_num,by rw [HS2.out];simp,HB.out.trans (HB1.out.mono HB.out.size)⟩
    case measure=>simp [intOf];omega
  ·have hke:k=fs.length:=by omega
   have d1:decide (k<fs.length)=false:=decide_eq_false (by omega)
   have HKe:=hid hke
   clear hke hlt
   go_wp2_with fail
   go_ret
   exact ⟨by rw [HKe.out,List.take_length];rfl,HB.out⟩
/- Contract of words of package forth (layer 21). -/
theorem lineP_len (E:List EvM) (id:Int):(lineP E id).length≤20:=(lineF_len _ _).2
theorem sayRe_len (W:List (Int × Int)) (E:List EvM) (k:Nat):(sayRe W E k).length≤30:=by
 unfold sayRe
 have:=lineP_len E (evAt E k).target
 split
 ·simp [sRe];omega
 ·simp
theorem sayQu_len (W:List (Int × Int)) (E:List EvM) (k:Nat):(sayQu W E k).length≤30:=by
 unfold sayQu
 have:=lineP_len E (evAt E k).quote
 split
 ·simp [sQu];omega
 ·simp
theorem sayWho_len {W:List (Int × Int)} {E:List EvM} {k:Nat} (h:-1≤(evAt E k).who∧(evAt E k).who≤2000):(sayWho W E k).length≤40:=by
 unfold sayWho
 have:=encI_len (evAt E k).who ⟨by omega,by omega⟩
 unfold encI at this
 split
 ·simp [sAt] at this ⊢;omega
 ·simp
theorem foWords_any {B:Nat} (N:NetL) (k:Nat) (hk:k<N.E.length) (text:List UInt8) (fs:List Int) (fA:Option Addr) (fc:Nat) (w:World) (hV:Vs B w) (h:NetOk w N) (ht:text.length≤10000) (hr:RdI w w.heap.size fA fs) (hl:fs.length≤10) (hf:∀ f∈fs,0≤f∧f≤1073741824) :
  Calls Tryz.prog 132 #[N.v,.int .i64 k,.string (bs text),.slice fA fs.length fc] w fun e w'=>e=.returned (.string (bs (sayP N.p N.W (evsL N.E) N.B k text fs)))∧Below w.heap.size w w':=by
 have HV:=hid hV
 have HR:=hid hr
 have HFi:=hid hf
 clear hV hr hf
 have hx:=List.getElem_mem hk
 have HK:Hid (evAt (evsL N.E) k=N.E[k].ev):=hid (ev_at hk)
 have HN0:=NB.start h
 obtain ⟨eg,eoff,hA,_,hrg,_,_⟩:=HN0.ev hk
 have z23:=HN0.cell 23 (.slice N.eA N.E.length N.ec) rfl
 rw [hA] at z23
 have HRg:=hid hrg
 clear hrg hA HN0
 generalize hxe:N.E[k]=x at *
 clear hxe
 have HF:=hid (FB.start h hx)
 go_enter Tryz.func132,Tryz.ntmps132
 go_upto_region 2 with (first
  | ((with_reducible show wpList _ _ _ (Oper.mk _ (Op.load 40 _) _ _ _ _::_) _ _);refine wpList_load_g rfl 40 _ rfl eg (eoff+k * 12) rfl (x.ev.cs x.cA x.cc x.fA x.fc).toList _ HRg.out Tryz.underlying40 rfl (by kernel_rfl) ?_)
  | fail)
 change Code.wp _ _ _ _ ((w.alloc (.cells N.cs 86)).alloc (.cells (x.ev.cs x.cA x.cc x.fA x.fc) 40))
 obtain ⟨b,hb⟩:∃ b,b=w.heap.size:=⟨_,rfl⟩
 rw [← hb] at HF ⊢
 clear z23 HRg hb
 generalize (w.alloc (.cells N.cs 86)).alloc (.cells (x.ev.cs x.cA x.cc x.fA x.fc) 40)=wr at *
 have HV:=hid (HV.out.now HF.out.n.hb)
 have HR:=hid (HR.out.now HF.out.n.hb)
 go_upto_region 3 with fail
 go_cut [25] (fun v wx=>v=.bool (msgB (evsL N.E) x.ev.target k && !sameW N.W 5)∧Below wr.heap.size wr wx)
 case first=>as_aux_lemma =>
  have HB0:=hid (Below.refl wr.heap.size wr)
  obtain ⟨ti,hti⟩:∃ t,t=x.ev.target:=⟨_,rfl⟩
  have HTi:=hid hti
  have y:=HF.out.cell 5 (.int .i64 ti) (by rw [HTi.out];rfl)
  clear hti
  cases hm:msgB (evsL N.E) ti k
  ·go_wp2_with (first
    | ((with_reducible show wpList _ _ _ (Oper.mk _ (Op.load 86 _) _ _ _ _::_) _ _);refine wpList_load_g rfl 86 (.tmp 4) rfl _ 0 rfl (NetL.cs N).toList _ (HF.out.n.rng) Tryz.underlying86 rfl (by kernel_rfl) ?_)
    | fail)
   refine (foMsg_any N ti k _ HF.out.n.ok).mono ?_
   rw [hm]
   rintro e w1 ⟨rfl,hb1⟩
   clear y
   have HF:=hid (HF.out.now hb1)
   have HB0:=hid (HB0.out.trans (hb1.mono HB0.out.size))
   have y:=HF.out.cell 5 (.int .i64 ti) (by rw [HTi.out];rfl)
   clear hb1
   go_wp2_with fail
   go_meet
   exact ⟨by rw [← HTi.out,hm];rfl,HB0.out⟩
  ·go_wp2_with (first
    | ((with_reducible show wpList _ _ _ (Oper.mk _ (Op.load 86 _) _ _ _ _::_) _ _);refine wpList_load_g rfl 86 (.tmp 4) rfl _ 0 rfl (NetL.cs N).toList _ (HF.out.n.rng) Tryz.underlying86 rfl (by kernel_rfl) ?_)
    | fail)
   refine (foMsg_any N ti k _ HF.out.n.ok).mono ?_
   rw [hm]
   rintro e w1 ⟨rfl,hb1⟩
   clear y
   have HF:=hid (HF.out.now hb1)
   have HB0:=hid (HB0.out.trans (hb1.mono HB0.out.size))
   have y:=HF.out.cell 5 (.int .i64 ti) (by rw [HTi.out];rfl)
   clear hb1
   go_wp2_with (first
    | ((with_reducible show wpList _ _ _ (Oper.mk _ (Op.load 86 _) _ _ _ _::_) _ _);refine wpList_load_g rfl 86 (.tmp 4) rfl _ 0 rfl (NetL.cs N).toList _ (HF.out.n.rng) Tryz.underlying86 rfl (by kernel_rfl) ?_)
    | fail)
   refine (foSame_any N 5 (by decide) _ HF.out.n.ok).mono ?_
   cases hs:sameW N.W 5
   ·rintro e w1 ⟨rfl,hb1⟩
    clear y
    have HF:=hid (HF.out.now hb1)
    have HB0:=hid (HB0.out.trans (hb1.mono HB0.out.size))
    have y:=HF.out.cell 5 (.int .i64 ti) (by rw [HTi.out];rfl)
    clear hb1
    go_wp2_with fail
    go_meet
    exact ⟨by rw [← HTi.out,hm,hs];rfl,HB0.out⟩
   ·rintro e w1 ⟨rfl,hb1⟩
    clear y
    have HF:=hid (HF.out.now hb1)
    have HB0:=hid (HB0.out.trans (hb1.mono HB0.out.size))
    have y:=HF.out.cell 5 (.int .i64 ti) (by rw [HTi.out];rfl)
    clear hb1
    go_wp2_with fail
    go_meet
    exact ⟨by rw [← HTi.out,hm,hs];rfl,HB0.out⟩
 case rest =>
  skip
  obtain ⟨rfl,hcb⟩:=hcut
  have HF1:=hid (HF.out.now hcb)
  have HV1:=hid (HV.out.now hcb)
  have HR1:=hid (HR.out.now hcb)
  clear hcb HF HV HR
  clear wr
  obtain ⟨wr,hwr⟩:∃ x,x=wc:=⟨_,rfl⟩
  subst hwr
  have HF:=HF1
  have HV:=HV1
  have HR:=HR1
  clear HF1 HV1 HR1
  obtain ⟨q5,hq5⟩:∃ q,(msgB (evsL N.E) x.ev.target k && !sameW N.W 5)=q:=⟨_,rfl⟩
  rw [hq5]
  have HTe:=hid hq5
  clear hq5
  go_upto_if 25 with fail
  go_cut [10] (fun s wx=>s=.string (bs (sayRe N.W (evsL N.E) k))∧Below wr.heap.size wr wx)
  case first=>as_aux_lemma =>
   have HB0:=hid (Below.refl wr.heap.size wr)
   obtain ⟨ti,hti⟩:∃ t,t=x.ev.target:=⟨_,rfl⟩
   have HQ:Hid (sayRe N.W (evsL N.E) k=if q5=true then [114,101,58,32]++lineP (evsL N.E) ti++[10] else []):=hid (by unfold sayRe;rw [HK.out,← HTe.out,hti];rfl)
   have HTi:=hid hti
   have HMs:Hid (q5=true→msgB (evsL N.E) ti k=true):=hid (fun hq=>by rw [← HTe.out,← hti] at hq;simp only [Bool.and_eq_true] at hq;exact hq.1)
   have y:=HF.out.cell 5 (.int .i64 ti) (by rw [HTi.out];rfl)
   clear hti
   cases q5
   ·have HR2:Hid (sayRe N.W (evsL N.E) k=[]):=hid (by rw [HQ.out];rfl)
    go_wp2_with fail
    go_meet
    exact ⟨by rw [HR2.out];simp [bs],HB0.out⟩
   ·have hma:=msgB_at (HMs.out rfl)
    obtain ⟨j,hj⟩:∃ j:Nat,ti=j:=⟨ti.toNat,by omega⟩
    have hjl:j<N.E.length:=by have:=hma.2.2.1;simp at this;omega
    have HL:Hid (∀ wq,NetOk wq N→Calls Tryz.prog 135 #[N.v,.int .i64 ti] wq fun e w'=>e=.returned (.string (bs (lineP (evsL N.E) ti)))∧Below wq.heap.size wq w'):=hid (by rw [hj];exact fun wq hq=>foLine_any N j hjl wq hq)
    clear hma hj hjl
    have HR2:Hid (sayRe N.W (evsL N.E) k=[114,101,58,32]++lineP (evsL N.E) ti++[10]):=hid (by rw [HQ.out];rfl)
    go_wp2_with (first
     | ((with_reducible show wpList _ _ _ (Oper.mk _ (Op.load 86 _) _ _ _ _::_) _ _);refine wpList_load_g rfl 86 (.tmp 4) rfl _ 0 rfl (NetL.cs N).toList _ (HF.out.n.rng) Tryz.underlying86 rfl (by kernel_rfl) ?_)
     | fail)
    refine (HL.out _ HF.out.n.ok).mono ?_
    rintro e w1 ⟨rfl,hb1⟩
    clear y
    have HF:=hid (HF.out.now hb1)
    have HB0:=hid (HB0.out.trans (hb1.mono HB0.out.size))
    have y:=HF.out.cell 5 (.int .i64 ti) (by rw [HTi.out];rfl)
    clear hb1
    have hll:=lineP_len (evsL N.E) ti
    generalize lineP (evsL N.E) ti=li at *
    go_wp2_with (first
     | ((with_reducible show wpList _ _ _ (Oper.mk _ (Op.binOp .add 9 _ _ _) _ _ _ _::_) _ _);refine wp_cat rfl rfl Tryz.underlying9 rfl rfl (by first | omega | (simp;done) | (simp;omega)) ?_)
     | fail)
    go_meet
    exact ⟨by rw [HR2.out];simp,HB0.out⟩
  case rest =>
   skip
   obtain ⟨rfl,hcb⟩:=hcut
   have HF1:=hid (HF.out.now hcb)
   have HV1:=hid (HV.out.now hcb)
   have HR1:=hid (HR.out.now hcb)
   clear hcb HF HV HR
   clear wr
   obtain ⟨wr,hwr⟩:∃ x,x=wc:=⟨_,rfl⟩
   subst hwr
   have HF:=HF1
   have HV:=HV1
   have HR:=HR1
   clear HF1 HV1 HR1
   have hS1:=sayRe_len N.W (evsL N.E) k
   obtain ⟨S1,hS⟩:∃ s,sayRe N.W (evsL N.E) k=s:=⟨_,rfl⟩
   rw [hS] at hS1 ⊢
   have HS1:=hid hS
   clear hS HTe
   go_upto_region 5 with fail
   go_cut [43] (fun v wx=>v=.bool (msgB (evsL N.E) x.ev.quote k && !sameW N.W 6)∧Below wr.heap.size wr wx)
   case first=>as_aux_lemma =>
    have HB0:=hid (Below.refl wr.heap.size wr)
    obtain ⟨ti,hti⟩:∃ t,t=x.ev.quote:=⟨_,rfl⟩
    have HTi:=hid hti
    have y:=HF.out.cell 6 (.int .i64 ti) (by rw [HTi.out];rfl)
    clear hti
    cases hm:msgB (evsL N.E) ti k
    ·go_wp2_with (first
      | ((with_reducible show wpList _ _ _ (Oper.mk _ (Op.load 86 _) _ _ _ _::_) _ _);refine wpList_load_g rfl 86 (.tmp 4) rfl _ 0 rfl (NetL.cs N).toList _ (HF.out.n.rng) Tryz.underlying86 rfl (by kernel_rfl) ?_)
      | fail)
     refine (foMsg_any N ti k _ HF.out.n.ok).mono ?_
     rw [hm]
     rintro e w1 ⟨rfl,hb1⟩
     clear y
     have HF:=hid (HF.out.now hb1)
     have HB0:=hid (HB0.out.trans (hb1.mono HB0.out.size))
     have y:=HF.out.cell 6 (.int .i64 ti) (by rw [HTi.out];rfl)
     clear hb1
     go_wp2_with fail
     go_meet
     exact ⟨by rw [← HTi.out,hm];rfl,HB0.out⟩
    ·go_wp2_with (first
      | ((with_reducible show wpList _ _ _ (Oper.mk _ (Op.load 86 _) _ _ _ _::_) _ _);refine wpList_load_g rfl 86 (.tmp 4) rfl _ 0 rfl (NetL.cs N).toList _ (HF.out.n.rng) Tryz.underlying86 rfl (by kernel_rfl) ?_)
      | fail)
     refine (foMsg_any N ti k _ HF.out.n.ok).mono ?_
     rw [hm]
     rintro e w1 ⟨rfl,hb1⟩
     clear y
     have HF:=hid (HF.out.now hb1)
     have HB0:=hid (HB0.out.trans (hb1.mono HB0.out.size))
     have y:=HF.out.cell 6 (.int .i64 ti) (by rw [HTi.out];rfl)
     clear hb1
     go_wp2_with (first
      | ((with_reducible show wpList _ _ _ (Oper.mk _ (Op.load 86 _) _ _ _ _::_) _ _);refine wpList_load_g rfl 86 (.tmp 4) rfl _ 0 rfl (NetL.cs N).toList _ (HF.out.n.rng) Tryz.underlying86 rfl (by kernel_rfl) ?_)
      | fail)
     refine (foSame_any N 6 (by decide) _ HF.out.n.ok).mono ?_
     cases hs:sameW N.W 6
     ·rintro e w1 ⟨rfl,hb1⟩
      clear y
      have HF:=hid (HF.out.now hb1)
      have HB0:=hid (HB0.out.trans (hb1.mono HB0.out.size))
      have y:=HF.out.cell 6 (.int .i64 ti) (by rw [HTi.out];rfl)
      clear hb1
      go_wp2_with fail
      go_meet
      exact ⟨by rw [← HTi.out,hm,hs];rfl,HB0.out⟩
     ·rintro e w1 ⟨rfl,hb1⟩
      clear y
      have HF:=hid (HF.out.now hb1)
      have HB0:=hid (HB0.out.trans (hb1.mono HB0.out.size))
      have y:=HF.out.cell 6 (.int .i64 ti) (by rw [HTi.out];rfl)
      clear hb1
      go_wp2_with fail
      go_meet
      exact ⟨by rw [← HTi.out,hm,hs];rfl,HB0.out⟩
   case rest =>
    skip
    obtain ⟨rfl,hcb⟩:=hcut
    have HF1:=hid (HF.out.now hcb)
    have HV1:=hid (HV.out.now hcb)
    have HR1:=hid (HR.out.now hcb)
    clear hcb HF HV HR
    clear wr
    obtain ⟨wr,hwr⟩:∃ x,x=wc:=⟨_,rfl⟩
    subst hwr
    have HF:=HF1
    have HV:=HV1
    have HR:=HR1
    clear HF1 HV1 HR1
    obtain ⟨q6,hq6⟩:∃ q,(msgB (evsL N.E) x.ev.quote k && !sameW N.W 6)=q:=⟨_,rfl⟩
    rw [hq6]
    have HTe:=hid hq6
    clear hq6
    go_upto_if 43 with fail
    go_cut [10] (fun s wx=>s=.string (bs (S1++sayQu N.W (evsL N.E) k))∧Below wr.heap.size wr wx)
    case first=>as_aux_lemma =>
     have HB0:=hid (Below.refl wr.heap.size wr)
     obtain ⟨ti,hti⟩:∃ t,t=x.ev.quote:=⟨_,rfl⟩
     have HQ:Hid (sayQu N.W (evsL N.E) k=if q6=true then [62,32]++lineP (evsL N.E) ti++[10] else []):=hid (by unfold sayQu;rw [HK.out,← HTe.out,hti];rfl)
     have HTi:=hid hti
     have HMs:Hid (q6=true→msgB (evsL N.E) ti k=true):=hid (fun hq=>by rw [← HTe.out,← hti] at hq;simp only [Bool.and_eq_true] at hq;exact hq.1)
     have y:=HF.out.cell 6 (.int .i64 ti) (by rw [HTi.out];rfl)
     clear hti
     cases q6
     ·have HR2:Hid (sayQu N.W (evsL N.E) k=[]):=hid (by rw [HQ.out];rfl)
      go_wp2_with fail
      go_meet
      exact ⟨by rw [HR2.out];simp [bs],HB0.out⟩
     ·have hma:=msgB_at (HMs.out rfl)
      obtain ⟨j,hj⟩:∃ j:Nat,ti=j:=⟨ti.toNat,by omega⟩
      have hjl:j<N.E.length:=by have:=hma.2.2.1;simp at this;omega
      have HL:Hid (∀ wq,NetOk wq N→Calls Tryz.prog 135 #[N.v,.int .i64 ti] wq fun e w'=>e=.returned (.string (bs (lineP (evsL N.E) ti)))∧Below wq.heap.size wq w'):=hid (by rw [hj];exact fun wq hq=>foLine_any N j hjl wq hq)
      clear hma hj hjl
      have HR2:Hid (sayQu N.W (evsL N.E) k=[62,32]++lineP (evsL N.E) ti++[10]):=hid (by rw [HQ.out];rfl)
      go_wp2_with (first
       | ((with_reducible show wpList _ _ _ (Oper.mk _ (Op.load 86 _) _ _ _ _::_) _ _);refine wpList_load_g rfl 86 (.tmp 4) rfl _ 0 rfl (NetL.cs N).toList _ (HF.out.n.rng) Tryz.underlying86 rfl (by kernel_rfl) ?_)
       | fail)
      refine (HL.out _ HF.out.n.ok).mono ?_
      rintro e w1 ⟨rfl,hb1⟩
      clear y
      have HF:=hid (HF.out.now hb1)
      have HB0:=hid (HB0.out.trans (hb1.mono HB0.out.size))
      have y:=HF.out.cell 6 (.int .i64 ti) (by rw [HTi.out];rfl)
      clear hb1
      have hll:=lineP_len (evsL N.E) ti
      generalize lineP (evsL N.E) ti=li at *
      go_wp2_with (first
       | ((with_reducible show wpList _ _ _ (Oper.mk _ (Op.binOp .add 9 _ _ _) _ _ _ _::_) _ _);refine wp_cat rfl rfl Tryz.underlying9 rfl rfl (by first | omega | (simp;done) | (simp;omega)) ?_)
       | fail)
      go_meet
      exact ⟨by rw [HR2.out];simp,HB0.out⟩
    case rest =>
     skip
     obtain ⟨rfl,hcb⟩:=hcut
     have HF1:=hid (HF.out.now hcb)
     have HV1:=hid (HV.out.now hcb)
     have HR1:=hid (HR.out.now hcb)
     clear hcb HF HV HR
     clear wr
     obtain ⟨wr,hwr⟩:∃ x,x=wc:=⟨_,rfl⟩
     subst hwr
     have HF:=HF1
     have HV:=HV1
     have HR:=HR1
     clear HF1 HV1 HR1
     have hS2:=sayQu_len N.W (evsL N.E) k
     obtain ⟨S2,hS⟩:∃ s,sayQu N.W (evsL N.E) k=s:=⟨_,rfl⟩
     rw [hS] at hS2 ⊢
     have HS2:=hid hS
     clear hS HTe
     obtain ⟨S12,hS⟩:∃ s,S1++S2=s:=⟨_,rfl⟩
     have hS12:S12.length≤60:=by rw [← hS,List.length_append];omega
     rw [hS]
     have HS12:=hid hS
     clear hS hS1 hS2
     obtain ⟨wh,hwh⟩:∃ v,v=x.ev.who:=⟨_,rfl⟩
     have HWh:=hid hwh
     clear hwh
     go_upto_region 7 with fail
     go_cut [59] (fun v wx=>v=.bool (!(wh==-1) && !sameW N.W 7)∧Below wr.heap.size wr wx)
     case first=>as_aux_lemma =>
      have HB0:=hid (Below.refl wr.heap.size wr)
      have y:=HF.out.cell 7 (.int .i64 wh) (by rw [HWh.out];rfl)
      cases hq:wh != -1
      ·have hq2:(wh==-1)=true:=by simpa using hq
       go_wp2_with fail
       go_meet
       exact ⟨by rw [hq2];rfl,HB0.out⟩
      ·have hq2:(wh==-1)=false:=by simpa using hq
       go_wp2_with (first
        | ((with_reducible show wpList _ _ _ (Oper.mk _ (Op.load 86 _) _ _ _ _::_) _ _);refine wpList_load_g rfl 86 (.tmp 4) rfl _ 0 rfl (NetL.cs N).toList _ (HF.out.n.rng) Tryz.underlying86 rfl (by kernel_rfl) ?_)
        | fail)
       refine (foSame_any N 7 (by decide) _ HF.out.n.ok).mono ?_
       cases hs:sameW N.W 7
       ·rintro e w1 ⟨rfl,hb1⟩
        go_wp2_with fail
        go_meet
        exact ⟨by rw [hq2,hs];rfl,hb1⟩
       ·rintro e w1 ⟨rfl,hb1⟩
        go_wp2_with fail
        go_meet
        exact ⟨by rw [hq2,hs];rfl,hb1⟩
     case rest =>
      skip
      obtain ⟨rfl,hcb⟩:=hcut
      have HF1:=hid (HF.out.now hcb)
      have HV1:=hid (HV.out.now hcb)
      have HR1:=hid (HR.out.now hcb)
      clear hcb HF HV HR
      clear wr
      obtain ⟨wr,hwr⟩:∃ x,x=wc:=⟨_,rfl⟩
      subst hwr
      have HF:=HF1
      have HV:=HV1
      have HR:=HR1
      clear HF1 HV1 HR1
      obtain ⟨q7,hq7⟩:∃ q,(!(wh==-1) && !sameW N.W 7)=q:=⟨_,rfl⟩
      rw [hq7]
      have HTe:=hid hq7
      clear hq7
      have HNu:=hid (right_nums (HF.out.n.ok.rt x hx))
      have HQ:Hid (sayWho N.W (evsL N.E) k=if q7=true then [64]++Lib.itoa wh++[32] else []):=hid (by unfold sayWho;rw [HK.out,← HTe.out,HWh.out];rfl)
      go_upto_if 59 with fail
      go_cut [10] (fun s wx=>s=.string (bs (S12++sayWho N.W (evsL N.E) k))∧Below wr.heap.size wr wx)
      case first=>as_aux_lemma =>
       have y:=HF.out.cell 7 (.int .i64 wh) (by rw [HWh.out];rfl)
       cases q7
       ·have HR2:Hid (sayWho N.W (evsL N.E) k=[]):=hid (by rw [HQ.out];rfl)
        go_wp2_with fail
        go_meet
        exact ⟨by rw [HR2.out];simp [bs],Below.refl _ _⟩
       ·have HR2:Hid (sayWho N.W (evsL N.E) k=[64]++Lib.itoa wh++[32]):=hid (by rw [HQ.out];rfl)
        have hin:InInt wh:=by have:=HNu.out;rw [← HWh.out] at this;exact ⟨by omega,by omega⟩
        have hle:(Lib.itoa wh).length≤30:=by
         have:=encI_len wh hin
         unfold encI at this
         simp at this
         omega
        go_wp2_with fail
        refine (itoa_any wh _ HV.out hin).mono ?_
        rintro e w1 ⟨rfl,hb1⟩
        generalize Lib.itoa wh=d at *
        go_wp2_with (first
         | ((with_reducible show wpList _ _ _ (Oper.mk _ (Op.binOp .add 9 _ _ _) _ _ _ _::_) _ _);refine wp_cat rfl rfl Tryz.underlying9 rfl rfl (by first | omega | (simp;done) | (simp;omega)) ?_)
         | fail)
        go_meet
        exact ⟨by rw [HR2.out];simp,hb1⟩
      case rest =>
       skip
       obtain ⟨rfl,hcb⟩:=hcut
       have HF1:=hid (HF.out.now hcb)
       have HV1:=hid (HV.out.now hcb)
       have HR1:=hid (HR.out.now hcb)
       clear hcb HF HV HR
       clear wr
       obtain ⟨wr,hwr⟩:∃ x,x=wc:=⟨_,rfl⟩
       subst hwr
       have HF:=HF1
       have HV:=HV1
       have HR:=HR1
       clear HF1 HV1 HR1
       have hS3:=sayWho_len (W:=N.W) (E:=evsL N.E) (k:=k) (by rw [HK.out];have:=HNu.out;exact ⟨this.1,this.2.1⟩)
       obtain ⟨S3,hS⟩:∃ s,S12++sayWho N.W (evsL N.E) k=s:=⟨_,rfl⟩
       have hS4:S3.length≤100:=by rw [← hS,List.length_append];omega
       rw [hS]
       have HS3:=hid hS
       clear hS hS3 hS12 HTe HQ HNu
       have HFs:=hid (foShown_any N fs fA fc wr HF.out.n.ok HR.out (by omega))
       go_wp2_with (first
        | ((with_reducible show wpList _ _ _ (Oper.mk _ (Op.binOp .add 9 _ _ _) _ _ _ _::_) _ _);refine wp_cat rfl rfl Tryz.underlying9 rfl rfl (by first | omega | (simp;done) | (simp;omega)) ?_)
        | ((with_reducible show wpList _ _ _ (Oper.mk _ (Op.load 86 _) _ _ _ _::_) _ _);refine wpList_load_g rfl 86 (.tmp 4) rfl _ 0 rfl (NetL.cs N).toList _ (HF.out.n.rng) Tryz.underlying86 rfl (by kernel_rfl) ?_)
        | fail)
       refine HFs.out.mono ?_
       rintro e w1 ⟨A2,c2,rfl,ho,hb1⟩
       have hsl:=shown_len N.p.files N.B fs
       have HV:=hid (HV.out.now hb1)
       have HR:=hid (HR.out.now hb1)
       have HF:=hid (HF.out.now hb1)
       have HO:=hid (ho.rd intLayV)
       clear ho hb1
       have hll:=listed_len (shownP N.p.files N.B fs) HFi.out
       have HDf:Hid (sayP N.p N.W (evsL N.E) N.B k text fs=S3++text++listedP fs (shownP N.p.files N.B fs)):=hid (by unfold sayP;rw [← HS3.out,← HS12.out,HS1.out,HS2.out])
       generalize shownP N.p.files N.B fs=sh at *
       have HLi:=hid (foListed_any fs sh fA A2 fc c2 w1 HV.out HR.out HO.out (by omega) (by omega) HFi.out)
       go_wp2_with fail
       refine HLi.out.mono ?_
       rintro e w2 ⟨rfl,hb2⟩
       have HF:=hid (HF.out.now hb2)
       clear hb2
       generalize listedP fs sh=li at *
       go_wp2_with (first
        | ((with_reducible show wpList _ _ _ (Oper.mk _ (Op.binOp .add 9 _ _ _) _ _ _ _::_) _ _);refine wp_cat rfl rfl Tryz.underlying9 rfl rfl (by first | omega | (simp;done) | (simp;omega)) ?_)
        | fail)
       go_ret
       exact ⟨by rw [HDf.out,List.append_assoc];rfl,HF.out.n.hb⟩
/- Contracts of items and post of package forth (layer 21). -/
theorem slIt:SlTy Tryz.prog 41 46 11 112:=by
 obtain ⟨i,hi,h0,h1,h2⟩:=info_parts (show (Tryz.prog.info? 46).map (fun i=>(i.zero,i.size,i.bytes))=some (some (.agg #[.int .i64 0,.int .i64 0,.int .i64 0,.int .i64 0,.int .i64 0,.int .i64 0,.int .i64 0,.int .i64 0,.int .i64 0,.string ByteArray.empty,.slice none 0 0]),11,112) by kernel_rfl)
 exact ⟨Tryz.underlying41,⟨i,_,hi,h0,h1,h2,rfl⟩,by decide,by decide⟩
def mkIt (x:ItM):ItL:=⟨x,none,0⟩
def itemAt (id kind:Int) (ts:List (List UInt8)) (k:Nat) (s:List UInt8):ItM:=⟨id,k,ts.length,kind,-1,0,-1,-1,0,s,[]⟩
theorem items_take (id kind:Int) (ts:List (List UInt8)) (k:Nat) (hk:k<ts.length):(itemsP id kind ts).take (k+1)=(itemsP id kind ts).take k++[itemAt id kind ts k ts[k]]:=by
 rw [List.take_succ_eq_append_getElem (by rw [itemsP_len];exact hk)]
 congr 1
 simp [itemsP,itemAt]
theorem foItems_any (id kind:Int) (ts:List (List UInt8)) (A:Option Addr) (n c:Nat) (w:World) (hn:n=ts.length) (hr:RdL 1 strE w w.heap.size A ts) (hl:ts.length≤1000) :
  Calls Tryz.prog 140 #[.int .i64 id,.int .i64 kind,.slice A n c] w fun e w'=>∃ A' c',e=.returned (.slice A' (itemsP id kind ts).length c')∧OwnL w' w.heap.size 46 11 ItL.cs A' c' ((itemsP id kind ts).map mkIt)∧Below w.heap.size w w':=by
 subst hn
 have HR:=hid hr
 clear hr
 go_enter Tryz.func140,Tryz.ntmps140
 go_wp2_with fail
 go_loopw [7,8,9,12] (fun o _ _ i wx=>∃ (k:Nat) (A':Option Addr) (c':Nat),k≤ts.length∧i=.int .i64 k∧o=.slice A' k c'∧OwnL wx w.heap.size 46 11 ItL.cs A' c' (((itemsP id kind ts).take k).map mkIt)∧Below w.heap.size w wx) (fun _ _ _ i _=>ts.length - (intOf i).toNat)
 case atStart=>exact ⟨0,none,0,Nat.zero_le _,rfl,rfl,OwnL.nil_,Below.refl _ _⟩
 case round =>
  obtain ⟨k,A2,c2,hk,rfl,rfl,hown,hbw⟩:=hrel
  have HB:=hid hbw
  have HR1:=hid (HR.out.now hbw)
  have HO:=hid hown
  clear hbw hown
  by_cases hlt:k<ts.length
  ·have HT:Hid (((itemsP id kind ts).take (k+1)).map mkIt=((itemsP id kind ts).take k).map mkIt++[mkIt (itemAt id kind ts k ts[k])]):=hid (by rw [items_take id kind ts k hlt,List.map_append];rfl)
   have HLe:Hid ((((itemsP id kind ts).take k).map mkIt).length=k):=hid (by rw [List.length_map,List.length_take,itemsP_len];omega)
   obtain ⟨g,off,rfl,_,zk⟩:=rd_str' HR1.out hlt
   generalize ((itemsP id kind ts).take k).map mkIt=out at *
   generalize ts[k]=s at *
   obtain ⟨out2,ho2⟩:∃ x,x=out:=⟨_,rfl⟩
   obtain rfl:k=out.length:=HLe.out.symm
   clear ho2
   go_wp2_with (first
    | (at_builtin;refine wp_append_l rfl (.tmp 17) (.tmp 25) rfl slIt layIt w.heap.size (xs:=out) (ys:=[mkIt (itemAt id kind ts out.length s)]) rfl rfl (HO.out.alloc _) rfl rfl (RdL.one wr (mkIt (itemAt id kind ts out.length s)) _ _ rfl _ rfl) (by simp;omega) (by have:=HB.out.size;simp;omega) ?_;intro A3 c3 w6 hown hg hb2 hat;have HO3:=hid hown;have HB3:=hid (((Below.refl w.heap.size wr).alloc HB.out.size _).trans hb2);clear hown hg hb2 hat)
    | fail)
   go_roundw
   case rel=>exact ⟨out.length+1,A3,c3,by omega,by go_num,by simp,by rw [HT.out];exact HO3.out,HB.out.trans HB3.out⟩
   case measure=>simp [intOf];omega
  ·have hke:k=ts.length:=by omega
   have d1:decide (k<ts.length)=false:=decide_eq_false (by omega)
   have HKe:=hid hke
   clear hke hlt
   go_wp2_with fail
   go_ret
   exact ⟨A2,c2,by rw [itemsP_len,HKe.out];rfl,by have:=HO.out;rwa [HKe.out,← itemsP_len id kind ts,List.take_length] at this,HB.out⟩
def ItsB (L:List ItM) (w:World) (e:Ending) (w':World):Prop :=
 ∃ g c,e=.returned (.slice (some ⟨g,0,none⟩) L.length c)∧OwnL w' w.heap.size 46 11 ItL.cs (some ⟨g,0,none⟩) c (L.map mkIt)∧Below w.heap.size w w'
theorem foPost_any (N:NetL) (k:Nat) (s:List UInt8) (on:Int) (w:World) (h:NetOk w N) (hl:s.length≤100000) :
  Calls Tryz.prog 131 #[N.v,.int .i64 k,.string (bs s),.int .i64 on] w (ItsB (postP N.p k s on) w):=by
 have HN:=hid (NB.start h)
 have hz:=check_bounds N.p h.ck
 have HPos:=hid (partsF_pos (s:=s) (size:=N.p.size) (most:=N.p.parts) (by omega) (by omega))
 have HLe:=hid (partsF_le (s:=s) (size:=N.p.size) (most:=N.p.parts) (by omega))
 have HD:Hid (postP N.p k s on=headM (fun x=>{x with on:=on}) (itemsP k 0 (partsF s N.p.size N.p.parts))):=hid rfl
 have z8:=HN.out.cell 8 (.int .i64 N.p.size) rfl
 have z9:=HN.out.cell 9 (.int .i64 N.p.parts) rfl
 have HPa:=hid (parts_any s N.p.size N.p.parts (w.alloc (.cells N.cs 86)) (by omega) ⟨by omega,by omega⟩ ⟨by omega,by omega⟩)
 have HZ:=hid hz
 clear h hl hz
 go_enter Tryz.func131,Tryz.ntmps131
 go_wp2_with fail
 obtain ⟨b,hb⟩:∃ b,b=w.heap.size:=⟨_,rfl⟩
 rw [← hb] at HN z8 z9 ⊢
 clear hb
 generalize w.alloc (.cells N.cs 86)=wr at *
 refine HPa.out.mono ?_
 rintro e w1 ⟨A,c,rfl,ho,hb1⟩
 have HN:=hid (HN.out.now hb1)
 have HO:=hid (ho.rd strLay)
 generalize partsF s N.p.size N.p.parts=ts at *
 clear ho hb1 z8 z9 HPa
 have hts:ts.length≤1000:=by have:=HLe.out;have:=HZ.out;omega
 have HIt:=hid (foItems_any k 0 ts A ts.length c w1 rfl HO.out hts)
 have HS1:Hid (w.heap.size≤w1.heap.size):=hid HN.out.hb.size
 go_wp2_with fail
 refine HIt.out.mono ?_
 rintro e w2 ⟨A2,c2,rfl,ho,hb1⟩
 have HN:=hid (HN.out.now hb1)
 have HLn:Hid ((itemsP k 0 ts).length=ts.length):=hid (itemsP_len _ _ _)
 obtain ⟨i0,r0,hi0⟩:∃ x r,itemsP k 0 ts=x::r:=by
  cases hq:itemsP (k:Int) 0 ts with
  | nil=>rw [hq] at HLn;have:=HLn.out;have:=HPos.out;simp at *;omega
  | cons x r=>exact ⟨x,r,rfl⟩
 have h4:i0.on=-1:=by
  cases ts with
  | nil=>simp [itemsP] at hi0
  | cons t0 tr =>
   simp only [itemsP,List.mapIdx_cons] at hi0
   injection hi0 with h1 h2
   rw [← h1]
 rw [hi0] at ho HD HLn ⊢
 obtain ⟨g,hg,hg1,hg2⟩:=ho.some_ (by simp)
 subst hg
 have HO2:=hid ho
 have z4:=ho.cellc layIt 0 4 (by simp) (.int .i64 (-1)) (by rw [← h4];rfl)
 have fz:=ho.freec
 have HG:Hid (w1.heap.size≤g):=hid hg1
 have hlp:0<(i0::r0).length:=by simp
 have HSet:=hid (ho.setc layIt 0 4 (by simp) (by decide) (.int .i64 on) (mkIt {i0 with on:=on}) rfl)
 clear ho hb1 hg1 hg2 hi0 h4 HIt
 generalize hln:(i0::r0).length=ln at *
 have HLn2:=hid hln
 clear hln
 go_wp2_with fail
 go_ret
 have hsz:w.heap.size≤w1.heap.size:=HS1.out
 exact ⟨g,c2,by rw [HD.out,headM_len,HLn2.out];rfl,by rw [HD.out];exact HSet.out.mono hsz,HN.out.hb.setCell (p:=⟨g,4,none⟩) (show w.heap.size≤g by have:=HG.out;omega) (.int .i64 on)⟩
/- Contract of first of package forth (layer 21). -/
theorem itemsP_files {id kind:Int} {ts:List (List UInt8)}:∀ y∈itemsP id kind ts,y.files=[]:=fun y hy=>by
 unfold itemsP at hy
 rw [List.mem_mapIdx] at hy
 obtain ⟨i,hi,rfl⟩:=hy
 rfl
def ItsG (base:Nat) (L:List ItM) (g:Option Addr × Nat) (w:World):Prop:=∃ q,g.1=some ⟨q,0,none⟩∧OwnL w base 46 11 ItL.cs (some ⟨q,0,none⟩) g.2 (L.map mkIt)
theorem ItsG.now {base:Nat} {L:List ItM} {g:Option Addr × Nat} {w w':World} (h:ItsG base L g w) (hb:Below w.heap.size w w'):ItsG base L g w':=by
 obtain ⟨q,h1,h2⟩:=h
 exact ⟨q,h1,h2.below hb⟩
theorem sayP_len {p:Prof} {W:List (Int × Int)} {E:List EvM} {bad:List Int} {k:Nat} {text:List UInt8} {fs:List Int} (hw:-1≤(evAt E k).who∧(evAt E k).who≤2000) (ht:text.length≤10000) (hl:fs.length≤10) (hf:∀ f∈fs,0≤f∧f≤1073741824) :
  (sayP p W E bad k text fs).length≤20000:=by
 have h1:=sayRe_len W E k
 have h2:=sayQu_len W E k
 have h3:=sayWho_len (W:=W) hw
 have h4:=listed_len (shownP p.files bad fs) hf
 unfold sayP
 simp only [List.length_append]
 omega
theorem foFirst_any {B:Nat} (N:NetL) (k:Nat) (hk:k<N.E.length) (w:World) (hV:Vs B w) (h:NetOk w N) :
  Calls Tryz.prog 74 #[N.v,.int .i64 k] w fun e w'=>∃ g c xs,e=.returned (.slice (some ⟨g,0,none⟩) (firstP N.p N.W (evsL N.E) N.B k).length c)∧ItsAt w.heap.size w' (some ⟨g,0,none⟩) c xs (firstP N.p N.W (evsL N.E) N.B k)∧Below w.heap.size w w':=by
 have HV:=hid hV
 clear hV
 have hx:=List.getElem_mem hk
 have HK:Hid (evAt (evsL N.E) k=N.E[k].ev):=hid (ev_at hk)
 have HN0:=NB.start h
 obtain ⟨eg,eoff,hA,_,hrg,_,_⟩:=HN0.ev hk
 have z23:=HN0.cell 23 (.slice N.eA N.E.length N.ec) rfl
 rw [hA] at z23
 have HRg:=hid hrg
 clear hrg hA HN0
 generalize hxe:N.E[k]=x at *
 clear hxe
 have HF:=hid (FB.start h hx)
 go_enter Tryz.func74,Tryz.ntmps74
 go_upto_region 2 with (first
  | ((with_reducible show wpList _ _ _ (Oper.mk _ (Op.load 40 _) _ _ _ _::_) _ _);refine wpList_load_g rfl 40 _ rfl eg (eoff+k * 12) rfl (x.ev.cs x.cA x.cc x.fA x.fc).toList _ HRg.out Tryz.underlying40 rfl (by kernel_rfl) ?_)
  | fail)
 change Code.wp _ _ _ _ ((w.alloc (.cells N.cs 86)).alloc (.cells (x.ev.cs x.cA x.cc x.fA x.fc) 40))
 obtain ⟨b,hb⟩:∃ b,b=w.heap.size:=⟨_,rfl⟩
 rw [← hb] at HF ⊢
 clear z23 HRg hb
 generalize (w.alloc (.cells N.cs 86)).alloc (.cells (x.ev.cs x.cA x.cc x.fA x.fc) 40)=wr at *
 have HV:=hid (HV.out.now HF.out.n.hb)
 go_upto_region 3 with fail
 go_cut [17] (fun v wx=>v=.bool (msgB (evsL N.E) x.ev.target k)∧Below wr.heap.size wr wx)
 case first=>as_aux_lemma =>
  obtain ⟨ti,hti⟩:∃ t,t=x.ev.target:=⟨_,rfl⟩
  have HTi:=hid hti
  have y:=HF.out.cell 5 (.int .i64 ti) (by rw [HTi.out];rfl)
  clear hti
  go_wp2_with (first
   | ((with_reducible show wpList _ _ _ (Oper.mk _ (Op.load 86 _) _ _ _ _::_) _ _);refine wpList_load_g rfl 86 (.tmp 2) rfl _ 0 rfl (NetL.cs N).toList _ (HF.out.n.rng) Tryz.underlying86 rfl (by kernel_rfl) ?_)
   | fail)
  refine (foMsg_any N ti k _ HF.out.n.ok).mono ?_
  rintro e w1 ⟨rfl,hb1⟩
  go_wp2_with fail
  go_meet
  exact ⟨by rw [← HTi.out],hb1⟩
 case rest =>
  skip
  obtain ⟨rfl,hcb⟩:=hcut
  have HF1:=hid (HF.out.now hcb)
  have HV1:=hid (HV.out.now hcb)
  clear hcb HF HV
  clear wr
  obtain ⟨wr,hwr⟩:∃ x,x=wc:=⟨_,rfl⟩
  subst hwr
  have HF:=HF1
  have HV:=HV1
  clear HF1 HV1
  have HOn:Hid (onP N.p (evsL N.E) k=if msgB (evsL N.E) x.ev.target k=true then placeP N.p (evsL N.E) x.ev.target else -1):=hid (by unfold onP;rw [HK.out])
  generalize msgB (evsL N.E) x.ev.target k=q at *
  go_upto_if 17 with fail
  go_cut [6] (fun v wx=>v=.int .i64 (onP N.p (evsL N.E) k)∧Below wr.heap.size wr wx)
  case first=>as_aux_lemma =>
   cases q
   ·have HR2:Hid (onP N.p (evsL N.E) k=-1):=hid (by rw [HOn.out];rfl)
    go_wp2_with fail
    go_meet
    exact ⟨by rw [HR2.out],Below.refl _ _⟩
   ·have HR2:Hid (onP N.p (evsL N.E) k=placeP N.p (evsL N.E) x.ev.target):=hid (by rw [HOn.out];rfl)
    have y:=HF.out.cell 5 (.int .i64 x.ev.target) rfl
    go_wp2_with (first
     | ((with_reducible show wpList _ _ _ (Oper.mk _ (Op.load 86 _) _ _ _ _::_) _ _);refine wpList_load_g rfl 86 (.tmp 2) rfl _ 0 rfl (NetL.cs N).toList _ (HF.out.n.rng) Tryz.underlying86 rfl (by kernel_rfl) ?_)
     | fail)
    refine (foPlace_any N x.ev.target _ HF.out.n.ok).mono ?_
    rintro e w1 ⟨rfl,hb1⟩
    go_wp2_with fail
    go_meet
    exact ⟨by rw [HR2.out],hb1⟩
  case rest =>
   skip
   obtain ⟨rfl,hcb⟩:=hcut
   have HF1:=hid (HF.out.now hcb)
   have HV1:=hid (HV.out.now hcb)
   clear hcb HF HV
   clear wr
   obtain ⟨wr,hwr⟩:∃ x,x=wc:=⟨_,rfl⟩
   subst hwr
   have HF:=HF1
   have HV:=HV1
   clear HF1 HV1
   clear HOn
   obtain ⟨on,hon⟩:∃ o,onP N.p (evsL N.E) k=o:=⟨_,rfl⟩
   rw [hon]
   have HOn:=hid hon
   clear hon q
   have hrt:=HF.out.n.ok.rt x hx
   have hrx:=right_text hrt
   have hrn:=right_nums hrt
   have htl:(tx x.ev).length≤10000:=by rw [tx_len];omega
   have HSl:Hid ((sayP N.p N.W (evsL N.E) N.B k (tx x.ev) x.ev.files).length≤20000):=hid (sayP_len (by rw [HK.out];exact ⟨hrn.1,hrn.2.1⟩) htl (by omega) hrx.2.2)
   have HWo:Hid (∀ wq,Below wr.heap.size wr wq→Calls Tryz.prog 132 #[N.v,.int .i64 k,.string (bs (tx x.ev)),.slice x.fA x.ev.files.length x.fc] wq fun e w'=>e=.returned (.string (bs (sayP N.p N.W (evsL N.E) N.B k (tx x.ev) x.ev.files)))∧Below wq.heap.size wq w'):=hid (fun wq hq =>
    foWords_any N k hk (tx x.ev) x.ev.files x.fA x.fc wq (HV.out.now hq) (HF.out.now hq).n.ok htl (HF.out.now hq).ok.ok.fi (by omega) hrx.2.2)
   have HFp:Hid (firstP N.p N.W (evsL N.E) N.B k=headM (fun y=>{y with on:=on,quote:=quoteP N.W (evsL N.E) k,who:=whoP N.W (evsL N.E) k,files:=shownP N.p.files N.B x.ev.files}) (itemsP k 0 (partsF (sayP N.p N.W (evsL N.E) N.B k (tx x.ev) x.ev.files) N.p.size N.p.parts))):=hid (by unfold firstP;rw [HOn.out,HK.out])
   clear hrx hrn hrt htl HOn
   generalize sayP N.p N.W (evsL N.E) N.B k (tx x.ev) x.ev.files=sy at *
   have HPo:Hid (∀ wq,Below wr.heap.size wr wq→Calls Tryz.prog 131 #[N.v,.int .i64 k,.string (bs sy),.int .i64 on] wq (ItsB (postP N.p k sy on) wq)):=hid (fun wq hq=>foPost_any N k sy on wq (HF.out.now hq).n.ok (by have:=HSl.out;omega))
   go_upto_region 5 with fail
   refine wp_region_below [(8,fun _=>.string (bs sy),fun (_:Option Addr × Nat) _=>True),(10,fun g=>.slice g.1 (postP N.p k sy on).length g.2,fun g w'=>ItsG wr.heap.size (postP N.p k sy on) g w')] (by kernel_rfl) (by kernel_rfl) (by repeat (first | exact trivial | refine ⟨fun g wa wb hs hs' ht h=>by first | exact trivial | exact h.now ht | exact h.below ht | exact ht.cell h | exact h,?_⟩)) ?_
   rw [List.toList_toArray]
   refine DetE.load (by rfl) (by rfl) 86 _ rfl b 0 rfl (NetL.cs N).toList _ (fun wq hSq _=>(HF.out.now hSq).n.rng) Tryz.underlying86 rfl (by kernel_rfl) ?_
   simp only [Act.put,sA,sB,sC]
   repeat (first
    | (refine DetE.skip (by rfl) ?_;simp only [Act.put,sA,sB,sC])
    | (refine DetE.read (v:=?_) (by rfl) (by rfl) ?_ ?_;rotate_left;(· (intro wq hSq hkq;skip;go_simp;try with_reducible rfl));simp only [Act.put,sA,sB,sC])
    | fail)
   refine DetE.load (by rfl) (by rfl) 86 _ rfl b 0 rfl (NetL.cs N).toList _ (fun wq hSq _=>(HF.out.now hSq).n.rng) Tryz.underlying86 rfl (by kernel_rfl) ?_
   simp only [Act.put,sA,sB,sC]
   repeat (first
    | (refine DetE.skip (by rfl) ?_;simp only [Act.put,sA,sB,sC])
    | (refine DetE.read (v:=?_) (by rfl) (by rfl) ?_ ?_;rotate_left;(· (intro wq hSq hkq;have y9:=(HF.out.now hSq).cell 9 (.string (bs (tx x.ev))) (by rw [bs_tx];rfl);have y10:=(HF.out.now hSq).cell 10 (.slice x.fA x.ev.files.length x.fc) rfl;go_simp;try with_reducible rfl));simp only [Act.put,sA,sB,sC])
    | fail)
   refine DetE.eff _ _ (by rfl) (by rfl) (fun wq hSq hkq K hK=>?_) (fun g1=>?_)
   ·go_simp
    refine (HWo.out wq hSq).mono ?_
    rintro e4 w4 ⟨rfl,hb4⟩
    go_wp2_with fail
    exact hK.out ((none,0)) _ (hSq.trans (hb4.mono hSq.size)) hb4 (trivial) _ rfl
   simp only [Act.put,sA,sB,sC]
   repeat (first
    | (refine DetE.skip (by rfl) ?_;simp only [Act.put,sA,sB,sC])
    | (refine DetE.read (v:=?_) (by rfl) (by rfl) ?_ ?_;rotate_left;(· (intro wq hSq hkq;skip;go_simp;try with_reducible rfl));simp only [Act.put,sA,sB,sC])
    | fail)
   refine DetE.eff _ _ (by rfl) (by rfl) (fun wq hSq hkq K hK=>?_) (fun g2=>?_)
   ·go_simp
    refine (HPo.out wq hSq).mono ?_
    rintro e4 w4 ⟨q4,c4,rfl,ho4,hb4⟩
    go_wp2_with fail
    exact hK.out ((some ⟨q4,0,none⟩,c4)) _ (hSq.trans (hb4.mono hSq.size)) hb4 (⟨q4,rfl,ho4.mono hSq.size⟩) _ rfl
   simp only [Act.put,sA,sB,sC]
   repeat (first
    | (refine DetE.skip (by rfl) ?_;simp only [Act.put,sA,sB,sC])
    | (refine DetE.read (v:=?_) (by rfl) (by rfl) ?_ ?_;rotate_left;(· (intro wq hSq hkq;skip;go_simp;try with_reducible rfl));simp only [Act.put,sA,sB,sC])
    | fail)
   refine DetE.done fun wz hz hkz=>?_
   obtain ⟨q,hq1,ho⟩:=hkz 10 _ rfl
   obtain ⟨gA,gc⟩:=g2
   simp only at hq1 ho
   subst hq1
   obtain ⟨wB,hwB⟩:∃ x,x=wr:=⟨_,rfl⟩
   subst hwB
   obtain ⟨wr,hwr⟩:∃ x,x=wz:=⟨_,rfl⟩
   subst hwr
   have HFB:=HF
   have HVB:=HV
   have HB:=hid hz
   have HO:=hid ho
   have hz2:=check_bounds N.p HFB.out.n.ok.ck
   have hpo:=partsF_pos (s:=sy) (size:=N.p.size) (most:=N.p.parts) (by omega) (by omega)
   have hfs:=itemsP_files (id:=k) (kind:=0) (ts:=partsF sy N.p.size N.p.parts)
   obtain ⟨j0,r0,hj,hjq,hjw,hjf⟩:∃ x r,itemsP k 0 (partsF sy N.p.size N.p.parts)=x::r∧x.quote=-1∧x.who=-1∧x.files=[]:=by
    cases hq:partsF sy N.p.size N.p.parts with
    | nil=>rw [hq] at hpo;simp at hpo
    | cons t0 tr=>exact ⟨_,_,by simp only [itemsP,List.mapIdx_cons];rfl,rfl,rfl,rfl⟩
   have hP:postP N.p k sy on={j0 with on:=on}::r0:=by unfold postP;rw [hj];rfl
   rw [hP] at HO ⊢
   rw [hj] at HFp hfs
   have HJr:=hid hfs
   clear hfs
   have HFr:Hid (firstP N.p N.W (evsL N.E) N.B k={j0 with on:=on,quote:=quoteP N.W (evsL N.E) k,who:=whoP N.W (evsL N.E) k,files:=shownP N.p.files N.B x.ev.files}::r0):=HFp
   have HJ:Hid (j0.quote=-1∧j0.who=-1∧j0.files=[]):=hid ⟨hjq,hjw,hjf⟩
   have HQu:Hid (quoteP N.W (evsL N.E) k=if (msgB (evsL N.E) x.ev.quote k && sameW N.W 6)=true then x.ev.quote else -1):=hid (by unfold quoteP;rw [HK.out])
   have HWh:Hid (whoP N.W (evsL N.E) k=if sameW N.W 7=true then x.ev.who else -1):=hid (by unfold whoP;rw [HK.out])
   clear hkz hz ho HF HV HWo HPo HSl hz2 hpo hj hjq hjw hjf hP HFp
   have HF:=hid (HFB.out.now HB.out)
   have hln0:0<({j0 with on:=on}::r0).length:=by simp
   obtain ⟨ln,hln⟩:∃ n,({j0 with on:=on}::r0).length=n:=⟨_,rfl⟩
   rw [hln] at hln0 ⊢
   have HLn:Hid (r0.length+1=ln):=hid (by rw [← hln];rfl)
   clear hln
   go_upto_region 6 with fail
   go_cut [41] (fun v wx=>v=.bool (msgB (evsL N.E) x.ev.quote k && sameW N.W 6)∧Below wr.heap.size wr wx)
   case first=>as_aux_lemma =>
    have HB0:=hid (Below.refl wr.heap.size wr)
    obtain ⟨ti,hti⟩:∃ t,t=x.ev.quote:=⟨_,rfl⟩
    have HTi:=hid hti
    have y:=HF.out.cell 6 (.int .i64 ti) (by rw [HTi.out];rfl)
    clear hti
    cases hm:msgB (evsL N.E) ti k
    ·go_wp2_with (first
      | ((with_reducible show wpList _ _ _ (Oper.mk _ (Op.load 86 _) _ _ _ _::_) _ _);refine wpList_load_g rfl 86 (.tmp 2) rfl _ 0 rfl (NetL.cs N).toList _ (HF.out.n.rng) Tryz.underlying86 rfl (by kernel_rfl) ?_)
      | fail)
     refine (foMsg_any N ti k _ HF.out.n.ok).mono ?_
     rw [hm]
     rintro e w1 ⟨rfl,hb1⟩
     have HF1:=hid (HF.out.now hb1)
     clear HF
     have HF:=HF1
     have HB1:=hid (HB0.out.trans (hb1.mono HB0.out.size))
     clear HB0 HF1 hb1
     have HB0:=HB1
     clear HB1
     go_wp2_with fail
     go_meet
     exact ⟨by rw [← HTi.out,hm];rfl,HB0.out⟩
    ·go_wp2_with (first
      | ((with_reducible show wpList _ _ _ (Oper.mk _ (Op.load 86 _) _ _ _ _::_) _ _);refine wpList_load_g rfl 86 (.tmp 2) rfl _ 0 rfl (NetL.cs N).toList _ (HF.out.n.rng) Tryz.underlying86 rfl (by kernel_rfl) ?_)
      | fail)
     refine (foMsg_any N ti k _ HF.out.n.ok).mono ?_
     rw [hm]
     rintro e w1 ⟨rfl,hb1⟩
     have HF1:=hid (HF.out.now hb1)
     clear HF
     have HF:=HF1
     have HB1:=hid (HB0.out.trans (hb1.mono HB0.out.size))
     clear HB0 HF1 hb1
     have HB0:=HB1
     clear HB1
     go_wp2_with (first
      | ((with_reducible show wpList _ _ _ (Oper.mk _ (Op.load 86 _) _ _ _ _::_) _ _);refine wpList_load_g rfl 86 (.tmp 2) rfl _ 0 rfl (NetL.cs N).toList _ (HF.out.n.rng) Tryz.underlying86 rfl (by kernel_rfl) ?_)
      | fail)
     refine (foSame_any N 6 (by decide) _ HF.out.n.ok).mono ?_
     cases hs:sameW N.W 6
     ·rintro e w1 ⟨rfl,hb1⟩
      have HF1:=hid (HF.out.now hb1)
      clear HF
      have HF:=HF1
      have HB1:=hid (HB0.out.trans (hb1.mono HB0.out.size))
      clear HB0 HF1 hb1
      have HB0:=HB1
      clear HB1
      go_wp2_with fail
      go_meet
      exact ⟨by rw [← HTi.out,hm,hs];rfl,HB0.out⟩
     ·rintro e w1 ⟨rfl,hb1⟩
      have HF1:=hid (HF.out.now hb1)
      clear HF
      have HF:=HF1
      have HB1:=hid (HB0.out.trans (hb1.mono HB0.out.size))
      clear HB0 HF1 hb1
      have HB0:=HB1
      clear HB1
      go_wp2_with fail
      go_meet
      exact ⟨by rw [← HTi.out,hm,hs];rfl,HB0.out⟩
   case rest =>
    skip
    obtain ⟨rfl,hcb⟩:=hcut
    have HB1:=hid (HB.out.trans (hcb.mono HB.out.size))
    have HO1:=hid (HO.out.below hcb)
    clear hcb HB HO HF
    clear wr
    obtain ⟨wr,hwr⟩:∃ x,x=wc:=⟨_,rfl⟩
    subst hwr
    have HB:=HB1
    have HO:=HO1
    clear HB1 HO1
    have HF:=hid (HFB.out.now HB.out)
    generalize (msgB (evsL N.E) x.ev.quote k && sameW N.W 6)=c6 at *
    go_upto_if 41 with fail
    go_cut [] (fun wx=>OwnL wx wB.heap.size 46 11 ItL.cs (some ⟨q,0,none⟩) gc (mkIt {j0 with on:=on,quote:=quoteP N.W (evsL N.E) k}::r0.map mkIt)∧Below wB.heap.size wB wx)
    case first=>as_aux_lemma =>
     have hqB:wB.heap.size≤q:=(HO.out.blk_lt (i:=q) rfl).1
     cases c6
     ·have HR2:Hid (({j0 with on:=on,quote:=quoteP N.W (evsL N.E) k}:ItM)={j0 with on:=on}):=hid (by rw [HQu.out];have h1:=HJ.out.1;simp [h1])
      go_wp2_with fail
      go_meet
      exact ⟨by rw [HR2.out];exact HO.out,HB.out⟩
     ·have HR2:Hid (quoteP N.W (evsL N.E) k=x.ev.quote):=hid (by rw [HQu.out];rfl)
      have y6:=HF.out.cell 6 (.int .i64 x.ev.quote) rfl
      have z6:=HO.out.cellc layIt 0 6 (by simp) (.int .i64 j0.quote) rfl
      have fz:=HO.out.freec
      have HSet:=hid (HO.out.setc layIt 0 6 (by simp) (by decide) (.int .i64 x.ev.quote) (mkIt {j0 with on:=on,quote:=x.ev.quote}) rfl)
      go_wp2_with fail
      go_meet
      exact ⟨by rw [HR2.out];exact HSet.out,HB.out.setCell (p:=⟨q,6,none⟩) hqB (.int .i64 x.ev.quote)⟩
    case rest =>
     skip
     obtain ⟨hco,hcb⟩:=hcut
     clear HB HO HF
     clear wr
     obtain ⟨wr,hwr⟩:∃ x,x=wc:=⟨_,rfl⟩
     subst hwr
     have HB:=hid hcb
     have HO:=hid hco
     clear hcb hco
     have HF:=hid (HFB.out.now HB.out)
     clear HQu c6
     generalize quoteP N.W (evsL N.E) k=qv at *
     go_upto_region 8 with fail
     go_cut [48] (fun v wx=>v=.bool (sameW N.W 7)∧Below wr.heap.size wr wx)
     case first=>as_aux_lemma =>
      go_wp2_with (first
       | ((with_reducible show wpList _ _ _ (Oper.mk _ (Op.load 86 _) _ _ _ _::_) _ _);refine wpList_load_g rfl 86 (.tmp 2) rfl _ 0 rfl (NetL.cs N).toList _ (HF.out.n.rng) Tryz.underlying86 rfl (by kernel_rfl) ?_)
       | fail)
      refine (foSame_any N 7 (by decide) _ HF.out.n.ok).mono ?_
      rintro e w1 ⟨rfl,hb1⟩
      go_wp2_with fail
      go_meet
      exact ⟨rfl,hb1⟩
     case rest =>
      skip
      obtain ⟨rfl,hcb⟩:=hcut
      have HB1:=hid (HB.out.trans (hcb.mono HB.out.size))
      have HO1:=hid (HO.out.below hcb)
      clear hcb HB HO HF
      clear wr
      obtain ⟨wr,hwr⟩:∃ x,x=wc:=⟨_,rfl⟩
      subst hwr
      have HB:=HB1
      have HO:=HO1
      clear HB1 HO1
      have HF:=hid (HFB.out.now HB.out)
      generalize sameW N.W 7=c7 at *
      go_upto_if 48 with fail
      go_cut [] (fun wx=>OwnL wx wB.heap.size 46 11 ItL.cs (some ⟨q,0,none⟩) gc (mkIt {j0 with on:=on,quote:=qv,who:=whoP N.W (evsL N.E) k}::r0.map mkIt)∧Below wB.heap.size wB wx)
      case first=>as_aux_lemma =>
       have hqB:wB.heap.size≤q:=(HO.out.blk_lt (i:=q) rfl).1
       cases c7
       ·have HR2:Hid (({j0 with on:=on,quote:=qv,who:=whoP N.W (evsL N.E) k}:ItM)={j0 with on:=on,quote:=qv}):=hid (by rw [HWh.out];have h1:=HJ.out.2.1;simp [h1])
        go_wp2_with fail
        go_meet
        exact ⟨by rw [HR2.out];exact HO.out,HB.out⟩
       ·have HR2:Hid (whoP N.W (evsL N.E) k=x.ev.who):=hid (by rw [HWh.out];rfl)
        have y7:=HF.out.cell 7 (.int .i64 x.ev.who) rfl
        have z7:=HO.out.cellc layIt 0 7 (by simp) (.int .i64 j0.who) rfl
        have fz:=HO.out.freec
        have HSet:=hid (HO.out.setc layIt 0 7 (by simp) (by decide) (.int .i64 x.ev.who) (mkIt {j0 with on:=on,quote:=qv,who:=x.ev.who}) rfl)
        go_wp2_with fail
        go_meet
        exact ⟨by rw [HR2.out];exact HSet.out,HB.out.setCell (p:=⟨q,7,none⟩) hqB (.int .i64 x.ev.who)⟩
      case rest =>
       skip
       obtain ⟨hco,hcb⟩:=hcut
       clear HB HO HF
       clear wr
       obtain ⟨wr,hwr⟩:∃ x,x=wc:=⟨_,rfl⟩
       subst hwr
       have HB:=hid hcb
       have HO:=hid hco
       clear hcb hco
       have HF:=hid (HFB.out.now HB.out)
       clear HWh c7
       generalize whoP N.W (evsL N.E) k=wv at *
       have hrx:=right_text (HF.out.n.ok.rt x hx)
       have y10:=HF.out.cell 10 (.slice x.fA x.ev.files.length x.fc) rfl
       have HSh:=hid (foShown_any N x.ev.files x.fA x.fc wr HF.out.n.ok HF.out.ok.ok.fi (by omega))
       clear hrx
       go_wp2_with (first
        | ((with_reducible show wpList _ _ _ (Oper.mk _ (Op.load 86 _) _ _ _ _::_) _ _);refine wpList_load_g rfl 86 (.tmp 2) rfl _ 0 rfl (NetL.cs N).toList _ (HF.out.n.rng) Tryz.underlying86 rfl (by kernel_rfl) ?_)
        | fail)
       refine HSh.out.mono ?_
       rintro e w1 ⟨A2,c2,rfl,ho,hb1⟩
       clear y10
       have HB:=hid (HB.out.trans (hb1.mono HB.out.size))
       have HO:=hid (HO.out.below hb1)
       have hqB:wB.heap.size≤q:=(HO.out.blk_lt (i:=q) rfl).1
       have hqr:q<wr.heap.size:=‹Hid (OwnL wr _ _ _ _ _ _ _)›.out.blk_lt (i:=q) rfl |>.2
       have HOs:=hid ho
       clear ho hb1
       generalize shownP N.p.files N.B x.ev.files=sh at *
       have z10:=HO.out.cellc layIt 0 10 (by simp) (.slice none j0.files.length 0) rfl
       have fz:=HO.out.freec
       have HSet:=hid (HO.out.setc layIt 0 10 (by simp) (by decide) (.slice A2 sh.length c2) ⟨{j0 with on:=on,quote:=qv,who:=wv,files:=sh},A2,c2⟩ rfl)
       have HqB:=hid hqB
       have Hqr:=hid hqr
       have HW1:=HFB.out.n.hb
       have HWB:=hid HW1
       clear HW1 hqB hqr
       go_wp2_with fail
       go_ret
       refine ⟨q,gc,⟨{j0 with on:=on,quote:=qv,who:=wv,files:=sh},A2,c2⟩::r0.map mkIt,?_,⟨HSet.out.mono HWB.out.size,?_,?_,?_⟩,HWB.out.trans ((HB.out.setCell (p:=⟨q,10,none⟩) HqB.out (.slice A2 sh.length c2)).mono HWB.out.size)⟩
       ·rw [HFr.out]
        show _=Ending.returned (.slice _ (r0.length+1) _)
        rw [HLn.out]
        rfl
       ·rw [HFr.out]
        simp only [itsL,List.map_cons,List.map_map]
        exact congrArg _ (List.map_id r0)
       ·intro y hy
        rcases List.mem_cons.1 hy with rfl | hy
        ·refine ⟨(HOs.out.rd intLayV).turn (fun i hi _=>heap_setCell_other w1 ⟨q,10,none⟩ i _ (by have:=(HOs.out.blk_lt hi).1;have:=Hqr.out;show i≠q;omega)) (by simp [World.setCell]),HOs.out.len_le⟩
        ·obtain ⟨z,hz,rfl⟩:=List.mem_map.1 hy
         have hz2:=HJr.out z (List.mem_cons_of_mem _ hz)
         refine ⟨?_,?_⟩
         ·show RdI _ _ none z.files
          rw [hz2]
          exact RdL.nil_
         ·show z.files.length≤0
          rw [hz2]
          exact Nat.le_refl 0
       ·intro y hy i hi
        rcases List.mem_cons.1 hy with rfl | hy
        ·have h1:=(HOs.out.blk_lt hi).1
         have h3:=Hqr.out
         have h4:=HqB.out
         have h5:=HWB.out.size
         refine ⟨by omega,fun he=>?_⟩
         have h2:q=i:=Option.some.inj he
         omega
        ·obtain ⟨z,hz,rfl⟩:=List.mem_map.1 hy
         cases hi
end Go.Proofs.YtlnnjdibkbabiaaGreatDoor
