/- Contracts and plain laws, joined: BkF. -/
import Derived.Test.YtlnnjdibkbabiaaGreatDoorQbc
/- Contract of small of lingualaw23. -/
set_option linter.unusedSimpArgs false
set_option linter.unusedVariables false
namespace Go.Proofs.YtlnnjdibkbabiaaGreatDoor
open _root_.Go.Lib (hid)
open Go.RowKit
def thePair:Pair:=⟨0,7,3,0⟩
def hiS:ByteArray:=⟨#[104,105]⟩
def raw1:RawM:=⟨12,0,0,0,-1,7,-1,0,hiS,[]⟩
def raw2:RawM:=⟨12,0,0,0,-1,8,-1,0,hiS,[]⟩
def raw3:RawM:=⟨12,0,0,0,7,7,-1,0,hiS,[]⟩
def raw4:RawM:=⟨12,0,0,0,-1,7,-1,0,zstr 901,[]⟩
def raw5:RawM:=⟨13,0,0,0,-1,7,-1,0,hiS,[]⟩
def raw6:RawM:=⟨12,0,5,0,0,0,24,0,ByteArray.empty,[]⟩
def raw7:RawM:=⟨12,0,5,0,0,0,-1,0,ByteArray.empty,[]⟩
def ev1:EvM:=⟨12,0,[],0,0,-1,3,-1,0,hiS,[],5⟩
def ev6:EvM:=⟨12,0,[],5,0,-1,-1,24,0,ByteArray.empty,[],5⟩
theorem sb1:(backS mailBP [thePair] 0 raw1 5).2=0:=by decide +kernel
theorem sb2:(backS mailBP [thePair] 0 raw2 5).2=4:=by decide +kernel
theorem sb3:(backS mailBP [thePair] 0 raw3 5).2=7:=by decide +kernel
theorem sb4:(backS mailBP [thePair] 0 raw4 5).2=6:=by decide +kernel
theorem sb5:(backS mailBP [thePair] 0 raw5 5).2=1:=by decide +kernel
theorem sb6:(backS mailBP [thePair] 0 raw6 5).2=0:=by decide +kernel
theorem sb7:(backS mailBP [thePair] 0 raw7 5).2=2:=by decide +kernel
theorem se1:sameE (backS mailBP [thePair] 0 raw1 5).1 ev1=true:=by decide +kernel
theorem se6:sameE (backS mailBP [thePair] 0 raw6 5).1 ev6=true:=by decide +kernel
theorem sc1:(backS mailBP [thePair] 0 raw1 5).1=ev1:=(sameE_iff _ _).1 se1
theorem sc6:(backS mailBP [thePair] 0 raw6 5).1=ev6:=(sameE_iff _ _).1 se6
theorem mailOk {w:World} {A:Option Addr} (h:RdS w w.heap.size A mailBP.types):ProfOk w w.heap.size A mailBP:=⟨h,by decide,by decide,by decide⟩
structure SmW (w:World) (bP bR:Nat) (r:RawM) (W:World):Prop where
 b:Below w.heap.size w W
 p:W.heap[bP]?=some (.cells #[.int .i64 0,.int .i64 7,.int .i64 3,.int .i64 0] 56 (0,0))
 r:W.heap[bR]?=some (.cells (r.cs none 0) 48 (0,0))
 lp:w.heap.size≤bP
 lr:w.heap.size≤bR
 ne:bP≠bR
section
variable {w W W':World} {bP bR:Nat} {r:RawM}
theorem SmW.below (h:SmW w bP bR r W) (hb:Below W.heap.size W W'):SmW w bP bR r W' :=
 ⟨h.b.trans (hb.mono h.b.size),(hb.block bP (box_lt h.p)).trans h.p,(hb.block bR (box_lt h.r)).trans h.r,h.lp,h.lr,h.ne⟩
theorem SmW.set (h:SmW w bP bR r W) (r':RawM) (j:Nat) (v:Value) (hv:(r.cs none 0).setIfInBounds j v=r'.cs none 0):SmW w bP bR r' (W.setCell ⟨bR,j,none⟩ v) :=
 ⟨h.b.setCell (p:=⟨bR,j,none⟩) h.lr v,(heap_setCell_other _ _ _ _ h.ne).trans h.p,by rw [← hv];exact heap_setCell_same _ _ _ _ _ _ h.r,h.lp,h.lr,h.ne⟩
theorem SmW.fresh (h:SmW w bP bR r W) (r':RawM) {bJ:Nat} (hr:W.heap[bJ]?=some (.cells (r'.cs none 0) 48 (0,0))) (hl:w.heap.size≤bJ) (hn:bP≠bJ):SmW w bP bJ r' W:=⟨h.b,h.p,hr,h.lp,hl,hn⟩
theorem SmW.rdp (h:SmW w bP bR r W):RdP W W.heap.size (some ⟨bP,0,none⟩) [thePair]:=by
 intro k x hx
 have hk:k=0:=by have:=(List.getElem?_eq_some_iff.1 hx).1;simp at this;omega
 subst hk
 obtain rfl:thePair=x:=by simpa using hx
 refine ⟨bP,0,rfl,box_lt h.p,fun j v hj=>?_⟩
 have:W.cell? ⟨bP,j,none⟩=some v:=box_cell h.p j v (by
  rw [← Array.getElem?_toList]
  exact hj)
 simpa using this
theorem SmW.raw (h:SmW w bP bR r W):W.rangeAt bR 0 (r.cs none 0).toList:=range_block h.r rfl
end
theorem rawOk0 {w:World} {r:RawM} (h:r.files=[]) (ht:r.text.size≤9223372036854775807):RawOk w w.heap.size none 0 r:=⟨by rw [h];exact RdL.nil_,by rw [h];simp,ht⟩
def EvPost (bs:EvM × Int) (W:World) (v u:Value) (wx:World):Prop :=
 Below W.heap.size W wx∧u=.int .i64 bs.2∧∃ be fA fc,v=.pointer (some ⟨be,0,none⟩)∧W.heap.size≤be∧wx.heap[be]?=some (.cells (bs.1.cs none 0 fA fc) 40 (0,0))∧RdI wx wx.heap.size fA bs.1.files∧bs.1.files.length≤fc
theorem setCells_row {b:Nat} {t:TypeId}:∀ (vs:List Value) (o:Nat) (w:World) (cs:Array Value),w.heap[b]?=some (.cells cs t (0,0))→o+vs.length≤cs.size →
  (w.setCells b o vs).heap[b]?=some (.cells (cs.toList.take o++vs++cs.toList.drop (o+vs.length)).toArray t (0,0))
 | [],o,w,cs,h,_=>by
  rw [World.setCells,List.append_nil,List.length_nil,Nat.add_zero,List.take_append_drop]
  exact h
 | v::r,o,w,cs,h,hl=>by
  have h1:=heap_setCell_same w b o cs t v h
  have h2:=setCells_row r (o+1) _ _ h1 (by simp at hl ⊢;omega)
  rw [World.setCells]
  rw [h2]
  have e:=list_seg_step cs.toList o v r (by simp at hl ⊢;omega)
  simp only [Array.toList_setIfInBounds] at *
  congr 3
theorem step_store_box {P:Program} {w:World} {ops:Array Oper} {o:Oper} {a:Act} {K:Act→World→Prop} {Q:Exit→Act→World→Prop} {E:Prop} (hgd:o.guard=none) (ty:TypeId) (x y:Operand) (ho:o.op=.store ty x y)
  (b:Nat) (cells:Array Value) (hx:a.eval x=.pointer (some ⟨b,0,none⟩)) (hy:a.eval y=.agg cells)
  (ht:w.there b 0 cells.size) (hi:(P.info? ty).map (·.size)=some cells.size) (h1:cells.all (·.oneCell')=true)
  (h:K (a.put o.dst undef) (w.setCells b 0 cells.toList)):if Region.wanted o (yielded ops a.tmps)=true then Oper.wp P o a w K Q else E:=by
 have hw:Region.wanted o (yielded ops a.tmps)=true:=by simp [Region.wanted,hgd]
 rw [if_pos hw]
 exact wp_store_mid ty x y ho b 0 cells hx hy ht hi h1 h
theorem zero_there {w:World} {b:Nat} (h:w.heap[b]?=some (.cells zeroE 40 (0,0))):w.there b 0 12:=by
 intro j hj
 rw [Nat.zero_add]
 refine ⟨?_,box_free h j⟩
 unfold World.cell?
 simp [h,zeroE]
 omega
theorem zero_row {w:World} {b:Nat} (h:w.heap[b]?=some (.cells zeroE 40 (0,0))) (e:EvM) (cA:Option Addr) (cc:Nat) (fA:Option Addr) (fc:Nat):(w.setCells b 0 (e.cs cA cc fA fc).toList).heap[b]?=some (.cells (e.cs cA cc fA fc) 40 (0,0)):=by
 rw [setCells_row _ 0 w zeroE h (by simp [zeroE])]
 simp [zeroE]
set_option maxRecDepth 100000 in
set_option maxHeartbeats 16000000 in
theorem lSmallB_any (w:World):Calls Tryz.prog 8 #[] w fun e w'=>e=.returned (.bool true)∧Below w.heap.size w w':=by
 go_enter Tryz.func8,Tryz.ntmps8
 go_upto_region 3 with fail
 obtain ⟨W,hW⟩:∃ W,W=(w.alloc (.cells #[.int .i64 0,.int .i64 7,.int .i64 3,.int .i64 0] 56)).alloc (.cells (raw1.cs none 0) 48):=⟨_,rfl⟩
 obtain ⟨bP,hbP⟩:∃ b,b=w.heap.size:=⟨_,rfl⟩
 obtain ⟨bR,hbR⟩:∃ b,b=w.heap.size+1:=⟨_,rfl⟩
 have HSm:Hid (SmW w bP bR raw1 W):=hid (by
  rw [hW,hbP,hbR]
  refine ⟨by repeat (first | with_reducible exact Below.refl _ _ | with_reducible assumption | with_reducible refine Below.drew ?_ | with_reducible refine Below.alloc ?_ (by first | omega | (simp;done) | (simp;omega)) _),?_,?_,Nat.le_refl _,by omega,by omega⟩
  ·rw [Below.heap_alloc _ _ _ (by simp)]
   exact (MapKept.heap_alloc w _).1
  ·exact (by simpa using (MapKept.heap_alloc (w.alloc (.cells #[.int .i64 0,.int .i64 7,.int .i64 3,.int .i64 0] 56)) (.cells (raw1.cs none 0) 48)).1))
 have hW':(w.alloc (.cells #[.int .i64 0,.int .i64 7,.int .i64 3,.int .i64 0] 56)).alloc (.cells #[.int .i64 12,.int .i64 0,.int .i64 0,.int .i64 0,.int .i64 (-1),.int .i64 7,.int .i64 (-1),.int .i64 0,.string ⟨#[104,105]⟩,.slice none 0 0] 48)=W:=hW.symm
 rw [hW',← hbR,← hbP]
 clear hW hW' hbP hbR
 go_cut [3,4] (fun v u wx=>EvPost (backS mailBP [thePair] 0 raw1 5) W v u wx)
 case first =>
  obtain ⟨bs,hbs⟩:∃ b,b=backS mailBP [thePair] 0 raw1 5:=⟨_,rfl⟩
  have HBs:=hid hbs
  clear hbs
  have HRS:=hid (show ∀ w',Below W.heap.size W w'→w'.rangeAt bR 0 ((raw1).cs none 0).toList from fun w' h=>(HSm.out.below h).raw)
  go_wp2_with fail
  refine wp_region_held_drew (S:=fun w'=>Below W.heap.size W w') (by kernel_rfl) ((Below.refl _ _).drew) (fun hHeld=>?_)
  obtain ⟨Wd,hWd⟩:∃ x,x=W.drew:=⟨_,rfl⟩
  rw [← hWd] at hHeld ⊢
  clear hWd
  refine wpAnyH_take (i:=1) (v:=?_) rfl (by kernel_rfl) (by kernel_rfl) (by kernel_rfl) (fun _ _ _ h=>h) (Or.inl ⟨by rfl,?_⟩) (by assumption) ?_
  rotate_left
  ·intro wq hSw
   go_simp
   try with_reducible rfl
  simp only [Act.put,sA,sB,sC,sD,sE,sF]
  refine' wpAnyH_take (i:=2) rfl (by kernel_rfl) (by kernel_rfl) (by kernel_rfl) (fun _ _ _ h=>h) (yieldsIf_load_mid (by rfl) _ _ rfl _ _ rfl _ _ HRS.out Tryz.underlying48 rfl (by kernel_rfl)) (by assumption) ?_
  simp only [Act.put,sA,sB,sC,sD,sE,sF]
  refine wpAnyH_ready (rs:=[0,7]) (by kernel_rfl) (by simp) ?_
  refine AllReadyH.cons rfl (fun K hK=>?_) (AllReadyH.cons rfl (fun K hK=>?_) AllReadyH.nil)
  ·skip
   go_simp
   refine (lMail_any _).mono ?_
   rintro en wm ⟨hbm,mA,rfl,hmr⟩
   have HMr:=hid hmr
   have HWm:=hid (hHeld.trans (hbm.mono hHeld.size))
   go_wp2_with fail
   refine hK.out _ _ HWm.out ?_
   clear hK K hHeld hmr
   intro hHeld
   refine wpAnyH_ready (rs:=[3,7]) (by kernel_rfl) (by simp) ?_
   refine AllReadyH.cons rfl (fun K hK=>?_) (AllReadyH.cons rfl (fun K hK=>?_) AllReadyH.nil)
   ·skip
    go_simp
    refine (bBack_any mailBP mA 1 [thePair] (some ⟨bP,0,none⟩) 1 1 0 raw1 none 0 5 _ rfl (mailOk (HMr.out)) (by decide) ((HSm.out.below hHeld).rdp) (by decide) (rawOk0 rfl (by decide +kernel)) (by decide)).mono ?_
    rintro en wb ⟨hbb,fA,fc,rfl,hf,hfl,hfb⟩
    simp only [← HBs.out] at hf hfl ⊢
    have HFb:=hid hfb
    have HRf:=hid hf
    have HFl:=hid hfl
    have HWb:=hid (hHeld.trans (hbb.mono hHeld.size))
    have HBb:=hid hbb
    go_wp2_with fail
    refine hK.out _ _ HWb.out ?_
    clear hK K hHeld hf hfl hbb hfb
    intro hHeld
    refine wpAnyH_take (i:=4) (v:=?_) rfl (by kernel_rfl) (by kernel_rfl) (by kernel_rfl) (fun _ _ _ h=>h) (Or.inl ⟨by rfl,?_⟩) (by assumption) ?_
    rotate_left
    ·intro wq hSw
     go_simp
     try with_reducible rfl
    simp only [Act.put,sA,sB,sC,sD,sE,sF]
    refine wpAnyH_take (i:=5) (v:=?_) rfl (by kernel_rfl) (by kernel_rfl) (by kernel_rfl) (fun _ _ _ h=>h) (Or.inl ⟨by rfl,?_⟩) (by assumption) ?_
    rotate_left
    ·intro wq hSw
     go_simp
     try with_reducible rfl
    simp only [Act.put,sA,sB,sC,sD,sE,sF]
    refine wpAnyH_take (i:=6) (v:=?_) rfl (by kernel_rfl) (by kernel_rfl) (by kernel_rfl) (fun _ _ _ h=>h) (Or.inl ⟨by rfl,?_⟩) (by assumption) ?_
    rotate_left
    ·intro wq hSw
     go_simp
     try with_reducible rfl
    simp only [Act.put,sA,sB,sC,sD,sE,sF]
    refine wpAnyH_ready (rs:=[7]) (by kernel_rfl) (by simp) ?_
    refine AllReadyH.cons rfl (fun K hK=>?_) AllReadyH.nil
    go_simp
    obtain ⟨wa,hwa⟩:∃ x,x=(wb).alloc (.cells zeroE 40):=⟨_,rfl⟩
    have hba:Below (wb).heap.size wb wa:=by rw [hwa];exact (Below.refl _ _).alloc (Nat.le_refl _) _
    have hze:wa.heap[(wb).heap.size]?=some (.cells zeroE 40 (0,0)):=by rw [hwa];exact (MapKept.heap_alloc _ _).1
    have HZe:=hid hze
    have HBa:=hid hba
    refine (hK.out _ _ (hHeld.alloc hHeld.size _) ?_)
    have hHa:Below W.heap.size W wa:=hHeld.trans (hba.mono hHeld.size)
    have hlo:=hHeld.size
    clear hK K hHeld
    intro hHeld
    have hwa':(wb).alloc (.cells #[.int .i64 0,.int .i64 0,.slice none 0 0,.int .i64 0,.int .i64 0,.int .i64 0,.int .i64 0,.int .i64 0,.int .i64 0,.string ⟨#[]⟩,.slice none 0 0,.int .i64 0] 40)=wa:=hwa.symm
    rw [hwa'] at hHeld ⊢
    obtain ⟨be,hbe⟩:∃ b,b=(wb).heap.size:=⟨_,rfl⟩
    rw [← hbe] at HZe
    rw [← hbe]
    have hbe0:W.heap.size≤be:=by omega
    clear hwa hwa' hba hze hHa
    have HZ:=HZe
    refine wpAnyH_ready (rs:=[8]) (by kernel_rfl) (by simp) ?_
    refine AllReadyH.cons rfl (fun K hK=>?_) AllReadyH.nil
    refine step_store_box rfl 40 _ _ rfl be (bs.1.cs none 0 fA fc) (by first | rfl | (rw [hbe];rfl)) rfl (zero_there HZ.out) (by kernel_rfl) (evOne bs.1 none 0 fA fc) ?_
    obtain ⟨ws,hws⟩:∃ x,x=World.setCells wa be 0 (bs.1.cs none 0 fA fc).toList:=⟨_,rfl⟩
    have hrow:=zero_row HZ.out bs.1 none 0 fA fc
    have hgs:=grown_setCells wa be 0 (bs.1.cs none 0 fA fc).toList
    rw [← hws] at hrow hgs ⊢
    have HRow:=hid hrow
    have HGs:=hid hgs
    have HWs:Hid (Below W.heap.size W ws):=hid (hHeld.grown hgs (by have:=hHeld.size;omega) (fun k hk=>by injection hk with hk;omega))
    refine hK.out _ _ HWs.out ?_
    clear hK K hHeld hws hrow hgs
    intro hHeld
    refine wpAnyH_take (i:=9) (v:=?_) rfl (by kernel_rfl) (by kernel_rfl) (by kernel_rfl) (fun _ _ _ h=>h) (Or.inl ⟨by rfl,?_⟩) (by assumption) ?_
    rotate_left
    ·intro wq hSw
     go_simp
     try with_reducible rfl
    simp only [Act.put,sA,sB,sC,sD,sE,sF]
    refine wpAnyH_done (by kernel_rfl) ?_ _
    clear hHeld
    go_wp2
    go_meet
    rw [← HBs.out]
    exact ⟨HWs.out,rfl,be,fA,fc,(by first | rfl | (rw [hbe];done)),hbe0,HRow.out,HRf.out.now (HBa.out.grown HGs.out HBa.out.size (fun k hk=>by have:=Option.some.inj hk;omega)),HFl.out⟩
   ·skip
    go_simp
    obtain ⟨wa,hwa⟩:∃ x,x=(wm).alloc (.cells zeroE 40):=⟨_,rfl⟩
    have hba:Below (wm).heap.size wm wa:=by rw [hwa];exact (Below.refl _ _).alloc (Nat.le_refl _) _
    have hze:wa.heap[(wm).heap.size]?=some (.cells zeroE 40 (0,0)):=by rw [hwa];exact (MapKept.heap_alloc _ _).1
    have HZe:=hid hze
    have HBa:=hid hba
    refine (hK.out _ _ (hHeld.alloc hHeld.size _) ?_)
    have hHa:Below W.heap.size W wa:=hHeld.trans (hba.mono hHeld.size)
    have hlo:=hHeld.size
    clear hK K hHeld
    intro hHeld
    have hwa':(wm).alloc (.cells #[.int .i64 0,.int .i64 0,.slice none 0 0,.int .i64 0,.int .i64 0,.int .i64 0,.int .i64 0,.int .i64 0,.int .i64 0,.string ⟨#[]⟩,.slice none 0 0,.int .i64 0] 40)=wa:=hwa.symm
    rw [hwa'] at hHeld ⊢
    obtain ⟨be,hbe⟩:∃ b,b=(wm).heap.size:=⟨_,rfl⟩
    rw [← hbe] at HZe
    rw [← hbe]
    have hbe0:W.heap.size≤be:=by omega
    clear hwa hwa' hba hze hHa
    refine wpAnyH_ready (rs:=[3]) (by kernel_rfl) (by simp) ?_
    refine AllReadyH.cons rfl (fun K hK=>?_) AllReadyH.nil
    go_simp
    refine (bBack_any mailBP mA 1 [thePair] (some ⟨bP,0,none⟩) 1 1 0 raw1 none 0 5 _ rfl (mailOk ((HMr.out.now HBa.out))) (by decide) ((HSm.out.below hHeld).rdp) (by decide) (rawOk0 rfl (by decide +kernel)) (by decide)).mono ?_
    rintro en wb ⟨hbb,fA,fc,rfl,hf,hfl,hfb⟩
    simp only [← HBs.out] at hf hfl ⊢
    have HFb:=hid hfb
    have HRf:=hid hf
    have HFl:=hid hfl
    have HWb:=hid (hHeld.trans (hbb.mono hHeld.size))
    have HBb:=hid hbb
    go_wp2_with fail
    refine hK.out _ _ HWb.out ?_
    clear hK K hHeld hf hfl hbb hfb
    intro hHeld
    refine wpAnyH_take (i:=4) (v:=?_) rfl (by kernel_rfl) (by kernel_rfl) (by kernel_rfl) (fun _ _ _ h=>h) (Or.inl ⟨by rfl,?_⟩) (by assumption) ?_
    rotate_left
    ·intro wq hSw
     go_simp
     try with_reducible rfl
    simp only [Act.put,sA,sB,sC,sD,sE,sF]
    refine wpAnyH_take (i:=5) (v:=?_) rfl (by kernel_rfl) (by kernel_rfl) (by kernel_rfl) (fun _ _ _ h=>h) (Or.inl ⟨by rfl,?_⟩) (by assumption) ?_
    rotate_left
    ·intro wq hSw
     go_simp
     try with_reducible rfl
    simp only [Act.put,sA,sB,sC,sD,sE,sF]
    refine wpAnyH_take (i:=6) (v:=?_) rfl (by kernel_rfl) (by kernel_rfl) (by kernel_rfl) (fun _ _ _ h=>h) (Or.inl ⟨by rfl,?_⟩) (by assumption) ?_
    rotate_left
    ·intro wq hSw
     go_simp
     try with_reducible rfl
    simp only [Act.put,sA,sB,sC,sD,sE,sF]
    have HZ:=hid ((HBb.out.block be (box_lt HZe.out)).trans HZe.out)
    have hbw:=box_lt HZe.out
    refine wpAnyH_ready (rs:=[8]) (by kernel_rfl) (by simp) ?_
    refine AllReadyH.cons rfl (fun K hK=>?_) AllReadyH.nil
    refine step_store_box rfl 40 _ _ rfl be (bs.1.cs none 0 fA fc) (by first | rfl | (rw [hbe];rfl)) rfl (zero_there HZ.out) (by kernel_rfl) (evOne bs.1 none 0 fA fc) ?_
    obtain ⟨ws,hws⟩:∃ x,x=World.setCells wb be 0 (bs.1.cs none 0 fA fc).toList:=⟨_,rfl⟩
    have hrow:=zero_row HZ.out bs.1 none 0 fA fc
    have hgs:=grown_setCells wb be 0 (bs.1.cs none 0 fA fc).toList
    rw [← hws] at hrow hgs ⊢
    have HRow:=hid hrow
    have HGs:=hid hgs
    have HWs:Hid (Below W.heap.size W ws):=hid (hHeld.grown hgs (by have:=hHeld.size;omega) (fun k hk=>by injection hk with hk;omega))
    refine hK.out _ _ HWs.out ?_
    clear hK K hHeld hws hrow hgs
    intro hHeld
    refine wpAnyH_take (i:=9) (v:=?_) rfl (by kernel_rfl) (by kernel_rfl) (by kernel_rfl) (fun _ _ _ h=>h) (Or.inl ⟨by rfl,?_⟩) (by assumption) ?_
    rotate_left
    ·intro wq hSw
     go_simp
     try with_reducible rfl
    simp only [Act.put,sA,sB,sC,sD,sE,sF]
    refine wpAnyH_done (by kernel_rfl) ?_ _
    clear hHeld
    go_wp2
    go_meet
    rw [← HBs.out]
    exact ⟨HWs.out,rfl,be,fA,fc,(by first | rfl | (rw [hbe];done)),hbe0,HRow.out,HRf.out.turn (fun i hi hl=>HGs.out.block i hl (fun e=>by have:=HFb.out i hi;have:=Option.some.inj e;omega)) HGs.out.size,HFl.out⟩
  ·skip
   go_simp
   obtain ⟨wa,hwa⟩:∃ x,x=(Wd).alloc (.cells zeroE 40):=⟨_,rfl⟩
   have hba:Below (Wd).heap.size Wd wa:=by rw [hwa];exact (Below.refl _ _).alloc (Nat.le_refl _) _
   have hze:wa.heap[(Wd).heap.size]?=some (.cells zeroE 40 (0,0)):=by rw [hwa];exact (MapKept.heap_alloc _ _).1
   have HZe:=hid hze
   have HBa:=hid hba
   refine (hK.out _ _ (hHeld.alloc hHeld.size _) ?_)
   have hHa:Below W.heap.size W wa:=hHeld.trans (hba.mono hHeld.size)
   have hlo:=hHeld.size
   clear hK K hHeld
   intro hHeld
   have hwa':(Wd).alloc (.cells #[.int .i64 0,.int .i64 0,.slice none 0 0,.int .i64 0,.int .i64 0,.int .i64 0,.int .i64 0,.int .i64 0,.int .i64 0,.string ⟨#[]⟩,.slice none 0 0,.int .i64 0] 40)=wa:=hwa.symm
   rw [hwa'] at hHeld ⊢
   obtain ⟨be,hbe⟩:∃ b,b=(Wd).heap.size:=⟨_,rfl⟩
   rw [← hbe] at HZe
   rw [← hbe]
   have hbe0:W.heap.size≤be:=by omega
   clear hwa hwa' hba hze hHa
   refine wpAnyH_ready (rs:=[0]) (by kernel_rfl) (by simp) ?_
   refine AllReadyH.cons rfl (fun K hK=>?_) AllReadyH.nil
   go_simp
   refine (lMail_any _).mono ?_
   rintro en wm ⟨hbm,mA,rfl,hmr⟩
   have HMr:=hid hmr
   have HWm:=hid (hHeld.trans (hbm.mono hHeld.size))
   go_wp2_with fail
   refine hK.out _ _ HWm.out ?_
   clear hK K hHeld hmr
   intro hHeld
   refine wpAnyH_ready (rs:=[3]) (by kernel_rfl) (by simp) ?_
   refine AllReadyH.cons rfl (fun K hK=>?_) AllReadyH.nil
   have HZm:=hid ((hbm.block be (box_lt HZe.out)).trans HZe.out)
   have hbw:=box_lt HZm.out
   go_simp
   refine (bBack_any mailBP mA 1 [thePair] (some ⟨bP,0,none⟩) 1 1 0 raw1 none 0 5 _ rfl (mailOk (HMr.out)) (by decide) ((HSm.out.below hHeld).rdp) (by decide) (rawOk0 rfl (by decide +kernel)) (by decide)).mono ?_
   rintro en wb ⟨hbb,fA,fc,rfl,hf,hfl,hfb⟩
   simp only [← HBs.out] at hf hfl ⊢
   have HFb:=hid hfb
   have HRf:=hid hf
   have HFl:=hid hfl
   have HWb:=hid (hHeld.trans (hbb.mono hHeld.size))
   have HBb:=hid hbb
   go_wp2_with fail
   refine hK.out _ _ HWb.out ?_
   clear hK K hHeld hf hfl hbb hfb
   intro hHeld
   refine wpAnyH_take (i:=4) (v:=?_) rfl (by kernel_rfl) (by kernel_rfl) (by kernel_rfl) (fun _ _ _ h=>h) (Or.inl ⟨by rfl,?_⟩) (by assumption) ?_
   rotate_left
   ·intro wq hSw
    go_simp
    try with_reducible rfl
   simp only [Act.put,sA,sB,sC,sD,sE,sF]
   refine wpAnyH_take (i:=5) (v:=?_) rfl (by kernel_rfl) (by kernel_rfl) (by kernel_rfl) (fun _ _ _ h=>h) (Or.inl ⟨by rfl,?_⟩) (by assumption) ?_
   rotate_left
   ·intro wq hSw
    go_simp
    try with_reducible rfl
   simp only [Act.put,sA,sB,sC,sD,sE,sF]
   refine wpAnyH_take (i:=6) (v:=?_) rfl (by kernel_rfl) (by kernel_rfl) (by kernel_rfl) (fun _ _ _ h=>h) (Or.inl ⟨by rfl,?_⟩) (by assumption) ?_
   rotate_left
   ·intro wq hSw
    go_simp
    try with_reducible rfl
   simp only [Act.put,sA,sB,sC,sD,sE,sF]
   have HZ:=hid ((HBb.out.block be (box_lt HZm.out)).trans HZm.out)
   refine wpAnyH_ready (rs:=[8]) (by kernel_rfl) (by simp) ?_
   refine AllReadyH.cons rfl (fun K hK=>?_) AllReadyH.nil
   refine step_store_box rfl 40 _ _ rfl be (bs.1.cs none 0 fA fc) (by first | rfl | (rw [hbe];rfl)) rfl (zero_there HZ.out) (by kernel_rfl) (evOne bs.1 none 0 fA fc) ?_
   obtain ⟨ws,hws⟩:∃ x,x=World.setCells wb be 0 (bs.1.cs none 0 fA fc).toList:=⟨_,rfl⟩
   have hrow:=zero_row HZ.out bs.1 none 0 fA fc
   have hgs:=grown_setCells wb be 0 (bs.1.cs none 0 fA fc).toList
   rw [← hws] at hrow hgs ⊢
   have HRow:=hid hrow
   have HGs:=hid hgs
   have HWs:Hid (Below W.heap.size W ws):=hid (hHeld.grown hgs (by have:=hHeld.size;omega) (fun k hk=>by injection hk with hk;omega))
   refine hK.out _ _ HWs.out ?_
   clear hK K hHeld hws hrow hgs
   intro hHeld
   refine wpAnyH_take (i:=9) (v:=?_) rfl (by kernel_rfl) (by kernel_rfl) (by kernel_rfl) (fun _ _ _ h=>h) (Or.inl ⟨by rfl,?_⟩) (by assumption) ?_
   rotate_left
   ·intro wq hSw
    go_simp
    try with_reducible rfl
   simp only [Act.put,sA,sB,sC,sD,sE,sF]
   refine wpAnyH_done (by kernel_rfl) ?_ _
   clear hHeld
   go_wp2
   go_meet
   rw [← HBs.out]
   exact ⟨HWs.out,rfl,be,fA,fc,(by first | rfl | (rw [hbe];done)),hbe0,HRow.out,HRf.out.turn (fun i hi hl=>HGs.out.block i hl (fun e=>by have:=HFb.out i hi;have:=Option.some.inj e;omega)) HGs.out.size,HFl.out⟩
 case' rest=>obtain ⟨hb5,rfl,beA,gA,gc,rfl,hbe,hrow,hri,hrl⟩:=hcut
 rw [sc1] at hrow
 rw [sb1]
 have hbR:=box_lt HSm.out.r
 have hneA:beA≠bR:=by omega
 have HEa:=hid hrow
 have HSm:=hid (HSm.out.below hb5)
 clear hrow hri hrl hb5 hbe
 have rb:=HSm.out.r
 have bj:=box_cell rb 5 _ rfl
 have bz:=fun i=>box_free rb i
 go_upto_region 5 with fail
 obtain ⟨Wn,hWn⟩:∃ x,x=(wc).setCell ⟨bR,5,none⟩ (.int .i64 8):=⟨_,rfl⟩
 have HSn:=hid (HSm.out.set raw2 5 (.int .i64 8) rfl)
 rw [← hWn] at HSn ⊢
 have HEn:Hid (∀ i o,i≠bR→(wc).heap[i]?=some o→Wn.heap[i]?=some o):=hid (fun i o hi h=>by rw [hWn];exact (heap_setCell_other _ _ _ _ hi).trans h)
 clear rb bj bz hWn HSm
 have HSm:=HSn
 clear HSn
 have HEa:=hid (HEn.out _ _ hneA HEa.out)
 clear HEn
 obtain ⟨W,hW⟩:∃ x,x=Wn:=⟨_,rfl⟩
 subst hW
 go_cut [5,6] (fun v u wx=>EvPost (backS mailBP [thePair] 0 raw2 5) W v u wx)
 case first =>
  obtain ⟨bs,hbs⟩:∃ b,b=backS mailBP [thePair] 0 raw2 5:=⟨_,rfl⟩
  have HBs:=hid hbs
  clear hbs
  have HRS:=hid (show ∀ w',Below W.heap.size W w'→w'.rangeAt bR 0 ((raw2).cs none 0).toList from fun w' h=>(HSm.out.below h).raw)
  go_wp2_with fail
  refine wp_region_held_drew (S:=fun w'=>Below W.heap.size W w') (by kernel_rfl) ((Below.refl _ _).drew) (fun hHeld=>?_)
  obtain ⟨Wd,hWd⟩:∃ x,x=W.drew:=⟨_,rfl⟩
  rw [← hWd] at hHeld ⊢
  clear hWd
  refine wpAnyH_take (i:=1) (v:=?_) rfl (by kernel_rfl) (by kernel_rfl) (by kernel_rfl) (fun _ _ _ h=>h) (Or.inl ⟨by rfl,?_⟩) (by assumption) ?_
  rotate_left
  ·intro wq hSw
   go_simp
   try with_reducible rfl
  simp only [Act.put,sA,sB,sC,sD,sE,sF]
  refine' wpAnyH_take (i:=2) rfl (by kernel_rfl) (by kernel_rfl) (by kernel_rfl) (fun _ _ _ h=>h) (yieldsIf_load_mid (by rfl) _ _ rfl _ _ rfl _ _ HRS.out Tryz.underlying48 rfl (by kernel_rfl)) (by assumption) ?_
  simp only [Act.put,sA,sB,sC,sD,sE,sF]
  refine wpAnyH_ready (rs:=[0,7]) (by kernel_rfl) (by simp) ?_
  refine AllReadyH.cons rfl (fun K hK=>?_) (AllReadyH.cons rfl (fun K hK=>?_) AllReadyH.nil)
  ·skip
   go_simp
   refine (lMail_any _).mono ?_
   rintro en wm ⟨hbm,mA,rfl,hmr⟩
   have HMr:=hid hmr
   have HWm:=hid (hHeld.trans (hbm.mono hHeld.size))
   go_wp2_with fail
   refine hK.out _ _ HWm.out ?_
   clear hK K hHeld hmr
   intro hHeld
   refine wpAnyH_ready (rs:=[3,7]) (by kernel_rfl) (by simp) ?_
   refine AllReadyH.cons rfl (fun K hK=>?_) (AllReadyH.cons rfl (fun K hK=>?_) AllReadyH.nil)
   ·skip
    go_simp
    refine (bBack_any mailBP mA 1 [thePair] (some ⟨bP,0,none⟩) 1 1 0 raw2 none 0 5 _ rfl (mailOk (HMr.out)) (by decide) ((HSm.out.below hHeld).rdp) (by decide) (rawOk0 rfl (by decide +kernel)) (by decide)).mono ?_
    rintro en wb ⟨hbb,fA,fc,rfl,hf,hfl,hfb⟩
    simp only [← HBs.out] at hf hfl ⊢
    have HFb:=hid hfb
    have HRf:=hid hf
    have HFl:=hid hfl
    have HWb:=hid (hHeld.trans (hbb.mono hHeld.size))
    have HBb:=hid hbb
    go_wp2_with fail
    refine hK.out _ _ HWb.out ?_
    clear hK K hHeld hf hfl hbb hfb
    intro hHeld
    refine wpAnyH_take (i:=4) (v:=?_) rfl (by kernel_rfl) (by kernel_rfl) (by kernel_rfl) (fun _ _ _ h=>h) (Or.inl ⟨by rfl,?_⟩) (by assumption) ?_
    rotate_left
    ·intro wq hSw
     go_simp
     try with_reducible rfl
    simp only [Act.put,sA,sB,sC,sD,sE,sF]
    refine wpAnyH_take (i:=5) (v:=?_) rfl (by kernel_rfl) (by kernel_rfl) (by kernel_rfl) (fun _ _ _ h=>h) (Or.inl ⟨by rfl,?_⟩) (by assumption) ?_
    rotate_left
    ·intro wq hSw
     go_simp
     try with_reducible rfl
    simp only [Act.put,sA,sB,sC,sD,sE,sF]
    refine wpAnyH_take (i:=6) (v:=?_) rfl (by kernel_rfl) (by kernel_rfl) (by kernel_rfl) (fun _ _ _ h=>h) (Or.inl ⟨by rfl,?_⟩) (by assumption) ?_
    rotate_left
    ·intro wq hSw
     go_simp
     try with_reducible rfl
    simp only [Act.put,sA,sB,sC,sD,sE,sF]
    refine wpAnyH_ready (rs:=[7]) (by kernel_rfl) (by simp) ?_
    refine AllReadyH.cons rfl (fun K hK=>?_) AllReadyH.nil
    go_simp
    obtain ⟨wa,hwa⟩:∃ x,x=(wb).alloc (.cells zeroE 40):=⟨_,rfl⟩
    have hba:Below (wb).heap.size wb wa:=by rw [hwa];exact (Below.refl _ _).alloc (Nat.le_refl _) _
    have hze:wa.heap[(wb).heap.size]?=some (.cells zeroE 40 (0,0)):=by rw [hwa];exact (MapKept.heap_alloc _ _).1
    have HZe:=hid hze
    have HBa:=hid hba
    refine (hK.out _ _ (hHeld.alloc hHeld.size _) ?_)
    have hHa:Below W.heap.size W wa:=hHeld.trans (hba.mono hHeld.size)
    have hlo:=hHeld.size
    clear hK K hHeld
    intro hHeld
    have hwa':(wb).alloc (.cells #[.int .i64 0,.int .i64 0,.slice none 0 0,.int .i64 0,.int .i64 0,.int .i64 0,.int .i64 0,.int .i64 0,.int .i64 0,.string ⟨#[]⟩,.slice none 0 0,.int .i64 0] 40)=wa:=hwa.symm
    rw [hwa'] at hHeld ⊢
    obtain ⟨be,hbe⟩:∃ b,b=(wb).heap.size:=⟨_,rfl⟩
    rw [← hbe] at HZe
    rw [← hbe]
    have hbe0:W.heap.size≤be:=by omega
    clear hwa hwa' hba hze hHa
    have HZ:=HZe
    refine wpAnyH_ready (rs:=[8]) (by kernel_rfl) (by simp) ?_
    refine AllReadyH.cons rfl (fun K hK=>?_) AllReadyH.nil
    refine step_store_box rfl 40 _ _ rfl be (bs.1.cs none 0 fA fc) (by first | rfl | (rw [hbe];rfl)) rfl (zero_there HZ.out) (by kernel_rfl) (evOne bs.1 none 0 fA fc) ?_
    obtain ⟨ws,hws⟩:∃ x,x=World.setCells wa be 0 (bs.1.cs none 0 fA fc).toList:=⟨_,rfl⟩
    have hrow:=zero_row HZ.out bs.1 none 0 fA fc
    have hgs:=grown_setCells wa be 0 (bs.1.cs none 0 fA fc).toList
    rw [← hws] at hrow hgs ⊢
    have HRow:=hid hrow
    have HGs:=hid hgs
    have HWs:Hid (Below W.heap.size W ws):=hid (hHeld.grown hgs (by have:=hHeld.size;omega) (fun k hk=>by injection hk with hk;omega))
    refine hK.out _ _ HWs.out ?_
    clear hK K hHeld hws hrow hgs
    intro hHeld
    refine wpAnyH_take (i:=9) (v:=?_) rfl (by kernel_rfl) (by kernel_rfl) (by kernel_rfl) (fun _ _ _ h=>h) (Or.inl ⟨by rfl,?_⟩) (by assumption) ?_
    rotate_left
    ·intro wq hSw
     go_simp
     try with_reducible rfl
    simp only [Act.put,sA,sB,sC,sD,sE,sF]
    refine wpAnyH_done (by kernel_rfl) ?_ _
    clear hHeld
    go_wp2
    go_meet
    rw [← HBs.out]
    exact ⟨HWs.out,rfl,be,fA,fc,(by first | rfl | (rw [hbe];done)),hbe0,HRow.out,HRf.out.now (HBa.out.grown HGs.out HBa.out.size (fun k hk=>by have:=Option.some.inj hk;omega)),HFl.out⟩
   ·skip
    go_simp
    obtain ⟨wa,hwa⟩:∃ x,x=(wm).alloc (.cells zeroE 40):=⟨_,rfl⟩
    have hba:Below (wm).heap.size wm wa:=by rw [hwa];exact (Below.refl _ _).alloc (Nat.le_refl _) _
    have hze:wa.heap[(wm).heap.size]?=some (.cells zeroE 40 (0,0)):=by rw [hwa];exact (MapKept.heap_alloc _ _).1
    have HZe:=hid hze
    have HBa:=hid hba
    refine (hK.out _ _ (hHeld.alloc hHeld.size _) ?_)
    have hHa:Below W.heap.size W wa:=hHeld.trans (hba.mono hHeld.size)
    have hlo:=hHeld.size
    clear hK K hHeld
    intro hHeld
    have hwa':(wm).alloc (.cells #[.int .i64 0,.int .i64 0,.slice none 0 0,.int .i64 0,.int .i64 0,.int .i64 0,.int .i64 0,.int .i64 0,.int .i64 0,.string ⟨#[]⟩,.slice none 0 0,.int .i64 0] 40)=wa:=hwa.symm
    rw [hwa'] at hHeld ⊢
    obtain ⟨be,hbe⟩:∃ b,b=(wm).heap.size:=⟨_,rfl⟩
    rw [← hbe] at HZe
    rw [← hbe]
    have hbe0:W.heap.size≤be:=by omega
    clear hwa hwa' hba hze hHa
    refine wpAnyH_ready (rs:=[3]) (by kernel_rfl) (by simp) ?_
    refine AllReadyH.cons rfl (fun K hK=>?_) AllReadyH.nil
    go_simp
    refine (bBack_any mailBP mA 1 [thePair] (some ⟨bP,0,none⟩) 1 1 0 raw2 none 0 5 _ rfl (mailOk ((HMr.out.now HBa.out))) (by decide) ((HSm.out.below hHeld).rdp) (by decide) (rawOk0 rfl (by decide +kernel)) (by decide)).mono ?_
    rintro en wb ⟨hbb,fA,fc,rfl,hf,hfl,hfb⟩
    simp only [← HBs.out] at hf hfl ⊢
    have HFb:=hid hfb
    have HRf:=hid hf
    have HFl:=hid hfl
    have HWb:=hid (hHeld.trans (hbb.mono hHeld.size))
    have HBb:=hid hbb
    go_wp2_with fail
    refine hK.out _ _ HWb.out ?_
    clear hK K hHeld hf hfl hbb hfb
    intro hHeld
    refine wpAnyH_take (i:=4) (v:=?_) rfl (by kernel_rfl) (by kernel_rfl) (by kernel_rfl) (fun _ _ _ h=>h) (Or.inl ⟨by rfl,?_⟩) (by assumption) ?_
    rotate_left
    ·intro wq hSw
     go_simp
     try with_reducible rfl
    simp only [Act.put,sA,sB,sC,sD,sE,sF]
    refine wpAnyH_take (i:=5) (v:=?_) rfl (by kernel_rfl) (by kernel_rfl) (by kernel_rfl) (fun _ _ _ h=>h) (Or.inl ⟨by rfl,?_⟩) (by assumption) ?_
    rotate_left
    ·intro wq hSw
     go_simp
     try with_reducible rfl
    simp only [Act.put,sA,sB,sC,sD,sE,sF]
    refine wpAnyH_take (i:=6) (v:=?_) rfl (by kernel_rfl) (by kernel_rfl) (by kernel_rfl) (fun _ _ _ h=>h) (Or.inl ⟨by rfl,?_⟩) (by assumption) ?_
    rotate_left
    ·intro wq hSw
     go_simp
     try with_reducible rfl
    simp only [Act.put,sA,sB,sC,sD,sE,sF]
    have HZ:=hid ((HBb.out.block be (box_lt HZe.out)).trans HZe.out)
    have hbw:=box_lt HZe.out
    refine wpAnyH_ready (rs:=[8]) (by kernel_rfl) (by simp) ?_
    refine AllReadyH.cons rfl (fun K hK=>?_) AllReadyH.nil
    refine step_store_box rfl 40 _ _ rfl be (bs.1.cs none 0 fA fc) (by first | rfl | (rw [hbe];rfl)) rfl (zero_there HZ.out) (by kernel_rfl) (evOne bs.1 none 0 fA fc) ?_
    obtain ⟨ws,hws⟩:∃ x,x=World.setCells wb be 0 (bs.1.cs none 0 fA fc).toList:=⟨_,rfl⟩
    have hrow:=zero_row HZ.out bs.1 none 0 fA fc
    have hgs:=grown_setCells wb be 0 (bs.1.cs none 0 fA fc).toList
    rw [← hws] at hrow hgs ⊢
    have HRow:=hid hrow
    have HGs:=hid hgs
    have HWs:Hid (Below W.heap.size W ws):=hid (hHeld.grown hgs (by have:=hHeld.size;omega) (fun k hk=>by injection hk with hk;omega))
    refine hK.out _ _ HWs.out ?_
    clear hK K hHeld hws hrow hgs
    intro hHeld
    refine wpAnyH_take (i:=9) (v:=?_) rfl (by kernel_rfl) (by kernel_rfl) (by kernel_rfl) (fun _ _ _ h=>h) (Or.inl ⟨by rfl,?_⟩) (by assumption) ?_
    rotate_left
    ·intro wq hSw
     go_simp
     try with_reducible rfl
    simp only [Act.put,sA,sB,sC,sD,sE,sF]
    refine wpAnyH_done (by kernel_rfl) ?_ _
    clear hHeld
    go_wp2
    go_meet
    rw [← HBs.out]
    exact ⟨HWs.out,rfl,be,fA,fc,(by first | rfl | (rw [hbe];done)),hbe0,HRow.out,HRf.out.turn (fun i hi hl=>HGs.out.block i hl (fun e=>by have:=HFb.out i hi;have:=Option.some.inj e;omega)) HGs.out.size,HFl.out⟩
  ·skip
   go_simp
   obtain ⟨wa,hwa⟩:∃ x,x=(Wd).alloc (.cells zeroE 40):=⟨_,rfl⟩
   have hba:Below (Wd).heap.size Wd wa:=by rw [hwa];exact (Below.refl _ _).alloc (Nat.le_refl _) _
   have hze:wa.heap[(Wd).heap.size]?=some (.cells zeroE 40 (0,0)):=by rw [hwa];exact (MapKept.heap_alloc _ _).1
   have HZe:=hid hze
   have HBa:=hid hba
   refine (hK.out _ _ (hHeld.alloc hHeld.size _) ?_)
   have hHa:Below W.heap.size W wa:=hHeld.trans (hba.mono hHeld.size)
   have hlo:=hHeld.size
   clear hK K hHeld
   intro hHeld
   have hwa':(Wd).alloc (.cells #[.int .i64 0,.int .i64 0,.slice none 0 0,.int .i64 0,.int .i64 0,.int .i64 0,.int .i64 0,.int .i64 0,.int .i64 0,.string ⟨#[]⟩,.slice none 0 0,.int .i64 0] 40)=wa:=hwa.symm
   rw [hwa'] at hHeld ⊢
   obtain ⟨be,hbe⟩:∃ b,b=(Wd).heap.size:=⟨_,rfl⟩
   rw [← hbe] at HZe
   rw [← hbe]
   have hbe0:W.heap.size≤be:=by omega
   clear hwa hwa' hba hze hHa
   refine wpAnyH_ready (rs:=[0]) (by kernel_rfl) (by simp) ?_
   refine AllReadyH.cons rfl (fun K hK=>?_) AllReadyH.nil
   go_simp
   refine (lMail_any _).mono ?_
   rintro en wm ⟨hbm,mA,rfl,hmr⟩
   have HMr:=hid hmr
   have HWm:=hid (hHeld.trans (hbm.mono hHeld.size))
   go_wp2_with fail
   refine hK.out _ _ HWm.out ?_
   clear hK K hHeld hmr
   intro hHeld
   refine wpAnyH_ready (rs:=[3]) (by kernel_rfl) (by simp) ?_
   refine AllReadyH.cons rfl (fun K hK=>?_) AllReadyH.nil
   have HZm:=hid ((hbm.block be (box_lt HZe.out)).trans HZe.out)
   have hbw:=box_lt HZm.out
   go_simp
   refine (bBack_any mailBP mA 1 [thePair] (some ⟨bP,0,none⟩) 1 1 0 raw2 none 0 5 _ rfl (mailOk (HMr.out)) (by decide) ((HSm.out.below hHeld).rdp) (by decide) (rawOk0 rfl (by decide +kernel)) (by decide)).mono ?_
   rintro en wb ⟨hbb,fA,fc,rfl,hf,hfl,hfb⟩
   simp only [← HBs.out] at hf hfl ⊢
   have HFb:=hid hfb
   have HRf:=hid hf
   have HFl:=hid hfl
   have HWb:=hid (hHeld.trans (hbb.mono hHeld.size))
   have HBb:=hid hbb
   go_wp2_with fail
   refine hK.out _ _ HWb.out ?_
   clear hK K hHeld hf hfl hbb hfb
   intro hHeld
   refine wpAnyH_take (i:=4) (v:=?_) rfl (by kernel_rfl) (by kernel_rfl) (by kernel_rfl) (fun _ _ _ h=>h) (Or.inl ⟨by rfl,?_⟩) (by assumption) ?_
   rotate_left
   ·intro wq hSw
    go_simp
    try with_reducible rfl
   simp only [Act.put,sA,sB,sC,sD,sE,sF]
   refine wpAnyH_take (i:=5) (v:=?_) rfl (by kernel_rfl) (by kernel_rfl) (by kernel_rfl) (fun _ _ _ h=>h) (Or.inl ⟨by rfl,?_⟩) (by assumption) ?_
   rotate_left
   ·intro wq hSw
    go_simp
    try with_reducible rfl
   simp only [Act.put,sA,sB,sC,sD,sE,sF]
   refine wpAnyH_take (i:=6) (v:=?_) rfl (by kernel_rfl) (by kernel_rfl) (by kernel_rfl) (fun _ _ _ h=>h) (Or.inl ⟨by rfl,?_⟩) (by assumption) ?_
   rotate_left
   ·intro wq hSw
    go_simp
    try with_reducible rfl
   simp only [Act.put,sA,sB,sC,sD,sE,sF]
   have HZ:=hid ((HBb.out.block be (box_lt HZm.out)).trans HZm.out)
   refine wpAnyH_ready (rs:=[8]) (by kernel_rfl) (by simp) ?_
   refine AllReadyH.cons rfl (fun K hK=>?_) AllReadyH.nil
   refine step_store_box rfl 40 _ _ rfl be (bs.1.cs none 0 fA fc) (by first | rfl | (rw [hbe];rfl)) rfl (zero_there HZ.out) (by kernel_rfl) (evOne bs.1 none 0 fA fc) ?_
   obtain ⟨ws,hws⟩:∃ x,x=World.setCells wb be 0 (bs.1.cs none 0 fA fc).toList:=⟨_,rfl⟩
   have hrow:=zero_row HZ.out bs.1 none 0 fA fc
   have hgs:=grown_setCells wb be 0 (bs.1.cs none 0 fA fc).toList
   rw [← hws] at hrow hgs ⊢
   have HRow:=hid hrow
   have HGs:=hid hgs
   have HWs:Hid (Below W.heap.size W ws):=hid (hHeld.grown hgs (by have:=hHeld.size;omega) (fun k hk=>by injection hk with hk;omega))
   refine hK.out _ _ HWs.out ?_
   clear hK K hHeld hws hrow hgs
   intro hHeld
   refine wpAnyH_take (i:=9) (v:=?_) rfl (by kernel_rfl) (by kernel_rfl) (by kernel_rfl) (fun _ _ _ h=>h) (Or.inl ⟨by rfl,?_⟩) (by assumption) ?_
   rotate_left
   ·intro wq hSw
    go_simp
    try with_reducible rfl
   simp only [Act.put,sA,sB,sC,sD,sE,sF]
   refine wpAnyH_done (by kernel_rfl) ?_ _
   clear hHeld
   go_wp2
   go_meet
   rw [← HBs.out]
   exact ⟨HWs.out,rfl,be,fA,fc,(by first | rfl | (rw [hbe];done)),hbe0,HRow.out,HRf.out.turn (fun i hi hl=>HGs.out.block i hl (fun e=>by have:=HFb.out i hi;have:=Option.some.inj e;omega)) HGs.out.size,HFl.out⟩
 case' rest=>obtain ⟨hb5,rfl,beB,gA,gc,rfl,hbe,hrow,hri,hrl⟩:=hcut
 rw [sb2]
 have HEa:=hid ((hb5.block beA (box_lt HEa.out)).trans HEa.out)
 have HSm:=hid (HSm.out.below hb5)
 clear hrow hri hrl hb5 hbe
 have rb:=HSm.out.r
 have bj:=box_cell rb 5 _ rfl
 have bz:=fun i=>box_free rb i
 go_upto_region 7 with fail
 obtain ⟨Wn,hWn⟩:∃ x,x=(wc).setCell ⟨bR,5,none⟩ (.int .i64 7):=⟨_,rfl⟩
 have HSn:=hid (HSm.out.set raw1 5 (.int .i64 7) rfl)
 rw [← hWn] at HSn ⊢
 have HEn:Hid (∀ i o,i≠bR→(wc).heap[i]?=some o→Wn.heap[i]?=some o):=hid (fun i o hi h=>by rw [hWn];exact (heap_setCell_other _ _ _ _ hi).trans h)
 clear rb bj bz hWn HSm
 have HSm:=HSn
 clear HSn
 have HEa:=hid (HEn.out _ _ hneA HEa.out)
 clear HEn
 obtain ⟨Wm,hWm⟩:∃ x,x=Wn:=⟨_,rfl⟩
 subst hWm
 have rb:=HSm.out.r
 have bj:=box_cell rb 4 _ rfl
 have bz:=fun i=>box_free rb i
 go_upto_region 8 with fail
 obtain ⟨Wn,hWn⟩:∃ x,x=(Wm).setCell ⟨bR,4,none⟩ (.int .i64 7):=⟨_,rfl⟩
 have HSn:=hid (HSm.out.set raw3 4 (.int .i64 7) rfl)
 rw [← hWn] at HSn ⊢
 have HEn:Hid (∀ i o,i≠bR→(Wm).heap[i]?=some o→Wn.heap[i]?=some o):=hid (fun i o hi h=>by rw [hWn];exact (heap_setCell_other _ _ _ _ hi).trans h)
 clear rb bj bz hWn HSm
 have HSm:=HSn
 clear HSn
 have HEa:=hid (HEn.out _ _ hneA HEa.out)
 clear HEn
 obtain ⟨W,hW⟩:∃ x,x=Wn:=⟨_,rfl⟩
 subst hW
 go_cut [7,8] (fun v u wx=>EvPost (backS mailBP [thePair] 0 raw3 5) W v u wx)
 case first =>
  obtain ⟨bs,hbs⟩:∃ b,b=backS mailBP [thePair] 0 raw3 5:=⟨_,rfl⟩
  have HBs:=hid hbs
  clear hbs
  have HRS:=hid (show ∀ w',Below W.heap.size W w'→w'.rangeAt bR 0 ((raw3).cs none 0).toList from fun w' h=>(HSm.out.below h).raw)
  go_wp2_with fail
  refine wp_region_held_drew (S:=fun w'=>Below W.heap.size W w') (by kernel_rfl) ((Below.refl _ _).drew) (fun hHeld=>?_)
  obtain ⟨Wd,hWd⟩:∃ x,x=W.drew:=⟨_,rfl⟩
  rw [← hWd] at hHeld ⊢
  clear hWd
  refine wpAnyH_take (i:=1) (v:=?_) rfl (by kernel_rfl) (by kernel_rfl) (by kernel_rfl) (fun _ _ _ h=>h) (Or.inl ⟨by rfl,?_⟩) (by assumption) ?_
  rotate_left
  ·intro wq hSw
   go_simp
   try with_reducible rfl
  simp only [Act.put,sA,sB,sC,sD,sE,sF]
  refine' wpAnyH_take (i:=2) rfl (by kernel_rfl) (by kernel_rfl) (by kernel_rfl) (fun _ _ _ h=>h) (yieldsIf_load_mid (by rfl) _ _ rfl _ _ rfl _ _ HRS.out Tryz.underlying48 rfl (by kernel_rfl)) (by assumption) ?_
  simp only [Act.put,sA,sB,sC,sD,sE,sF]
  refine wpAnyH_ready (rs:=[0,7]) (by kernel_rfl) (by simp) ?_
  refine AllReadyH.cons rfl (fun K hK=>?_) (AllReadyH.cons rfl (fun K hK=>?_) AllReadyH.nil)
  ·skip
   go_simp
   refine (lMail_any _).mono ?_
   rintro en wm ⟨hbm,mA,rfl,hmr⟩
   have HMr:=hid hmr
   have HWm:=hid (hHeld.trans (hbm.mono hHeld.size))
   go_wp2_with fail
   refine hK.out _ _ HWm.out ?_
   clear hK K hHeld hmr
   intro hHeld
   refine wpAnyH_ready (rs:=[3,7]) (by kernel_rfl) (by simp) ?_
   refine AllReadyH.cons rfl (fun K hK=>?_) (AllReadyH.cons rfl (fun K hK=>?_) AllReadyH.nil)
   ·skip
    go_simp
    refine (bBack_any mailBP mA 1 [thePair] (some ⟨bP,0,none⟩) 1 1 0 raw3 none 0 5 _ rfl (mailOk (HMr.out)) (by decide) ((HSm.out.below hHeld).rdp) (by decide) (rawOk0 rfl (by decide +kernel)) (by decide)).mono ?_
    rintro en wb ⟨hbb,fA,fc,rfl,hf,hfl,hfb⟩
    simp only [← HBs.out] at hf hfl ⊢
    have HFb:=hid hfb
    have HRf:=hid hf
    have HFl:=hid hfl
    have HWb:=hid (hHeld.trans (hbb.mono hHeld.size))
    have HBb:=hid hbb
    go_wp2_with fail
    refine hK.out _ _ HWb.out ?_
    clear hK K hHeld hf hfl hbb hfb
    intro hHeld
    refine wpAnyH_take (i:=4) (v:=?_) rfl (by kernel_rfl) (by kernel_rfl) (by kernel_rfl) (fun _ _ _ h=>h) (Or.inl ⟨by rfl,?_⟩) (by assumption) ?_
    rotate_left
    ·intro wq hSw
     go_simp
     try with_reducible rfl
    simp only [Act.put,sA,sB,sC,sD,sE,sF]
    refine wpAnyH_take (i:=5) (v:=?_) rfl (by kernel_rfl) (by kernel_rfl) (by kernel_rfl) (fun _ _ _ h=>h) (Or.inl ⟨by rfl,?_⟩) (by assumption) ?_
    rotate_left
    ·intro wq hSw
     go_simp
     try with_reducible rfl
    simp only [Act.put,sA,sB,sC,sD,sE,sF]
    refine wpAnyH_take (i:=6) (v:=?_) rfl (by kernel_rfl) (by kernel_rfl) (by kernel_rfl) (fun _ _ _ h=>h) (Or.inl ⟨by rfl,?_⟩) (by assumption) ?_
    rotate_left
    ·intro wq hSw
     go_simp
     try with_reducible rfl
    simp only [Act.put,sA,sB,sC,sD,sE,sF]
    refine wpAnyH_ready (rs:=[7]) (by kernel_rfl) (by simp) ?_
    refine AllReadyH.cons rfl (fun K hK=>?_) AllReadyH.nil
    go_simp
    obtain ⟨wa,hwa⟩:∃ x,x=(wb).alloc (.cells zeroE 40):=⟨_,rfl⟩
    have hba:Below (wb).heap.size wb wa:=by rw [hwa];exact (Below.refl _ _).alloc (Nat.le_refl _) _
    have hze:wa.heap[(wb).heap.size]?=some (.cells zeroE 40 (0,0)):=by rw [hwa];exact (MapKept.heap_alloc _ _).1
    have HZe:=hid hze
    have HBa:=hid hba
    refine (hK.out _ _ (hHeld.alloc hHeld.size _) ?_)
    have hHa:Below W.heap.size W wa:=hHeld.trans (hba.mono hHeld.size)
    have hlo:=hHeld.size
    clear hK K hHeld
    intro hHeld
    have hwa':(wb).alloc (.cells #[.int .i64 0,.int .i64 0,.slice none 0 0,.int .i64 0,.int .i64 0,.int .i64 0,.int .i64 0,.int .i64 0,.int .i64 0,.string ⟨#[]⟩,.slice none 0 0,.int .i64 0] 40)=wa:=hwa.symm
    rw [hwa'] at hHeld ⊢
    obtain ⟨be,hbe⟩:∃ b,b=(wb).heap.size:=⟨_,rfl⟩
    rw [← hbe] at HZe
    rw [← hbe]
    have hbe0:W.heap.size≤be:=by omega
    clear hwa hwa' hba hze hHa
    have HZ:=HZe
    refine wpAnyH_ready (rs:=[8]) (by kernel_rfl) (by simp) ?_
    refine AllReadyH.cons rfl (fun K hK=>?_) AllReadyH.nil
    refine step_store_box rfl 40 _ _ rfl be (bs.1.cs none 0 fA fc) (by first | rfl | (rw [hbe];rfl)) rfl (zero_there HZ.out) (by kernel_rfl) (evOne bs.1 none 0 fA fc) ?_
    obtain ⟨ws,hws⟩:∃ x,x=World.setCells wa be 0 (bs.1.cs none 0 fA fc).toList:=⟨_,rfl⟩
    have hrow:=zero_row HZ.out bs.1 none 0 fA fc
    have hgs:=grown_setCells wa be 0 (bs.1.cs none 0 fA fc).toList
    rw [← hws] at hrow hgs ⊢
    have HRow:=hid hrow
    have HGs:=hid hgs
    have HWs:Hid (Below W.heap.size W ws):=hid (hHeld.grown hgs (by have:=hHeld.size;omega) (fun k hk=>by injection hk with hk;omega))
    refine hK.out _ _ HWs.out ?_
    clear hK K hHeld hws hrow hgs
    intro hHeld
    refine wpAnyH_take (i:=9) (v:=?_) rfl (by kernel_rfl) (by kernel_rfl) (by kernel_rfl) (fun _ _ _ h=>h) (Or.inl ⟨by rfl,?_⟩) (by assumption) ?_
    rotate_left
    ·intro wq hSw
     go_simp
     try with_reducible rfl
    simp only [Act.put,sA,sB,sC,sD,sE,sF]
    refine wpAnyH_done (by kernel_rfl) ?_ _
    clear hHeld
    go_wp2
    go_meet
    rw [← HBs.out]
    exact ⟨HWs.out,rfl,be,fA,fc,(by first | rfl | (rw [hbe];done)),hbe0,HRow.out,HRf.out.now (HBa.out.grown HGs.out HBa.out.size (fun k hk=>by have:=Option.some.inj hk;omega)),HFl.out⟩
   ·skip
    go_simp
    obtain ⟨wa,hwa⟩:∃ x,x=(wm).alloc (.cells zeroE 40):=⟨_,rfl⟩
    have hba:Below (wm).heap.size wm wa:=by rw [hwa];exact (Below.refl _ _).alloc (Nat.le_refl _) _
    have hze:wa.heap[(wm).heap.size]?=some (.cells zeroE 40 (0,0)):=by rw [hwa];exact (MapKept.heap_alloc _ _).1
    have HZe:=hid hze
    have HBa:=hid hba
    refine (hK.out _ _ (hHeld.alloc hHeld.size _) ?_)
    have hHa:Below W.heap.size W wa:=hHeld.trans (hba.mono hHeld.size)
    have hlo:=hHeld.size
    clear hK K hHeld
    intro hHeld
    have hwa':(wm).alloc (.cells #[.int .i64 0,.int .i64 0,.slice none 0 0,.int .i64 0,.int .i64 0,.int .i64 0,.int .i64 0,.int .i64 0,.int .i64 0,.string ⟨#[]⟩,.slice none 0 0,.int .i64 0] 40)=wa:=hwa.symm
    rw [hwa'] at hHeld ⊢
    obtain ⟨be,hbe⟩:∃ b,b=(wm).heap.size:=⟨_,rfl⟩
    rw [← hbe] at HZe
    rw [← hbe]
    have hbe0:W.heap.size≤be:=by omega
    clear hwa hwa' hba hze hHa
    refine wpAnyH_ready (rs:=[3]) (by kernel_rfl) (by simp) ?_
    refine AllReadyH.cons rfl (fun K hK=>?_) AllReadyH.nil
    go_simp
    refine (bBack_any mailBP mA 1 [thePair] (some ⟨bP,0,none⟩) 1 1 0 raw3 none 0 5 _ rfl (mailOk ((HMr.out.now HBa.out))) (by decide) ((HSm.out.below hHeld).rdp) (by decide) (rawOk0 rfl (by decide +kernel)) (by decide)).mono ?_
    rintro en wb ⟨hbb,fA,fc,rfl,hf,hfl,hfb⟩
    simp only [← HBs.out] at hf hfl ⊢
    have HFb:=hid hfb
    have HRf:=hid hf
    have HFl:=hid hfl
    have HWb:=hid (hHeld.trans (hbb.mono hHeld.size))
    have HBb:=hid hbb
    go_wp2_with fail
    refine hK.out _ _ HWb.out ?_
    clear hK K hHeld hf hfl hbb hfb
    intro hHeld
    refine wpAnyH_take (i:=4) (v:=?_) rfl (by kernel_rfl) (by kernel_rfl) (by kernel_rfl) (fun _ _ _ h=>h) (Or.inl ⟨by rfl,?_⟩) (by assumption) ?_
    rotate_left
    ·intro wq hSw
     go_simp
     try with_reducible rfl
    simp only [Act.put,sA,sB,sC,sD,sE,sF]
    refine wpAnyH_take (i:=5) (v:=?_) rfl (by kernel_rfl) (by kernel_rfl) (by kernel_rfl) (fun _ _ _ h=>h) (Or.inl ⟨by rfl,?_⟩) (by assumption) ?_
    rotate_left
    ·intro wq hSw
     go_simp
     try with_reducible rfl
    simp only [Act.put,sA,sB,sC,sD,sE,sF]
    refine wpAnyH_take (i:=6) (v:=?_) rfl (by kernel_rfl) (by kernel_rfl) (by kernel_rfl) (fun _ _ _ h=>h) (Or.inl ⟨by rfl,?_⟩) (by assumption) ?_
    rotate_left
    ·intro wq hSw
     go_simp
     try with_reducible rfl
    simp only [Act.put,sA,sB,sC,sD,sE,sF]
    have HZ:=hid ((HBb.out.block be (box_lt HZe.out)).trans HZe.out)
    have hbw:=box_lt HZe.out
    refine wpAnyH_ready (rs:=[8]) (by kernel_rfl) (by simp) ?_
    refine AllReadyH.cons rfl (fun K hK=>?_) AllReadyH.nil
    refine step_store_box rfl 40 _ _ rfl be (bs.1.cs none 0 fA fc) (by first | rfl | (rw [hbe];rfl)) rfl (zero_there HZ.out) (by kernel_rfl) (evOne bs.1 none 0 fA fc) ?_
    obtain ⟨ws,hws⟩:∃ x,x=World.setCells wb be 0 (bs.1.cs none 0 fA fc).toList:=⟨_,rfl⟩
    have hrow:=zero_row HZ.out bs.1 none 0 fA fc
    have hgs:=grown_setCells wb be 0 (bs.1.cs none 0 fA fc).toList
    rw [← hws] at hrow hgs ⊢
    have HRow:=hid hrow
    have HGs:=hid hgs
    have HWs:Hid (Below W.heap.size W ws):=hid (hHeld.grown hgs (by have:=hHeld.size;omega) (fun k hk=>by injection hk with hk;omega))
    refine hK.out _ _ HWs.out ?_
    clear hK K hHeld hws hrow hgs
    intro hHeld
    refine wpAnyH_take (i:=9) (v:=?_) rfl (by kernel_rfl) (by kernel_rfl) (by kernel_rfl) (fun _ _ _ h=>h) (Or.inl ⟨by rfl,?_⟩) (by assumption) ?_
    rotate_left
    ·intro wq hSw
     go_simp
     try with_reducible rfl
    simp only [Act.put,sA,sB,sC,sD,sE,sF]
    refine wpAnyH_done (by kernel_rfl) ?_ _
    clear hHeld
    go_wp2
    go_meet
    rw [← HBs.out]
    exact ⟨HWs.out,rfl,be,fA,fc,(by first | rfl | (rw [hbe];done)),hbe0,HRow.out,HRf.out.turn (fun i hi hl=>HGs.out.block i hl (fun e=>by have:=HFb.out i hi;have:=Option.some.inj e;omega)) HGs.out.size,HFl.out⟩
  ·skip
   go_simp
   obtain ⟨wa,hwa⟩:∃ x,x=(Wd).alloc (.cells zeroE 40):=⟨_,rfl⟩
   have hba:Below (Wd).heap.size Wd wa:=by rw [hwa];exact (Below.refl _ _).alloc (Nat.le_refl _) _
   have hze:wa.heap[(Wd).heap.size]?=some (.cells zeroE 40 (0,0)):=by rw [hwa];exact (MapKept.heap_alloc _ _).1
   have HZe:=hid hze
   have HBa:=hid hba
   refine (hK.out _ _ (hHeld.alloc hHeld.size _) ?_)
   have hHa:Below W.heap.size W wa:=hHeld.trans (hba.mono hHeld.size)
   have hlo:=hHeld.size
   clear hK K hHeld
   intro hHeld
   have hwa':(Wd).alloc (.cells #[.int .i64 0,.int .i64 0,.slice none 0 0,.int .i64 0,.int .i64 0,.int .i64 0,.int .i64 0,.int .i64 0,.int .i64 0,.string ⟨#[]⟩,.slice none 0 0,.int .i64 0] 40)=wa:=hwa.symm
   rw [hwa'] at hHeld ⊢
   obtain ⟨be,hbe⟩:∃ b,b=(Wd).heap.size:=⟨_,rfl⟩
   rw [← hbe] at HZe
   rw [← hbe]
   have hbe0:W.heap.size≤be:=by omega
   clear hwa hwa' hba hze hHa
   refine wpAnyH_ready (rs:=[0]) (by kernel_rfl) (by simp) ?_
   refine AllReadyH.cons rfl (fun K hK=>?_) AllReadyH.nil
   go_simp
   refine (lMail_any _).mono ?_
   rintro en wm ⟨hbm,mA,rfl,hmr⟩
   have HMr:=hid hmr
   have HWm:=hid (hHeld.trans (hbm.mono hHeld.size))
   go_wp2_with fail
   refine hK.out _ _ HWm.out ?_
   clear hK K hHeld hmr
   intro hHeld
   refine wpAnyH_ready (rs:=[3]) (by kernel_rfl) (by simp) ?_
   refine AllReadyH.cons rfl (fun K hK=>?_) AllReadyH.nil
   have HZm:=hid ((hbm.block be (box_lt HZe.out)).trans HZe.out)
   have hbw:=box_lt HZm.out
   go_simp
   refine (bBack_any mailBP mA 1 [thePair] (some ⟨bP,0,none⟩) 1 1 0 raw3 none 0 5 _ rfl (mailOk (HMr.out)) (by decide) ((HSm.out.below hHeld).rdp) (by decide) (rawOk0 rfl (by decide +kernel)) (by decide)).mono ?_
   rintro en wb ⟨hbb,fA,fc,rfl,hf,hfl,hfb⟩
   simp only [← HBs.out] at hf hfl ⊢
   have HFb:=hid hfb
   have HRf:=hid hf
   have HFl:=hid hfl
   have HWb:=hid (hHeld.trans (hbb.mono hHeld.size))
   have HBb:=hid hbb
   go_wp2_with fail
   refine hK.out _ _ HWb.out ?_
   clear hK K hHeld hf hfl hbb hfb
   intro hHeld
   refine wpAnyH_take (i:=4) (v:=?_) rfl (by kernel_rfl) (by kernel_rfl) (by kernel_rfl) (fun _ _ _ h=>h) (Or.inl ⟨by rfl,?_⟩) (by assumption) ?_
   rotate_left
   ·intro wq hSw
    go_simp
    try with_reducible rfl
   simp only [Act.put,sA,sB,sC,sD,sE,sF]
   refine wpAnyH_take (i:=5) (v:=?_) rfl (by kernel_rfl) (by kernel_rfl) (by kernel_rfl) (fun _ _ _ h=>h) (Or.inl ⟨by rfl,?_⟩) (by assumption) ?_
   rotate_left
   ·intro wq hSw
    go_simp
    try with_reducible rfl
   simp only [Act.put,sA,sB,sC,sD,sE,sF]
   refine wpAnyH_take (i:=6) (v:=?_) rfl (by kernel_rfl) (by kernel_rfl) (by kernel_rfl) (fun _ _ _ h=>h) (Or.inl ⟨by rfl,?_⟩) (by assumption) ?_
   rotate_left
   ·intro wq hSw
    go_simp
    try with_reducible rfl
   simp only [Act.put,sA,sB,sC,sD,sE,sF]
   have HZ:=hid ((HBb.out.block be (box_lt HZm.out)).trans HZm.out)
   refine wpAnyH_ready (rs:=[8]) (by kernel_rfl) (by simp) ?_
   refine AllReadyH.cons rfl (fun K hK=>?_) AllReadyH.nil
   refine step_store_box rfl 40 _ _ rfl be (bs.1.cs none 0 fA fc) (by first | rfl | (rw [hbe];rfl)) rfl (zero_there HZ.out) (by kernel_rfl) (evOne bs.1 none 0 fA fc) ?_
   obtain ⟨ws,hws⟩:∃ x,x=World.setCells wb be 0 (bs.1.cs none 0 fA fc).toList:=⟨_,rfl⟩
   have hrow:=zero_row HZ.out bs.1 none 0 fA fc
   have hgs:=grown_setCells wb be 0 (bs.1.cs none 0 fA fc).toList
   rw [← hws] at hrow hgs ⊢
   have HRow:=hid hrow
   have HGs:=hid hgs
   have HWs:Hid (Below W.heap.size W ws):=hid (hHeld.grown hgs (by have:=hHeld.size;omega) (fun k hk=>by injection hk with hk;omega))
   refine hK.out _ _ HWs.out ?_
   clear hK K hHeld hws hrow hgs
   intro hHeld
   refine wpAnyH_take (i:=9) (v:=?_) rfl (by kernel_rfl) (by kernel_rfl) (by kernel_rfl) (fun _ _ _ h=>h) (Or.inl ⟨by rfl,?_⟩) (by assumption) ?_
   rotate_left
   ·intro wq hSw
    go_simp
    try with_reducible rfl
   simp only [Act.put,sA,sB,sC,sD,sE,sF]
   refine wpAnyH_done (by kernel_rfl) ?_ _
   clear hHeld
   go_wp2
   go_meet
   rw [← HBs.out]
   exact ⟨HWs.out,rfl,be,fA,fc,(by first | rfl | (rw [hbe];done)),hbe0,HRow.out,HRf.out.turn (fun i hi hl=>HGs.out.block i hl (fun e=>by have:=HFb.out i hi;have:=Option.some.inj e;omega)) HGs.out.size,HFl.out⟩
 case' rest=>obtain ⟨hb5,rfl,beC,gA,gc,rfl,hbe,hrow,hri,hrl⟩:=hcut
 rw [sb3]
 have HEa:=hid ((hb5.block beA (box_lt HEa.out)).trans HEa.out)
 have HSm:=hid (HSm.out.below hb5)
 clear hrow hri hrl hb5 hbe
 have rb:=HSm.out.r
 have bj:=box_cell rb 4 _ rfl
 have bz:=fun i=>box_free rb i
 go_upto_region 10 with fail
 obtain ⟨Wn,hWn⟩:∃ x,x=(wc).setCell ⟨bR,4,none⟩ (.int .i64 (-1)):=⟨_,rfl⟩
 have HSn:=hid (HSm.out.set raw1 4 (.int .i64 (-1)) rfl)
 rw [← hWn] at HSn ⊢
 have HEn:Hid (∀ i o,i≠bR→(wc).heap[i]?=some o→Wn.heap[i]?=some o):=hid (fun i o hi h=>by rw [hWn];exact (heap_setCell_other _ _ _ _ hi).trans h)
 clear rb bj bz hWn HSm
 have HSm:=HSn
 clear HSn
 have HEa:=hid (HEn.out _ _ hneA HEa.out)
 clear HEn
 go_wp2_with fail
 refine (lLong_any 901 _ (by omega)).mono ?_
 rintro en wl ⟨rfl,hbl⟩
 have HEa:=hid ((hbl.block beA (box_lt HEa.out)).trans HEa.out)
 have HSm:=hid (HSm.out.below hbl)
 clear hbl
 have rb:=HSm.out.r
 have bj:=box_cell rb 8 _ rfl
 have bz:=fun i=>box_free rb i
 go_upto_region 11 with fail
 obtain ⟨Wn,hWn⟩:∃ x,x=(wl).setCell ⟨bR,8,none⟩ (.string (zstr 901)):=⟨_,rfl⟩
 have HSn:=hid (HSm.out.set raw4 8 (.string (zstr 901)) rfl)
 rw [← hWn] at HSn ⊢
 have HEn:Hid (∀ i o,i≠bR→(wl).heap[i]?=some o→Wn.heap[i]?=some o):=hid (fun i o hi h=>by rw [hWn];exact (heap_setCell_other _ _ _ _ hi).trans h)
 clear rb bj bz hWn HSm
 have HSm:=HSn
 clear HSn
 have HEa:=hid (HEn.out _ _ hneA HEa.out)
 clear HEn
 obtain ⟨W,hW⟩:∃ x,x=Wn:=⟨_,rfl⟩
 subst hW
 go_cut [9,10] (fun v u wx=>EvPost (backS mailBP [thePair] 0 raw4 5) W v u wx)
 case first =>
  obtain ⟨bs,hbs⟩:∃ b,b=backS mailBP [thePair] 0 raw4 5:=⟨_,rfl⟩
  have HBs:=hid hbs
  clear hbs
  have HRS:=hid (show ∀ w',Below W.heap.size W w'→w'.rangeAt bR 0 ((raw4).cs none 0).toList from fun w' h=>(HSm.out.below h).raw)
  go_wp2_with fail
  refine wp_region_held_drew (S:=fun w'=>Below W.heap.size W w') (by kernel_rfl) ((Below.refl _ _).drew) (fun hHeld=>?_)
  obtain ⟨Wd,hWd⟩:∃ x,x=W.drew:=⟨_,rfl⟩
  rw [← hWd] at hHeld ⊢
  clear hWd
  refine wpAnyH_take (i:=1) (v:=?_) rfl (by kernel_rfl) (by kernel_rfl) (by kernel_rfl) (fun _ _ _ h=>h) (Or.inl ⟨by rfl,?_⟩) (by assumption) ?_
  rotate_left
  ·intro wq hSw
   go_simp
   try with_reducible rfl
  simp only [Act.put,sA,sB,sC,sD,sE,sF]
  refine' wpAnyH_take (i:=2) rfl (by kernel_rfl) (by kernel_rfl) (by kernel_rfl) (fun _ _ _ h=>h) (yieldsIf_load_mid (by rfl) _ _ rfl _ _ rfl _ _ HRS.out Tryz.underlying48 rfl (by kernel_rfl)) (by assumption) ?_
  simp only [Act.put,sA,sB,sC,sD,sE,sF]
  refine wpAnyH_ready (rs:=[0,7]) (by kernel_rfl) (by simp) ?_
  refine AllReadyH.cons rfl (fun K hK=>?_) (AllReadyH.cons rfl (fun K hK=>?_) AllReadyH.nil)
  ·skip
   go_simp
   refine (lMail_any _).mono ?_
   rintro en wm ⟨hbm,mA,rfl,hmr⟩
   have HMr:=hid hmr
   have HWm:=hid (hHeld.trans (hbm.mono hHeld.size))
   go_wp2_with fail
   refine hK.out _ _ HWm.out ?_
   clear hK K hHeld hmr
   intro hHeld
   refine wpAnyH_ready (rs:=[3,7]) (by kernel_rfl) (by simp) ?_
   refine AllReadyH.cons rfl (fun K hK=>?_) (AllReadyH.cons rfl (fun K hK=>?_) AllReadyH.nil)
   ·skip
    go_simp
    refine (bBack_any mailBP mA 1 [thePair] (some ⟨bP,0,none⟩) 1 1 0 raw4 none 0 5 _ rfl (mailOk (HMr.out)) (by decide) ((HSm.out.below hHeld).rdp) (by decide) (rawOk0 rfl (by decide +kernel)) (by decide)).mono ?_
    rintro en wb ⟨hbb,fA,fc,rfl,hf,hfl,hfb⟩
    simp only [← HBs.out] at hf hfl ⊢
    have HFb:=hid hfb
    have HRf:=hid hf
    have HFl:=hid hfl
    have HWb:=hid (hHeld.trans (hbb.mono hHeld.size))
    have HBb:=hid hbb
    go_wp2_with fail
    refine hK.out _ _ HWb.out ?_
    clear hK K hHeld hf hfl hbb hfb
    intro hHeld
    refine wpAnyH_take (i:=4) (v:=?_) rfl (by kernel_rfl) (by kernel_rfl) (by kernel_rfl) (fun _ _ _ h=>h) (Or.inl ⟨by rfl,?_⟩) (by assumption) ?_
    rotate_left
    ·intro wq hSw
     go_simp
     try with_reducible rfl
    simp only [Act.put,sA,sB,sC,sD,sE,sF]
    refine wpAnyH_take (i:=5) (v:=?_) rfl (by kernel_rfl) (by kernel_rfl) (by kernel_rfl) (fun _ _ _ h=>h) (Or.inl ⟨by rfl,?_⟩) (by assumption) ?_
    rotate_left
    ·intro wq hSw
     go_simp
     try with_reducible rfl
    simp only [Act.put,sA,sB,sC,sD,sE,sF]
    refine wpAnyH_take (i:=6) (v:=?_) rfl (by kernel_rfl) (by kernel_rfl) (by kernel_rfl) (fun _ _ _ h=>h) (Or.inl ⟨by rfl,?_⟩) (by assumption) ?_
    rotate_left
    ·intro wq hSw
     go_simp
     try with_reducible rfl
    simp only [Act.put,sA,sB,sC,sD,sE,sF]
    refine wpAnyH_ready (rs:=[7]) (by kernel_rfl) (by simp) ?_
    refine AllReadyH.cons rfl (fun K hK=>?_) AllReadyH.nil
    go_simp
    obtain ⟨wa,hwa⟩:∃ x,x=(wb).alloc (.cells zeroE 40):=⟨_,rfl⟩
    have hba:Below (wb).heap.size wb wa:=by rw [hwa];exact (Below.refl _ _).alloc (Nat.le_refl _) _
    have hze:wa.heap[(wb).heap.size]?=some (.cells zeroE 40 (0,0)):=by rw [hwa];exact (MapKept.heap_alloc _ _).1
    have HZe:=hid hze
    have HBa:=hid hba
    refine (hK.out _ _ (hHeld.alloc hHeld.size _) ?_)
    have hHa:Below W.heap.size W wa:=hHeld.trans (hba.mono hHeld.size)
    have hlo:=hHeld.size
    clear hK K hHeld
    intro hHeld
    have hwa':(wb).alloc (.cells #[.int .i64 0,.int .i64 0,.slice none 0 0,.int .i64 0,.int .i64 0,.int .i64 0,.int .i64 0,.int .i64 0,.int .i64 0,.string ⟨#[]⟩,.slice none 0 0,.int .i64 0] 40)=wa:=hwa.symm
    rw [hwa'] at hHeld ⊢
    obtain ⟨be,hbe⟩:∃ b,b=(wb).heap.size:=⟨_,rfl⟩
    rw [← hbe] at HZe
    rw [← hbe]
    have hbe0:W.heap.size≤be:=by omega
    clear hwa hwa' hba hze hHa
    have HZ:=HZe
    refine wpAnyH_ready (rs:=[8]) (by kernel_rfl) (by simp) ?_
    refine AllReadyH.cons rfl (fun K hK=>?_) AllReadyH.nil
    refine step_store_box rfl 40 _ _ rfl be (bs.1.cs none 0 fA fc) (by first | rfl | (rw [hbe];rfl)) rfl (zero_there HZ.out) (by kernel_rfl) (evOne bs.1 none 0 fA fc) ?_
    obtain ⟨ws,hws⟩:∃ x,x=World.setCells wa be 0 (bs.1.cs none 0 fA fc).toList:=⟨_,rfl⟩
    have hrow:=zero_row HZ.out bs.1 none 0 fA fc
    have hgs:=grown_setCells wa be 0 (bs.1.cs none 0 fA fc).toList
    rw [← hws] at hrow hgs ⊢
    have HRow:=hid hrow
    have HGs:=hid hgs
    have HWs:Hid (Below W.heap.size W ws):=hid (hHeld.grown hgs (by have:=hHeld.size;omega) (fun k hk=>by injection hk with hk;omega))
    refine hK.out _ _ HWs.out ?_
    clear hK K hHeld hws hrow hgs
    intro hHeld
    refine wpAnyH_take (i:=9) (v:=?_) rfl (by kernel_rfl) (by kernel_rfl) (by kernel_rfl) (fun _ _ _ h=>h) (Or.inl ⟨by rfl,?_⟩) (by assumption) ?_
    rotate_left
    ·intro wq hSw
     go_simp
     try with_reducible rfl
    simp only [Act.put,sA,sB,sC,sD,sE,sF]
    refine wpAnyH_done (by kernel_rfl) ?_ _
    clear hHeld
    go_wp2
    go_meet
    rw [← HBs.out]
    exact ⟨HWs.out,rfl,be,fA,fc,(by first | rfl | (rw [hbe];done)),hbe0,HRow.out,HRf.out.now (HBa.out.grown HGs.out HBa.out.size (fun k hk=>by have:=Option.some.inj hk;omega)),HFl.out⟩
   ·skip
    go_simp
    obtain ⟨wa,hwa⟩:∃ x,x=(wm).alloc (.cells zeroE 40):=⟨_,rfl⟩
    have hba:Below (wm).heap.size wm wa:=by rw [hwa];exact (Below.refl _ _).alloc (Nat.le_refl _) _
    have hze:wa.heap[(wm).heap.size]?=some (.cells zeroE 40 (0,0)):=by rw [hwa];exact (MapKept.heap_alloc _ _).1
    have HZe:=hid hze
    have HBa:=hid hba
    refine (hK.out _ _ (hHeld.alloc hHeld.size _) ?_)
    have hHa:Below W.heap.size W wa:=hHeld.trans (hba.mono hHeld.size)
    have hlo:=hHeld.size
    clear hK K hHeld
    intro hHeld
    have hwa':(wm).alloc (.cells #[.int .i64 0,.int .i64 0,.slice none 0 0,.int .i64 0,.int .i64 0,.int .i64 0,.int .i64 0,.int .i64 0,.int .i64 0,.string ⟨#[]⟩,.slice none 0 0,.int .i64 0] 40)=wa:=hwa.symm
    rw [hwa'] at hHeld ⊢
    obtain ⟨be,hbe⟩:∃ b,b=(wm).heap.size:=⟨_,rfl⟩
    rw [← hbe] at HZe
    rw [← hbe]
    have hbe0:W.heap.size≤be:=by omega
    clear hwa hwa' hba hze hHa
    refine wpAnyH_ready (rs:=[3]) (by kernel_rfl) (by simp) ?_
    refine AllReadyH.cons rfl (fun K hK=>?_) AllReadyH.nil
    go_simp
    refine (bBack_any mailBP mA 1 [thePair] (some ⟨bP,0,none⟩) 1 1 0 raw4 none 0 5 _ rfl (mailOk ((HMr.out.now HBa.out))) (by decide) ((HSm.out.below hHeld).rdp) (by decide) (rawOk0 rfl (by decide +kernel)) (by decide)).mono ?_
    rintro en wb ⟨hbb,fA,fc,rfl,hf,hfl,hfb⟩
    simp only [← HBs.out] at hf hfl ⊢
    have HFb:=hid hfb
    have HRf:=hid hf
    have HFl:=hid hfl
    have HWb:=hid (hHeld.trans (hbb.mono hHeld.size))
    have HBb:=hid hbb
    go_wp2_with fail
    refine hK.out _ _ HWb.out ?_
    clear hK K hHeld hf hfl hbb hfb
    intro hHeld
    refine wpAnyH_take (i:=4) (v:=?_) rfl (by kernel_rfl) (by kernel_rfl) (by kernel_rfl) (fun _ _ _ h=>h) (Or.inl ⟨by rfl,?_⟩) (by assumption) ?_
    rotate_left
    ·intro wq hSw
     go_simp
     try with_reducible rfl
    simp only [Act.put,sA,sB,sC,sD,sE,sF]
    refine wpAnyH_take (i:=5) (v:=?_) rfl (by kernel_rfl) (by kernel_rfl) (by kernel_rfl) (fun _ _ _ h=>h) (Or.inl ⟨by rfl,?_⟩) (by assumption) ?_
    rotate_left
    ·intro wq hSw
     go_simp
     try with_reducible rfl
    simp only [Act.put,sA,sB,sC,sD,sE,sF]
    refine wpAnyH_take (i:=6) (v:=?_) rfl (by kernel_rfl) (by kernel_rfl) (by kernel_rfl) (fun _ _ _ h=>h) (Or.inl ⟨by rfl,?_⟩) (by assumption) ?_
    rotate_left
    ·intro wq hSw
     go_simp
     try with_reducible rfl
    simp only [Act.put,sA,sB,sC,sD,sE,sF]
    have HZ:=hid ((HBb.out.block be (box_lt HZe.out)).trans HZe.out)
    have hbw:=box_lt HZe.out
    refine wpAnyH_ready (rs:=[8]) (by kernel_rfl) (by simp) ?_
    refine AllReadyH.cons rfl (fun K hK=>?_) AllReadyH.nil
    refine step_store_box rfl 40 _ _ rfl be (bs.1.cs none 0 fA fc) (by first | rfl | (rw [hbe];rfl)) rfl (zero_there HZ.out) (by kernel_rfl) (evOne bs.1 none 0 fA fc) ?_
    obtain ⟨ws,hws⟩:∃ x,x=World.setCells wb be 0 (bs.1.cs none 0 fA fc).toList:=⟨_,rfl⟩
    have hrow:=zero_row HZ.out bs.1 none 0 fA fc
    have hgs:=grown_setCells wb be 0 (bs.1.cs none 0 fA fc).toList
    rw [← hws] at hrow hgs ⊢
    have HRow:=hid hrow
    have HGs:=hid hgs
    have HWs:Hid (Below W.heap.size W ws):=hid (hHeld.grown hgs (by have:=hHeld.size;omega) (fun k hk=>by injection hk with hk;omega))
    refine hK.out _ _ HWs.out ?_
    clear hK K hHeld hws hrow hgs
    intro hHeld
    refine wpAnyH_take (i:=9) (v:=?_) rfl (by kernel_rfl) (by kernel_rfl) (by kernel_rfl) (fun _ _ _ h=>h) (Or.inl ⟨by rfl,?_⟩) (by assumption) ?_
    rotate_left
    ·intro wq hSw
     go_simp
     try with_reducible rfl
    simp only [Act.put,sA,sB,sC,sD,sE,sF]
    refine wpAnyH_done (by kernel_rfl) ?_ _
    clear hHeld
    go_wp2
    go_meet
    rw [← HBs.out]
    exact ⟨HWs.out,rfl,be,fA,fc,(by first | rfl | (rw [hbe];done)),hbe0,HRow.out,HRf.out.turn (fun i hi hl=>HGs.out.block i hl (fun e=>by have:=HFb.out i hi;have:=Option.some.inj e;omega)) HGs.out.size,HFl.out⟩
  ·skip
   go_simp
   obtain ⟨wa,hwa⟩:∃ x,x=(Wd).alloc (.cells zeroE 40):=⟨_,rfl⟩
   have hba:Below (Wd).heap.size Wd wa:=by rw [hwa];exact (Below.refl _ _).alloc (Nat.le_refl _) _
   have hze:wa.heap[(Wd).heap.size]?=some (.cells zeroE 40 (0,0)):=by rw [hwa];exact (MapKept.heap_alloc _ _).1
   have HZe:=hid hze
   have HBa:=hid hba
   refine (hK.out _ _ (hHeld.alloc hHeld.size _) ?_)
   have hHa:Below W.heap.size W wa:=hHeld.trans (hba.mono hHeld.size)
   have hlo:=hHeld.size
   clear hK K hHeld
   intro hHeld
   have hwa':(Wd).alloc (.cells #[.int .i64 0,.int .i64 0,.slice none 0 0,.int .i64 0,.int .i64 0,.int .i64 0,.int .i64 0,.int .i64 0,.int .i64 0,.string ⟨#[]⟩,.slice none 0 0,.int .i64 0] 40)=wa:=hwa.symm
   rw [hwa'] at hHeld ⊢
   obtain ⟨be,hbe⟩:∃ b,b=(Wd).heap.size:=⟨_,rfl⟩
   rw [← hbe] at HZe
   rw [← hbe]
   have hbe0:W.heap.size≤be:=by omega
   clear hwa hwa' hba hze hHa
   refine wpAnyH_ready (rs:=[0]) (by kernel_rfl) (by simp) ?_
   refine AllReadyH.cons rfl (fun K hK=>?_) AllReadyH.nil
   go_simp
   refine (lMail_any _).mono ?_
   rintro en wm ⟨hbm,mA,rfl,hmr⟩
   have HMr:=hid hmr
   have HWm:=hid (hHeld.trans (hbm.mono hHeld.size))
   go_wp2_with fail
   refine hK.out _ _ HWm.out ?_
   clear hK K hHeld hmr
   intro hHeld
   refine wpAnyH_ready (rs:=[3]) (by kernel_rfl) (by simp) ?_
   refine AllReadyH.cons rfl (fun K hK=>?_) AllReadyH.nil
   have HZm:=hid ((hbm.block be (box_lt HZe.out)).trans HZe.out)
   have hbw:=box_lt HZm.out
   go_simp
   refine (bBack_any mailBP mA 1 [thePair] (some ⟨bP,0,none⟩) 1 1 0 raw4 none 0 5 _ rfl (mailOk (HMr.out)) (by decide) ((HSm.out.below hHeld).rdp) (by decide) (rawOk0 rfl (by decide +kernel)) (by decide)).mono ?_
   rintro en wb ⟨hbb,fA,fc,rfl,hf,hfl,hfb⟩
   simp only [← HBs.out] at hf hfl ⊢
   have HFb:=hid hfb
   have HRf:=hid hf
   have HFl:=hid hfl
   have HWb:=hid (hHeld.trans (hbb.mono hHeld.size))
   have HBb:=hid hbb
   go_wp2_with fail
   refine hK.out _ _ HWb.out ?_
   clear hK K hHeld hf hfl hbb hfb
   intro hHeld
   refine wpAnyH_take (i:=4) (v:=?_) rfl (by kernel_rfl) (by kernel_rfl) (by kernel_rfl) (fun _ _ _ h=>h) (Or.inl ⟨by rfl,?_⟩) (by assumption) ?_
   rotate_left
   ·intro wq hSw
    go_simp
    try with_reducible rfl
   simp only [Act.put,sA,sB,sC,sD,sE,sF]
   refine wpAnyH_take (i:=5) (v:=?_) rfl (by kernel_rfl) (by kernel_rfl) (by kernel_rfl) (fun _ _ _ h=>h) (Or.inl ⟨by rfl,?_⟩) (by assumption) ?_
   rotate_left
   ·intro wq hSw
    go_simp
    try with_reducible rfl
   simp only [Act.put,sA,sB,sC,sD,sE,sF]
   refine wpAnyH_take (i:=6) (v:=?_) rfl (by kernel_rfl) (by kernel_rfl) (by kernel_rfl) (fun _ _ _ h=>h) (Or.inl ⟨by rfl,?_⟩) (by assumption) ?_
   rotate_left
   ·intro wq hSw
    go_simp
    try with_reducible rfl
   simp only [Act.put,sA,sB,sC,sD,sE,sF]
   have HZ:=hid ((HBb.out.block be (box_lt HZm.out)).trans HZm.out)
   refine wpAnyH_ready (rs:=[8]) (by kernel_rfl) (by simp) ?_
   refine AllReadyH.cons rfl (fun K hK=>?_) AllReadyH.nil
   refine step_store_box rfl 40 _ _ rfl be (bs.1.cs none 0 fA fc) (by first | rfl | (rw [hbe];rfl)) rfl (zero_there HZ.out) (by kernel_rfl) (evOne bs.1 none 0 fA fc) ?_
   obtain ⟨ws,hws⟩:∃ x,x=World.setCells wb be 0 (bs.1.cs none 0 fA fc).toList:=⟨_,rfl⟩
   have hrow:=zero_row HZ.out bs.1 none 0 fA fc
   have hgs:=grown_setCells wb be 0 (bs.1.cs none 0 fA fc).toList
   rw [← hws] at hrow hgs ⊢
   have HRow:=hid hrow
   have HGs:=hid hgs
   have HWs:Hid (Below W.heap.size W ws):=hid (hHeld.grown hgs (by have:=hHeld.size;omega) (fun k hk=>by injection hk with hk;omega))
   refine hK.out _ _ HWs.out ?_
   clear hK K hHeld hws hrow hgs
   intro hHeld
   refine wpAnyH_take (i:=9) (v:=?_) rfl (by kernel_rfl) (by kernel_rfl) (by kernel_rfl) (fun _ _ _ h=>h) (Or.inl ⟨by rfl,?_⟩) (by assumption) ?_
   rotate_left
   ·intro wq hSw
    go_simp
    try with_reducible rfl
   simp only [Act.put,sA,sB,sC,sD,sE,sF]
   refine wpAnyH_done (by kernel_rfl) ?_ _
   clear hHeld
   go_wp2
   go_meet
   rw [← HBs.out]
   exact ⟨HWs.out,rfl,be,fA,fc,(by first | rfl | (rw [hbe];done)),hbe0,HRow.out,HRf.out.turn (fun i hi hl=>HGs.out.block i hl (fun e=>by have:=HFb.out i hi;have:=Option.some.inj e;omega)) HGs.out.size,HFl.out⟩
 case' rest=>obtain ⟨hb5,rfl,beD,gA,gc,rfl,hbe,hrow,hri,hrl⟩:=hcut
 rw [sb4]
 have HEa:=hid ((hb5.block beA (box_lt HEa.out)).trans HEa.out)
 have HSm:=hid (HSm.out.below hb5)
 clear hrow hri hrl hb5 hbe
 have rb:=HSm.out.r
 have bj:=box_cell rb 8 _ rfl
 have bz:=fun i=>box_free rb i
 go_upto_region 13 with fail
 obtain ⟨Wn,hWn⟩:∃ x,x=(wc).setCell ⟨bR,8,none⟩ (.string ⟨#[104,105]⟩):=⟨_,rfl⟩
 have HSn:=hid (HSm.out.set raw1 8 (.string ⟨#[104,105]⟩) rfl)
 rw [← hWn] at HSn ⊢
 have HEn:Hid (∀ i o,i≠bR→(wc).heap[i]?=some o→Wn.heap[i]?=some o):=hid (fun i o hi h=>by rw [hWn];exact (heap_setCell_other _ _ _ _ hi).trans h)
 clear rb bj bz hWn HSm
 have HSm:=HSn
 clear HSn
 have HEa:=hid (HEn.out _ _ hneA HEa.out)
 clear HEn
 obtain ⟨Wm,hWm⟩:∃ x,x=Wn:=⟨_,rfl⟩
 subst hWm
 have rb:=HSm.out.r
 have bj:=box_cell rb 0 _ rfl
 have bz:=fun i=>box_free rb i
 go_upto_region 14 with fail
 obtain ⟨Wn,hWn⟩:∃ x,x=(Wm).setCell ⟨bR,0,none⟩ (.int .i64 13):=⟨_,rfl⟩
 have HSn:=hid (HSm.out.set raw5 0 (.int .i64 13) rfl)
 rw [← hWn] at HSn ⊢
 have HEn:Hid (∀ i o,i≠bR→(Wm).heap[i]?=some o→Wn.heap[i]?=some o):=hid (fun i o hi h=>by rw [hWn];exact (heap_setCell_other _ _ _ _ hi).trans h)
 clear rb bj bz hWn HSm
 have HSm:=HSn
 clear HSn
 have HEa:=hid (HEn.out _ _ hneA HEa.out)
 clear HEn
 obtain ⟨W,hW⟩:∃ x,x=Wn:=⟨_,rfl⟩
 subst hW
 go_cut [11,12] (fun v u wx=>EvPost (backS mailBP [thePair] 0 raw5 5) W v u wx)
 case first =>
  obtain ⟨bs,hbs⟩:∃ b,b=backS mailBP [thePair] 0 raw5 5:=⟨_,rfl⟩
  have HBs:=hid hbs
  clear hbs
  have HRS:=hid (show ∀ w',Below W.heap.size W w'→w'.rangeAt bR 0 ((raw5).cs none 0).toList from fun w' h=>(HSm.out.below h).raw)
  go_wp2_with fail
  refine wp_region_held_drew (S:=fun w'=>Below W.heap.size W w') (by kernel_rfl) ((Below.refl _ _).drew) (fun hHeld=>?_)
  obtain ⟨Wd,hWd⟩:∃ x,x=W.drew:=⟨_,rfl⟩
  rw [← hWd] at hHeld ⊢
  clear hWd
  refine wpAnyH_take (i:=1) (v:=?_) rfl (by kernel_rfl) (by kernel_rfl) (by kernel_rfl) (fun _ _ _ h=>h) (Or.inl ⟨by rfl,?_⟩) (by assumption) ?_
  rotate_left
  ·intro wq hSw
   go_simp
   try with_reducible rfl
  simp only [Act.put,sA,sB,sC,sD,sE,sF]
  refine' wpAnyH_take (i:=2) rfl (by kernel_rfl) (by kernel_rfl) (by kernel_rfl) (fun _ _ _ h=>h) (yieldsIf_load_mid (by rfl) _ _ rfl _ _ rfl _ _ HRS.out Tryz.underlying48 rfl (by kernel_rfl)) (by assumption) ?_
  simp only [Act.put,sA,sB,sC,sD,sE,sF]
  refine wpAnyH_ready (rs:=[0,7]) (by kernel_rfl) (by simp) ?_
  refine AllReadyH.cons rfl (fun K hK=>?_) (AllReadyH.cons rfl (fun K hK=>?_) AllReadyH.nil)
  ·skip
   go_simp
   refine (lMail_any _).mono ?_
   rintro en wm ⟨hbm,mA,rfl,hmr⟩
   have HMr:=hid hmr
   have HWm:=hid (hHeld.trans (hbm.mono hHeld.size))
   go_wp2_with fail
   refine hK.out _ _ HWm.out ?_
   clear hK K hHeld hmr
   intro hHeld
   refine wpAnyH_ready (rs:=[3,7]) (by kernel_rfl) (by simp) ?_
   refine AllReadyH.cons rfl (fun K hK=>?_) (AllReadyH.cons rfl (fun K hK=>?_) AllReadyH.nil)
   ·skip
    go_simp
    refine (bBack_any mailBP mA 1 [thePair] (some ⟨bP,0,none⟩) 1 1 0 raw5 none 0 5 _ rfl (mailOk (HMr.out)) (by decide) ((HSm.out.below hHeld).rdp) (by decide) (rawOk0 rfl (by decide +kernel)) (by decide)).mono ?_
    rintro en wb ⟨hbb,fA,fc,rfl,hf,hfl,hfb⟩
    simp only [← HBs.out] at hf hfl ⊢
    have HFb:=hid hfb
    have HRf:=hid hf
    have HFl:=hid hfl
    have HWb:=hid (hHeld.trans (hbb.mono hHeld.size))
    have HBb:=hid hbb
    go_wp2_with fail
    refine hK.out _ _ HWb.out ?_
    clear hK K hHeld hf hfl hbb hfb
    intro hHeld
    refine wpAnyH_take (i:=4) (v:=?_) rfl (by kernel_rfl) (by kernel_rfl) (by kernel_rfl) (fun _ _ _ h=>h) (Or.inl ⟨by rfl,?_⟩) (by assumption) ?_
    rotate_left
    ·intro wq hSw
     go_simp
     try with_reducible rfl
    simp only [Act.put,sA,sB,sC,sD,sE,sF]
    refine wpAnyH_take (i:=5) (v:=?_) rfl (by kernel_rfl) (by kernel_rfl) (by kernel_rfl) (fun _ _ _ h=>h) (Or.inl ⟨by rfl,?_⟩) (by assumption) ?_
    rotate_left
    ·intro wq hSw
     go_simp
     try with_reducible rfl
    simp only [Act.put,sA,sB,sC,sD,sE,sF]
    refine wpAnyH_take (i:=6) (v:=?_) rfl (by kernel_rfl) (by kernel_rfl) (by kernel_rfl) (fun _ _ _ h=>h) (Or.inl ⟨by rfl,?_⟩) (by assumption) ?_
    rotate_left
    ·intro wq hSw
     go_simp
     try with_reducible rfl
    simp only [Act.put,sA,sB,sC,sD,sE,sF]
    refine wpAnyH_ready (rs:=[7]) (by kernel_rfl) (by simp) ?_
    refine AllReadyH.cons rfl (fun K hK=>?_) AllReadyH.nil
    go_simp
    obtain ⟨wa,hwa⟩:∃ x,x=(wb).alloc (.cells zeroE 40):=⟨_,rfl⟩
    have hba:Below (wb).heap.size wb wa:=by rw [hwa];exact (Below.refl _ _).alloc (Nat.le_refl _) _
    have hze:wa.heap[(wb).heap.size]?=some (.cells zeroE 40 (0,0)):=by rw [hwa];exact (MapKept.heap_alloc _ _).1
    have HZe:=hid hze
    have HBa:=hid hba
    refine (hK.out _ _ (hHeld.alloc hHeld.size _) ?_)
    have hHa:Below W.heap.size W wa:=hHeld.trans (hba.mono hHeld.size)
    have hlo:=hHeld.size
    clear hK K hHeld
    intro hHeld
    have hwa':(wb).alloc (.cells #[.int .i64 0,.int .i64 0,.slice none 0 0,.int .i64 0,.int .i64 0,.int .i64 0,.int .i64 0,.int .i64 0,.int .i64 0,.string ⟨#[]⟩,.slice none 0 0,.int .i64 0] 40)=wa:=hwa.symm
    rw [hwa'] at hHeld ⊢
    obtain ⟨be,hbe⟩:∃ b,b=(wb).heap.size:=⟨_,rfl⟩
    rw [← hbe] at HZe
    rw [← hbe]
    have hbe0:W.heap.size≤be:=by omega
    clear hwa hwa' hba hze hHa
    have HZ:=HZe
    refine wpAnyH_ready (rs:=[8]) (by kernel_rfl) (by simp) ?_
    refine AllReadyH.cons rfl (fun K hK=>?_) AllReadyH.nil
    refine step_store_box rfl 40 _ _ rfl be (bs.1.cs none 0 fA fc) (by first | rfl | (rw [hbe];rfl)) rfl (zero_there HZ.out) (by kernel_rfl) (evOne bs.1 none 0 fA fc) ?_
    obtain ⟨ws,hws⟩:∃ x,x=World.setCells wa be 0 (bs.1.cs none 0 fA fc).toList:=⟨_,rfl⟩
    have hrow:=zero_row HZ.out bs.1 none 0 fA fc
    have hgs:=grown_setCells wa be 0 (bs.1.cs none 0 fA fc).toList
    rw [← hws] at hrow hgs ⊢
    have HRow:=hid hrow
    have HGs:=hid hgs
    have HWs:Hid (Below W.heap.size W ws):=hid (hHeld.grown hgs (by have:=hHeld.size;omega) (fun k hk=>by injection hk with hk;omega))
    refine hK.out _ _ HWs.out ?_
    clear hK K hHeld hws hrow hgs
    intro hHeld
    refine wpAnyH_take (i:=9) (v:=?_) rfl (by kernel_rfl) (by kernel_rfl) (by kernel_rfl) (fun _ _ _ h=>h) (Or.inl ⟨by rfl,?_⟩) (by assumption) ?_
    rotate_left
    ·intro wq hSw
     go_simp
     try with_reducible rfl
    simp only [Act.put,sA,sB,sC,sD,sE,sF]
    refine wpAnyH_done (by kernel_rfl) ?_ _
    clear hHeld
    go_wp2
    go_meet
    rw [← HBs.out]
    exact ⟨HWs.out,rfl,be,fA,fc,(by first | rfl | (rw [hbe];done)),hbe0,HRow.out,HRf.out.now (HBa.out.grown HGs.out HBa.out.size (fun k hk=>by have:=Option.some.inj hk;omega)),HFl.out⟩
   ·skip
    go_simp
    obtain ⟨wa,hwa⟩:∃ x,x=(wm).alloc (.cells zeroE 40):=⟨_,rfl⟩
    have hba:Below (wm).heap.size wm wa:=by rw [hwa];exact (Below.refl _ _).alloc (Nat.le_refl _) _
    have hze:wa.heap[(wm).heap.size]?=some (.cells zeroE 40 (0,0)):=by rw [hwa];exact (MapKept.heap_alloc _ _).1
    have HZe:=hid hze
    have HBa:=hid hba
    refine (hK.out _ _ (hHeld.alloc hHeld.size _) ?_)
    have hHa:Below W.heap.size W wa:=hHeld.trans (hba.mono hHeld.size)
    have hlo:=hHeld.size
    clear hK K hHeld
    intro hHeld
    have hwa':(wm).alloc (.cells #[.int .i64 0,.int .i64 0,.slice none 0 0,.int .i64 0,.int .i64 0,.int .i64 0,.int .i64 0,.int .i64 0,.int .i64 0,.string ⟨#[]⟩,.slice none 0 0,.int .i64 0] 40)=wa:=hwa.symm
    rw [hwa'] at hHeld ⊢
    obtain ⟨be,hbe⟩:∃ b,b=(wm).heap.size:=⟨_,rfl⟩
    rw [← hbe] at HZe
    rw [← hbe]
    have hbe0:W.heap.size≤be:=by omega
    clear hwa hwa' hba hze hHa
    refine wpAnyH_ready (rs:=[3]) (by kernel_rfl) (by simp) ?_
    refine AllReadyH.cons rfl (fun K hK=>?_) AllReadyH.nil
    go_simp
    refine (bBack_any mailBP mA 1 [thePair] (some ⟨bP,0,none⟩) 1 1 0 raw5 none 0 5 _ rfl (mailOk ((HMr.out.now HBa.out))) (by decide) ((HSm.out.below hHeld).rdp) (by decide) (rawOk0 rfl (by decide +kernel)) (by decide)).mono ?_
    rintro en wb ⟨hbb,fA,fc,rfl,hf,hfl,hfb⟩
    simp only [← HBs.out] at hf hfl ⊢
    have HFb:=hid hfb
    have HRf:=hid hf
    have HFl:=hid hfl
    have HWb:=hid (hHeld.trans (hbb.mono hHeld.size))
    have HBb:=hid hbb
    go_wp2_with fail
    refine hK.out _ _ HWb.out ?_
    clear hK K hHeld hf hfl hbb hfb
    intro hHeld
    refine wpAnyH_take (i:=4) (v:=?_) rfl (by kernel_rfl) (by kernel_rfl) (by kernel_rfl) (fun _ _ _ h=>h) (Or.inl ⟨by rfl,?_⟩) (by assumption) ?_
    rotate_left
    ·intro wq hSw
     go_simp
     try with_reducible rfl
    simp only [Act.put,sA,sB,sC,sD,sE,sF]
    refine wpAnyH_take (i:=5) (v:=?_) rfl (by kernel_rfl) (by kernel_rfl) (by kernel_rfl) (fun _ _ _ h=>h) (Or.inl ⟨by rfl,?_⟩) (by assumption) ?_
    rotate_left
    ·intro wq hSw
     go_simp
     try with_reducible rfl
    simp only [Act.put,sA,sB,sC,sD,sE,sF]
    refine wpAnyH_take (i:=6) (v:=?_) rfl (by kernel_rfl) (by kernel_rfl) (by kernel_rfl) (fun _ _ _ h=>h) (Or.inl ⟨by rfl,?_⟩) (by assumption) ?_
    rotate_left
    ·intro wq hSw
     go_simp
     try with_reducible rfl
    simp only [Act.put,sA,sB,sC,sD,sE,sF]
    have HZ:=hid ((HBb.out.block be (box_lt HZe.out)).trans HZe.out)
    have hbw:=box_lt HZe.out
    refine wpAnyH_ready (rs:=[8]) (by kernel_rfl) (by simp) ?_
    refine AllReadyH.cons rfl (fun K hK=>?_) AllReadyH.nil
    refine step_store_box rfl 40 _ _ rfl be (bs.1.cs none 0 fA fc) (by first | rfl | (rw [hbe];rfl)) rfl (zero_there HZ.out) (by kernel_rfl) (evOne bs.1 none 0 fA fc) ?_
    obtain ⟨ws,hws⟩:∃ x,x=World.setCells wb be 0 (bs.1.cs none 0 fA fc).toList:=⟨_,rfl⟩
    have hrow:=zero_row HZ.out bs.1 none 0 fA fc
    have hgs:=grown_setCells wb be 0 (bs.1.cs none 0 fA fc).toList
    rw [← hws] at hrow hgs ⊢
    have HRow:=hid hrow
    have HGs:=hid hgs
    have HWs:Hid (Below W.heap.size W ws):=hid (hHeld.grown hgs (by have:=hHeld.size;omega) (fun k hk=>by injection hk with hk;omega))
    refine hK.out _ _ HWs.out ?_
    clear hK K hHeld hws hrow hgs
    intro hHeld
    refine wpAnyH_take (i:=9) (v:=?_) rfl (by kernel_rfl) (by kernel_rfl) (by kernel_rfl) (fun _ _ _ h=>h) (Or.inl ⟨by rfl,?_⟩) (by assumption) ?_
    rotate_left
    ·intro wq hSw
     go_simp
     try with_reducible rfl
    simp only [Act.put,sA,sB,sC,sD,sE,sF]
    refine wpAnyH_done (by kernel_rfl) ?_ _
    clear hHeld
    go_wp2
    go_meet
    rw [← HBs.out]
    exact ⟨HWs.out,rfl,be,fA,fc,(by first | rfl | (rw [hbe];done)),hbe0,HRow.out,HRf.out.turn (fun i hi hl=>HGs.out.block i hl (fun e=>by have:=HFb.out i hi;have:=Option.some.inj e;omega)) HGs.out.size,HFl.out⟩
  ·skip
   go_simp
   obtain ⟨wa,hwa⟩:∃ x,x=(Wd).alloc (.cells zeroE 40):=⟨_,rfl⟩
   have hba:Below (Wd).heap.size Wd wa:=by rw [hwa];exact (Below.refl _ _).alloc (Nat.le_refl _) _
   have hze:wa.heap[(Wd).heap.size]?=some (.cells zeroE 40 (0,0)):=by rw [hwa];exact (MapKept.heap_alloc _ _).1
   have HZe:=hid hze
   have HBa:=hid hba
   refine (hK.out _ _ (hHeld.alloc hHeld.size _) ?_)
   have hHa:Below W.heap.size W wa:=hHeld.trans (hba.mono hHeld.size)
   have hlo:=hHeld.size
   clear hK K hHeld
   intro hHeld
   have hwa':(Wd).alloc (.cells #[.int .i64 0,.int .i64 0,.slice none 0 0,.int .i64 0,.int .i64 0,.int .i64 0,.int .i64 0,.int .i64 0,.int .i64 0,.string ⟨#[]⟩,.slice none 0 0,.int .i64 0] 40)=wa:=hwa.symm
   rw [hwa'] at hHeld ⊢
   obtain ⟨be,hbe⟩:∃ b,b=(Wd).heap.size:=⟨_,rfl⟩
   rw [← hbe] at HZe
   rw [← hbe]
   have hbe0:W.heap.size≤be:=by omega
   clear hwa hwa' hba hze hHa
   refine wpAnyH_ready (rs:=[0]) (by kernel_rfl) (by simp) ?_
   refine AllReadyH.cons rfl (fun K hK=>?_) AllReadyH.nil
   go_simp
   refine (lMail_any _).mono ?_
   rintro en wm ⟨hbm,mA,rfl,hmr⟩
   have HMr:=hid hmr
   have HWm:=hid (hHeld.trans (hbm.mono hHeld.size))
   go_wp2_with fail
   refine hK.out _ _ HWm.out ?_
   clear hK K hHeld hmr
   intro hHeld
   refine wpAnyH_ready (rs:=[3]) (by kernel_rfl) (by simp) ?_
   refine AllReadyH.cons rfl (fun K hK=>?_) AllReadyH.nil
   have HZm:=hid ((hbm.block be (box_lt HZe.out)).trans HZe.out)
   have hbw:=box_lt HZm.out
   go_simp
   refine (bBack_any mailBP mA 1 [thePair] (some ⟨bP,0,none⟩) 1 1 0 raw5 none 0 5 _ rfl (mailOk (HMr.out)) (by decide) ((HSm.out.below hHeld).rdp) (by decide) (rawOk0 rfl (by decide +kernel)) (by decide)).mono ?_
   rintro en wb ⟨hbb,fA,fc,rfl,hf,hfl,hfb⟩
   simp only [← HBs.out] at hf hfl ⊢
   have HFb:=hid hfb
   have HRf:=hid hf
   have HFl:=hid hfl
   have HWb:=hid (hHeld.trans (hbb.mono hHeld.size))
   have HBb:=hid hbb
   go_wp2_with fail
   refine hK.out _ _ HWb.out ?_
   clear hK K hHeld hf hfl hbb hfb
   intro hHeld
   refine wpAnyH_take (i:=4) (v:=?_) rfl (by kernel_rfl) (by kernel_rfl) (by kernel_rfl) (fun _ _ _ h=>h) (Or.inl ⟨by rfl,?_⟩) (by assumption) ?_
   rotate_left
   ·intro wq hSw
    go_simp
    try with_reducible rfl
   simp only [Act.put,sA,sB,sC,sD,sE,sF]
   refine wpAnyH_take (i:=5) (v:=?_) rfl (by kernel_rfl) (by kernel_rfl) (by kernel_rfl) (fun _ _ _ h=>h) (Or.inl ⟨by rfl,?_⟩) (by assumption) ?_
   rotate_left
   ·intro wq hSw
    go_simp
    try with_reducible rfl
   simp only [Act.put,sA,sB,sC,sD,sE,sF]
   refine wpAnyH_take (i:=6) (v:=?_) rfl (by kernel_rfl) (by kernel_rfl) (by kernel_rfl) (fun _ _ _ h=>h) (Or.inl ⟨by rfl,?_⟩) (by assumption) ?_
   rotate_left
   ·intro wq hSw
    go_simp
    try with_reducible rfl
   simp only [Act.put,sA,sB,sC,sD,sE,sF]
   have HZ:=hid ((HBb.out.block be (box_lt HZm.out)).trans HZm.out)
   refine wpAnyH_ready (rs:=[8]) (by kernel_rfl) (by simp) ?_
   refine AllReadyH.cons rfl (fun K hK=>?_) AllReadyH.nil
   refine step_store_box rfl 40 _ _ rfl be (bs.1.cs none 0 fA fc) (by first | rfl | (rw [hbe];rfl)) rfl (zero_there HZ.out) (by kernel_rfl) (evOne bs.1 none 0 fA fc) ?_
   obtain ⟨ws,hws⟩:∃ x,x=World.setCells wb be 0 (bs.1.cs none 0 fA fc).toList:=⟨_,rfl⟩
   have hrow:=zero_row HZ.out bs.1 none 0 fA fc
   have hgs:=grown_setCells wb be 0 (bs.1.cs none 0 fA fc).toList
   rw [← hws] at hrow hgs ⊢
   have HRow:=hid hrow
   have HGs:=hid hgs
   have HWs:Hid (Below W.heap.size W ws):=hid (hHeld.grown hgs (by have:=hHeld.size;omega) (fun k hk=>by injection hk with hk;omega))
   refine hK.out _ _ HWs.out ?_
   clear hK K hHeld hws hrow hgs
   intro hHeld
   refine wpAnyH_take (i:=9) (v:=?_) rfl (by kernel_rfl) (by kernel_rfl) (by kernel_rfl) (fun _ _ _ h=>h) (Or.inl ⟨by rfl,?_⟩) (by assumption) ?_
   rotate_left
   ·intro wq hSw
    go_simp
    try with_reducible rfl
   simp only [Act.put,sA,sB,sC,sD,sE,sF]
   refine wpAnyH_done (by kernel_rfl) ?_ _
   clear hHeld
   go_wp2
   go_meet
   rw [← HBs.out]
   exact ⟨HWs.out,rfl,be,fA,fc,(by first | rfl | (rw [hbe];done)),hbe0,HRow.out,HRf.out.turn (fun i hi hl=>HGs.out.block i hl (fun e=>by have:=HFb.out i hi;have:=Option.some.inj e;omega)) HGs.out.size,HFl.out⟩
 case' rest=>obtain ⟨hb5,rfl,beE,gA,gc,rfl,hbe,hrow,hri,hrl⟩:=hcut
 rw [sb5]
 have HEa:=hid ((hb5.block beA (box_lt HEa.out)).trans HEa.out)
 have HSm:=hid (HSm.out.below hb5)
 clear hrow hri hrl hb5 hbe
 go_upto_region 16 with fail
 have hb6:Below wc.heap.size wc (wc.alloc (.cells (raw6.cs none 0) 48)):=by repeat (first | with_reducible exact Below.refl _ _ | with_reducible assumption | with_reducible refine Below.drew ?_ | with_reducible refine Below.alloc ?_ (by first | omega | (simp;done) | (simp;omega)) _)
 have hlA:=box_lt HEa.out
 have HSm:=hid ((HSm.out.below hb6).fresh raw6 (MapKept.heap_alloc wc _).1 HSm.out.b.size (by have:=box_lt HSm.out.p;omega))
 have HEa:=hid ((hb6.block beA hlA).trans HEa.out)
 have hneJ:beA≠wc.heap.size:=by omega
 obtain ⟨W,hW⟩:∃ x,x=wc.alloc (.cells (raw6.cs none 0) 48):=⟨_,rfl⟩
 have hW':wc.alloc (.cells #[.int .i64 12,.int .i64 0,.int .i64 5,.int .i64 0,.int .i64 0,.int .i64 0,.int .i64 24,.int .i64 0,.string ⟨#[]⟩,.slice none 0 0] 48)=W:=hW.symm
 rw [← hW] at HSm HEa
 rw [hW']
 obtain ⟨bJ,hbJ⟩:∃ b,b=wc.heap.size:=⟨_,rfl⟩
 rw [← hbJ] at HSm hneJ ⊢
 clear hW hW' hb6 hbJ hneA hlA
 obtain ⟨bR,hbR⟩:∃ b,b=bJ:=⟨_,rfl⟩
 subst hbR
 go_cut [14,15] (fun v u wx=>EvPost (backS mailBP [thePair] 0 raw6 5) W v u wx)
 case first =>
  obtain ⟨bs,hbs⟩:∃ b,b=backS mailBP [thePair] 0 raw6 5:=⟨_,rfl⟩
  have HBs:=hid hbs
  clear hbs
  have HRS:=hid (show ∀ w',Below W.heap.size W w'→w'.rangeAt bR 0 ((raw6).cs none 0).toList from fun w' h=>(HSm.out.below h).raw)
  go_wp2_with fail
  refine wp_region_held_drew (S:=fun w'=>Below W.heap.size W w') (by kernel_rfl) ((Below.refl _ _).drew) (fun hHeld=>?_)
  obtain ⟨Wd,hWd⟩:∃ x,x=W.drew:=⟨_,rfl⟩
  rw [← hWd] at hHeld ⊢
  clear hWd
  refine wpAnyH_take (i:=1) (v:=?_) rfl (by kernel_rfl) (by kernel_rfl) (by kernel_rfl) (fun _ _ _ h=>h) (Or.inl ⟨by rfl,?_⟩) (by assumption) ?_
  rotate_left
  ·intro wq hSw
   go_simp
   try with_reducible rfl
  simp only [Act.put,sA,sB,sC,sD,sE,sF]
  refine' wpAnyH_take (i:=2) rfl (by kernel_rfl) (by kernel_rfl) (by kernel_rfl) (fun _ _ _ h=>h) (yieldsIf_load_mid (by rfl) _ _ rfl _ _ rfl _ _ HRS.out Tryz.underlying48 rfl (by kernel_rfl)) (by assumption) ?_
  simp only [Act.put,sA,sB,sC,sD,sE,sF]
  refine wpAnyH_ready (rs:=[0,7]) (by kernel_rfl) (by simp) ?_
  refine AllReadyH.cons rfl (fun K hK=>?_) (AllReadyH.cons rfl (fun K hK=>?_) AllReadyH.nil)
  ·skip
   go_simp
   refine (lMail_any _).mono ?_
   rintro en wm ⟨hbm,mA,rfl,hmr⟩
   have HMr:=hid hmr
   have HWm:=hid (hHeld.trans (hbm.mono hHeld.size))
   go_wp2_with fail
   refine hK.out _ _ HWm.out ?_
   clear hK K hHeld hmr
   intro hHeld
   refine wpAnyH_ready (rs:=[3,7]) (by kernel_rfl) (by simp) ?_
   refine AllReadyH.cons rfl (fun K hK=>?_) (AllReadyH.cons rfl (fun K hK=>?_) AllReadyH.nil)
   ·skip
    go_simp
    refine (bBack_any mailBP mA 1 [thePair] (some ⟨bP,0,none⟩) 1 1 0 raw6 none 0 5 _ rfl (mailOk (HMr.out)) (by decide) ((HSm.out.below hHeld).rdp) (by decide) (rawOk0 rfl (by decide +kernel)) (by decide)).mono ?_
    rintro en wb ⟨hbb,fA,fc,rfl,hf,hfl,hfb⟩
    simp only [← HBs.out] at hf hfl ⊢
    have HFb:=hid hfb
    have HRf:=hid hf
    have HFl:=hid hfl
    have HWb:=hid (hHeld.trans (hbb.mono hHeld.size))
    have HBb:=hid hbb
    go_wp2_with fail
    refine hK.out _ _ HWb.out ?_
    clear hK K hHeld hf hfl hbb hfb
    intro hHeld
    refine wpAnyH_take (i:=4) (v:=?_) rfl (by kernel_rfl) (by kernel_rfl) (by kernel_rfl) (fun _ _ _ h=>h) (Or.inl ⟨by rfl,?_⟩) (by assumption) ?_
    rotate_left
    ·intro wq hSw
     go_simp
     try with_reducible rfl
    simp only [Act.put,sA,sB,sC,sD,sE,sF]
    refine wpAnyH_take (i:=5) (v:=?_) rfl (by kernel_rfl) (by kernel_rfl) (by kernel_rfl) (fun _ _ _ h=>h) (Or.inl ⟨by rfl,?_⟩) (by assumption) ?_
    rotate_left
    ·intro wq hSw
     go_simp
     try with_reducible rfl
    simp only [Act.put,sA,sB,sC,sD,sE,sF]
    refine wpAnyH_take (i:=6) (v:=?_) rfl (by kernel_rfl) (by kernel_rfl) (by kernel_rfl) (fun _ _ _ h=>h) (Or.inl ⟨by rfl,?_⟩) (by assumption) ?_
    rotate_left
    ·intro wq hSw
     go_simp
     try with_reducible rfl
    simp only [Act.put,sA,sB,sC,sD,sE,sF]
    refine wpAnyH_ready (rs:=[7]) (by kernel_rfl) (by simp) ?_
    refine AllReadyH.cons rfl (fun K hK=>?_) AllReadyH.nil
    go_simp
    obtain ⟨wa,hwa⟩:∃ x,x=(wb).alloc (.cells zeroE 40):=⟨_,rfl⟩
    have hba:Below (wb).heap.size wb wa:=by rw [hwa];exact (Below.refl _ _).alloc (Nat.le_refl _) _
    have hze:wa.heap[(wb).heap.size]?=some (.cells zeroE 40 (0,0)):=by rw [hwa];exact (MapKept.heap_alloc _ _).1
    have HZe:=hid hze
    have HBa:=hid hba
    refine (hK.out _ _ (hHeld.alloc hHeld.size _) ?_)
    have hHa:Below W.heap.size W wa:=hHeld.trans (hba.mono hHeld.size)
    have hlo:=hHeld.size
    clear hK K hHeld
    intro hHeld
    have hwa':(wb).alloc (.cells #[.int .i64 0,.int .i64 0,.slice none 0 0,.int .i64 0,.int .i64 0,.int .i64 0,.int .i64 0,.int .i64 0,.int .i64 0,.string ⟨#[]⟩,.slice none 0 0,.int .i64 0] 40)=wa:=hwa.symm
    rw [hwa'] at hHeld ⊢
    obtain ⟨be,hbe⟩:∃ b,b=(wb).heap.size:=⟨_,rfl⟩
    rw [← hbe] at HZe
    rw [← hbe]
    have hbe0:W.heap.size≤be:=by omega
    clear hwa hwa' hba hze hHa
    have HZ:=HZe
    refine wpAnyH_ready (rs:=[8]) (by kernel_rfl) (by simp) ?_
    refine AllReadyH.cons rfl (fun K hK=>?_) AllReadyH.nil
    refine step_store_box rfl 40 _ _ rfl be (bs.1.cs none 0 fA fc) (by first | rfl | (rw [hbe];rfl)) rfl (zero_there HZ.out) (by kernel_rfl) (evOne bs.1 none 0 fA fc) ?_
    obtain ⟨ws,hws⟩:∃ x,x=World.setCells wa be 0 (bs.1.cs none 0 fA fc).toList:=⟨_,rfl⟩
    have hrow:=zero_row HZ.out bs.1 none 0 fA fc
    have hgs:=grown_setCells wa be 0 (bs.1.cs none 0 fA fc).toList
    rw [← hws] at hrow hgs ⊢
    have HRow:=hid hrow
    have HGs:=hid hgs
    have HWs:Hid (Below W.heap.size W ws):=hid (hHeld.grown hgs (by have:=hHeld.size;omega) (fun k hk=>by injection hk with hk;omega))
    refine hK.out _ _ HWs.out ?_
    clear hK K hHeld hws hrow hgs
    intro hHeld
    refine wpAnyH_take (i:=9) (v:=?_) rfl (by kernel_rfl) (by kernel_rfl) (by kernel_rfl) (fun _ _ _ h=>h) (Or.inl ⟨by rfl,?_⟩) (by assumption) ?_
    rotate_left
    ·intro wq hSw
     go_simp
     try with_reducible rfl
    simp only [Act.put,sA,sB,sC,sD,sE,sF]
    refine wpAnyH_done (by kernel_rfl) ?_ _
    clear hHeld
    go_wp2
    go_meet
    rw [← HBs.out]
    exact ⟨HWs.out,rfl,be,fA,fc,(by first | rfl | (rw [hbe];done)),hbe0,HRow.out,HRf.out.now (HBa.out.grown HGs.out HBa.out.size (fun k hk=>by have:=Option.some.inj hk;omega)),HFl.out⟩
   ·skip
    go_simp
    obtain ⟨wa,hwa⟩:∃ x,x=(wm).alloc (.cells zeroE 40):=⟨_,rfl⟩
    have hba:Below (wm).heap.size wm wa:=by rw [hwa];exact (Below.refl _ _).alloc (Nat.le_refl _) _
    have hze:wa.heap[(wm).heap.size]?=some (.cells zeroE 40 (0,0)):=by rw [hwa];exact (MapKept.heap_alloc _ _).1
    have HZe:=hid hze
    have HBa:=hid hba
    refine (hK.out _ _ (hHeld.alloc hHeld.size _) ?_)
    have hHa:Below W.heap.size W wa:=hHeld.trans (hba.mono hHeld.size)
    have hlo:=hHeld.size
    clear hK K hHeld
    intro hHeld
    have hwa':(wm).alloc (.cells #[.int .i64 0,.int .i64 0,.slice none 0 0,.int .i64 0,.int .i64 0,.int .i64 0,.int .i64 0,.int .i64 0,.int .i64 0,.string ⟨#[]⟩,.slice none 0 0,.int .i64 0] 40)=wa:=hwa.symm
    rw [hwa'] at hHeld ⊢
    obtain ⟨be,hbe⟩:∃ b,b=(wm).heap.size:=⟨_,rfl⟩
    rw [← hbe] at HZe
    rw [← hbe]
    have hbe0:W.heap.size≤be:=by omega
    clear hwa hwa' hba hze hHa
    refine wpAnyH_ready (rs:=[3]) (by kernel_rfl) (by simp) ?_
    refine AllReadyH.cons rfl (fun K hK=>?_) AllReadyH.nil
    go_simp
    refine (bBack_any mailBP mA 1 [thePair] (some ⟨bP,0,none⟩) 1 1 0 raw6 none 0 5 _ rfl (mailOk ((HMr.out.now HBa.out))) (by decide) ((HSm.out.below hHeld).rdp) (by decide) (rawOk0 rfl (by decide +kernel)) (by decide)).mono ?_
    rintro en wb ⟨hbb,fA,fc,rfl,hf,hfl,hfb⟩
    simp only [← HBs.out] at hf hfl ⊢
    have HFb:=hid hfb
    have HRf:=hid hf
    have HFl:=hid hfl
    have HWb:=hid (hHeld.trans (hbb.mono hHeld.size))
    have HBb:=hid hbb
    go_wp2_with fail
    refine hK.out _ _ HWb.out ?_
    clear hK K hHeld hf hfl hbb hfb
    intro hHeld
    refine wpAnyH_take (i:=4) (v:=?_) rfl (by kernel_rfl) (by kernel_rfl) (by kernel_rfl) (fun _ _ _ h=>h) (Or.inl ⟨by rfl,?_⟩) (by assumption) ?_
    rotate_left
    ·intro wq hSw
     go_simp
     try with_reducible rfl
    simp only [Act.put,sA,sB,sC,sD,sE,sF]
    refine wpAnyH_take (i:=5) (v:=?_) rfl (by kernel_rfl) (by kernel_rfl) (by kernel_rfl) (fun _ _ _ h=>h) (Or.inl ⟨by rfl,?_⟩) (by assumption) ?_
    rotate_left
    ·intro wq hSw
     go_simp
     try with_reducible rfl
    simp only [Act.put,sA,sB,sC,sD,sE,sF]
    refine wpAnyH_take (i:=6) (v:=?_) rfl (by kernel_rfl) (by kernel_rfl) (by kernel_rfl) (fun _ _ _ h=>h) (Or.inl ⟨by rfl,?_⟩) (by assumption) ?_
    rotate_left
    ·intro wq hSw
     go_simp
     try with_reducible rfl
    simp only [Act.put,sA,sB,sC,sD,sE,sF]
    have HZ:=hid ((HBb.out.block be (box_lt HZe.out)).trans HZe.out)
    have hbw:=box_lt HZe.out
    refine wpAnyH_ready (rs:=[8]) (by kernel_rfl) (by simp) ?_
    refine AllReadyH.cons rfl (fun K hK=>?_) AllReadyH.nil
    refine step_store_box rfl 40 _ _ rfl be (bs.1.cs none 0 fA fc) (by first | rfl | (rw [hbe];rfl)) rfl (zero_there HZ.out) (by kernel_rfl) (evOne bs.1 none 0 fA fc) ?_
    obtain ⟨ws,hws⟩:∃ x,x=World.setCells wb be 0 (bs.1.cs none 0 fA fc).toList:=⟨_,rfl⟩
    have hrow:=zero_row HZ.out bs.1 none 0 fA fc
    have hgs:=grown_setCells wb be 0 (bs.1.cs none 0 fA fc).toList
    rw [← hws] at hrow hgs ⊢
    have HRow:=hid hrow
    have HGs:=hid hgs
    have HWs:Hid (Below W.heap.size W ws):=hid (hHeld.grown hgs (by have:=hHeld.size;omega) (fun k hk=>by injection hk with hk;omega))
    refine hK.out _ _ HWs.out ?_
    clear hK K hHeld hws hrow hgs
    intro hHeld
    refine wpAnyH_take (i:=9) (v:=?_) rfl (by kernel_rfl) (by kernel_rfl) (by kernel_rfl) (fun _ _ _ h=>h) (Or.inl ⟨by rfl,?_⟩) (by assumption) ?_
    rotate_left
    ·intro wq hSw
     go_simp
     try with_reducible rfl
    simp only [Act.put,sA,sB,sC,sD,sE,sF]
    refine wpAnyH_done (by kernel_rfl) ?_ _
    clear hHeld
    go_wp2
    go_meet
    rw [← HBs.out]
    exact ⟨HWs.out,rfl,be,fA,fc,(by first | rfl | (rw [hbe];done)),hbe0,HRow.out,HRf.out.turn (fun i hi hl=>HGs.out.block i hl (fun e=>by have:=HFb.out i hi;have:=Option.some.inj e;omega)) HGs.out.size,HFl.out⟩
  ·skip
   go_simp
   obtain ⟨wa,hwa⟩:∃ x,x=(Wd).alloc (.cells zeroE 40):=⟨_,rfl⟩
   have hba:Below (Wd).heap.size Wd wa:=by rw [hwa];exact (Below.refl _ _).alloc (Nat.le_refl _) _
   have hze:wa.heap[(Wd).heap.size]?=some (.cells zeroE 40 (0,0)):=by rw [hwa];exact (MapKept.heap_alloc _ _).1
   have HZe:=hid hze
   have HBa:=hid hba
   refine (hK.out _ _ (hHeld.alloc hHeld.size _) ?_)
   have hHa:Below W.heap.size W wa:=hHeld.trans (hba.mono hHeld.size)
   have hlo:=hHeld.size
   clear hK K hHeld
   intro hHeld
   have hwa':(Wd).alloc (.cells #[.int .i64 0,.int .i64 0,.slice none 0 0,.int .i64 0,.int .i64 0,.int .i64 0,.int .i64 0,.int .i64 0,.int .i64 0,.string ⟨#[]⟩,.slice none 0 0,.int .i64 0] 40)=wa:=hwa.symm
   rw [hwa'] at hHeld ⊢
   obtain ⟨be,hbe⟩:∃ b,b=(Wd).heap.size:=⟨_,rfl⟩
   rw [← hbe] at HZe
   rw [← hbe]
   have hbe0:W.heap.size≤be:=by omega
   clear hwa hwa' hba hze hHa
   refine wpAnyH_ready (rs:=[0]) (by kernel_rfl) (by simp) ?_
   refine AllReadyH.cons rfl (fun K hK=>?_) AllReadyH.nil
   go_simp
   refine (lMail_any _).mono ?_
   rintro en wm ⟨hbm,mA,rfl,hmr⟩
   have HMr:=hid hmr
   have HWm:=hid (hHeld.trans (hbm.mono hHeld.size))
   go_wp2_with fail
   refine hK.out _ _ HWm.out ?_
   clear hK K hHeld hmr
   intro hHeld
   refine wpAnyH_ready (rs:=[3]) (by kernel_rfl) (by simp) ?_
   refine AllReadyH.cons rfl (fun K hK=>?_) AllReadyH.nil
   have HZm:=hid ((hbm.block be (box_lt HZe.out)).trans HZe.out)
   have hbw:=box_lt HZm.out
   go_simp
   refine (bBack_any mailBP mA 1 [thePair] (some ⟨bP,0,none⟩) 1 1 0 raw6 none 0 5 _ rfl (mailOk (HMr.out)) (by decide) ((HSm.out.below hHeld).rdp) (by decide) (rawOk0 rfl (by decide +kernel)) (by decide)).mono ?_
   rintro en wb ⟨hbb,fA,fc,rfl,hf,hfl,hfb⟩
   simp only [← HBs.out] at hf hfl ⊢
   have HFb:=hid hfb
   have HRf:=hid hf
   have HFl:=hid hfl
   have HWb:=hid (hHeld.trans (hbb.mono hHeld.size))
   have HBb:=hid hbb
   go_wp2_with fail
   refine hK.out _ _ HWb.out ?_
   clear hK K hHeld hf hfl hbb hfb
   intro hHeld
   refine wpAnyH_take (i:=4) (v:=?_) rfl (by kernel_rfl) (by kernel_rfl) (by kernel_rfl) (fun _ _ _ h=>h) (Or.inl ⟨by rfl,?_⟩) (by assumption) ?_
   rotate_left
   ·intro wq hSw
    go_simp
    try with_reducible rfl
   simp only [Act.put,sA,sB,sC,sD,sE,sF]
   refine wpAnyH_take (i:=5) (v:=?_) rfl (by kernel_rfl) (by kernel_rfl) (by kernel_rfl) (fun _ _ _ h=>h) (Or.inl ⟨by rfl,?_⟩) (by assumption) ?_
   rotate_left
   ·intro wq hSw
    go_simp
    try with_reducible rfl
   simp only [Act.put,sA,sB,sC,sD,sE,sF]
   refine wpAnyH_take (i:=6) (v:=?_) rfl (by kernel_rfl) (by kernel_rfl) (by kernel_rfl) (fun _ _ _ h=>h) (Or.inl ⟨by rfl,?_⟩) (by assumption) ?_
   rotate_left
   ·intro wq hSw
    go_simp
    try with_reducible rfl
   simp only [Act.put,sA,sB,sC,sD,sE,sF]
   have HZ:=hid ((HBb.out.block be (box_lt HZm.out)).trans HZm.out)
   refine wpAnyH_ready (rs:=[8]) (by kernel_rfl) (by simp) ?_
   refine AllReadyH.cons rfl (fun K hK=>?_) AllReadyH.nil
   refine step_store_box rfl 40 _ _ rfl be (bs.1.cs none 0 fA fc) (by first | rfl | (rw [hbe];rfl)) rfl (zero_there HZ.out) (by kernel_rfl) (evOne bs.1 none 0 fA fc) ?_
   obtain ⟨ws,hws⟩:∃ x,x=World.setCells wb be 0 (bs.1.cs none 0 fA fc).toList:=⟨_,rfl⟩
   have hrow:=zero_row HZ.out bs.1 none 0 fA fc
   have hgs:=grown_setCells wb be 0 (bs.1.cs none 0 fA fc).toList
   rw [← hws] at hrow hgs ⊢
   have HRow:=hid hrow
   have HGs:=hid hgs
   have HWs:Hid (Below W.heap.size W ws):=hid (hHeld.grown hgs (by have:=hHeld.size;omega) (fun k hk=>by injection hk with hk;omega))
   refine hK.out _ _ HWs.out ?_
   clear hK K hHeld hws hrow hgs
   intro hHeld
   refine wpAnyH_take (i:=9) (v:=?_) rfl (by kernel_rfl) (by kernel_rfl) (by kernel_rfl) (fun _ _ _ h=>h) (Or.inl ⟨by rfl,?_⟩) (by assumption) ?_
   rotate_left
   ·intro wq hSw
    go_simp
    try with_reducible rfl
   simp only [Act.put,sA,sB,sC,sD,sE,sF]
   refine wpAnyH_done (by kernel_rfl) ?_ _
   clear hHeld
   go_wp2
   go_meet
   rw [← HBs.out]
   exact ⟨HWs.out,rfl,be,fA,fc,(by first | rfl | (rw [hbe];done)),hbe0,HRow.out,HRf.out.turn (fun i hi hl=>HGs.out.block i hl (fun e=>by have:=HFb.out i hi;have:=Option.some.inj e;omega)) HGs.out.size,HFl.out⟩
 case' rest=>obtain ⟨hb5,rfl,beF,gA,gc,rfl,hbe,hrow,hri,hrl⟩:=hcut
 rw [sc6] at hrow
 rw [sb6]
 have hbR:=box_lt HSm.out.r
 have hneF:beF≠bR:=by omega
 have HEf:=hid hrow
 have HEa:=hid ((hb5.block beA (box_lt HEa.out)).trans HEa.out)
 have HSm:=hid (HSm.out.below hb5)
 clear hrow hri hrl hb5 hbe
 have rb:=HSm.out.r
 have bj:=box_cell rb 6 _ rfl
 have bz:=fun i=>box_free rb i
 go_upto_region 18 with fail
 obtain ⟨Wn,hWn⟩:∃ x,x=(wc).setCell ⟨bR,6,none⟩ (.int .i64 (-1)):=⟨_,rfl⟩
 have HSn:=hid (HSm.out.set raw7 6 (.int .i64 (-1)) rfl)
 rw [← hWn] at HSn ⊢
 have HEn:Hid (∀ i o,i≠bR→(wc).heap[i]?=some o→Wn.heap[i]?=some o):=hid (fun i o hi h=>by rw [hWn];exact (heap_setCell_other _ _ _ _ hi).trans h)
 clear rb bj bz hWn HSm
 have HSm:=HSn
 clear HSn
 have HEa:=hid (HEn.out _ _ hneJ HEa.out)
 have HEf:=hid (HEn.out _ _ hneF HEf.out)
 clear HEn
 obtain ⟨W,hW⟩:∃ x,x=Wn:=⟨_,rfl⟩
 subst hW
 go_cut [16,17] (fun v u wx=>EvPost (backS mailBP [thePair] 0 raw7 5) W v u wx)
 case first =>
  obtain ⟨bs,hbs⟩:∃ b,b=backS mailBP [thePair] 0 raw7 5:=⟨_,rfl⟩
  have HBs:=hid hbs
  clear hbs
  have HRS:=hid (show ∀ w',Below W.heap.size W w'→w'.rangeAt bR 0 ((raw7).cs none 0).toList from fun w' h=>(HSm.out.below h).raw)
  go_wp2_with fail
  refine wp_region_held_drew (S:=fun w'=>Below W.heap.size W w') (by kernel_rfl) ((Below.refl _ _).drew) (fun hHeld=>?_)
  obtain ⟨Wd,hWd⟩:∃ x,x=W.drew:=⟨_,rfl⟩
  rw [← hWd] at hHeld ⊢
  clear hWd
  refine wpAnyH_take (i:=1) (v:=?_) rfl (by kernel_rfl) (by kernel_rfl) (by kernel_rfl) (fun _ _ _ h=>h) (Or.inl ⟨by rfl,?_⟩) (by assumption) ?_
  rotate_left
  ·intro wq hSw
   go_simp
   try with_reducible rfl
  simp only [Act.put,sA,sB,sC,sD,sE,sF]
  refine' wpAnyH_take (i:=2) rfl (by kernel_rfl) (by kernel_rfl) (by kernel_rfl) (fun _ _ _ h=>h) (yieldsIf_load_mid (by rfl) _ _ rfl _ _ rfl _ _ HRS.out Tryz.underlying48 rfl (by kernel_rfl)) (by assumption) ?_
  simp only [Act.put,sA,sB,sC,sD,sE,sF]
  refine wpAnyH_ready (rs:=[0,7]) (by kernel_rfl) (by simp) ?_
  refine AllReadyH.cons rfl (fun K hK=>?_) (AllReadyH.cons rfl (fun K hK=>?_) AllReadyH.nil)
  ·skip
   go_simp
   refine (lMail_any _).mono ?_
   rintro en wm ⟨hbm,mA,rfl,hmr⟩
   have HMr:=hid hmr
   have HWm:=hid (hHeld.trans (hbm.mono hHeld.size))
   go_wp2_with fail
   refine hK.out _ _ HWm.out ?_
   clear hK K hHeld hmr
   intro hHeld
   refine wpAnyH_ready (rs:=[3,7]) (by kernel_rfl) (by simp) ?_
   refine AllReadyH.cons rfl (fun K hK=>?_) (AllReadyH.cons rfl (fun K hK=>?_) AllReadyH.nil)
   ·skip
    go_simp
    refine (bBack_any mailBP mA 1 [thePair] (some ⟨bP,0,none⟩) 1 1 0 raw7 none 0 5 _ rfl (mailOk (HMr.out)) (by decide) ((HSm.out.below hHeld).rdp) (by decide) (rawOk0 rfl (by decide +kernel)) (by decide)).mono ?_
    rintro en wb ⟨hbb,fA,fc,rfl,hf,hfl,hfb⟩
    simp only [← HBs.out] at hf hfl ⊢
    have HFb:=hid hfb
    have HRf:=hid hf
    have HFl:=hid hfl
    have HWb:=hid (hHeld.trans (hbb.mono hHeld.size))
    have HBb:=hid hbb
    go_wp2_with fail
    refine hK.out _ _ HWb.out ?_
    clear hK K hHeld hf hfl hbb hfb
    intro hHeld
    refine wpAnyH_take (i:=4) (v:=?_) rfl (by kernel_rfl) (by kernel_rfl) (by kernel_rfl) (fun _ _ _ h=>h) (Or.inl ⟨by rfl,?_⟩) (by assumption) ?_
    rotate_left
    ·intro wq hSw
     go_simp
     try with_reducible rfl
    simp only [Act.put,sA,sB,sC,sD,sE,sF]
    refine wpAnyH_take (i:=5) (v:=?_) rfl (by kernel_rfl) (by kernel_rfl) (by kernel_rfl) (fun _ _ _ h=>h) (Or.inl ⟨by rfl,?_⟩) (by assumption) ?_
    rotate_left
    ·intro wq hSw
     go_simp
     try with_reducible rfl
    simp only [Act.put,sA,sB,sC,sD,sE,sF]
    refine wpAnyH_take (i:=6) (v:=?_) rfl (by kernel_rfl) (by kernel_rfl) (by kernel_rfl) (fun _ _ _ h=>h) (Or.inl ⟨by rfl,?_⟩) (by assumption) ?_
    rotate_left
    ·intro wq hSw
     go_simp
     try with_reducible rfl
    simp only [Act.put,sA,sB,sC,sD,sE,sF]
    refine wpAnyH_ready (rs:=[7]) (by kernel_rfl) (by simp) ?_
    refine AllReadyH.cons rfl (fun K hK=>?_) AllReadyH.nil
    go_simp
    obtain ⟨wa,hwa⟩:∃ x,x=(wb).alloc (.cells zeroE 40):=⟨_,rfl⟩
    have hba:Below (wb).heap.size wb wa:=by rw [hwa];exact (Below.refl _ _).alloc (Nat.le_refl _) _
    have hze:wa.heap[(wb).heap.size]?=some (.cells zeroE 40 (0,0)):=by rw [hwa];exact (MapKept.heap_alloc _ _).1
    have HZe:=hid hze
    have HBa:=hid hba
    refine (hK.out _ _ (hHeld.alloc hHeld.size _) ?_)
    have hHa:Below W.heap.size W wa:=hHeld.trans (hba.mono hHeld.size)
    have hlo:=hHeld.size
    clear hK K hHeld
    intro hHeld
    have hwa':(wb).alloc (.cells #[.int .i64 0,.int .i64 0,.slice none 0 0,.int .i64 0,.int .i64 0,.int .i64 0,.int .i64 0,.int .i64 0,.int .i64 0,.string ⟨#[]⟩,.slice none 0 0,.int .i64 0] 40)=wa:=hwa.symm
    rw [hwa'] at hHeld ⊢
    obtain ⟨be,hbe⟩:∃ b,b=(wb).heap.size:=⟨_,rfl⟩
    rw [← hbe] at HZe
    rw [← hbe]
    have hbe0:W.heap.size≤be:=by omega
    clear hwa hwa' hba hze hHa
    have HZ:=HZe
    refine wpAnyH_ready (rs:=[8]) (by kernel_rfl) (by simp) ?_
    refine AllReadyH.cons rfl (fun K hK=>?_) AllReadyH.nil
    refine step_store_box rfl 40 _ _ rfl be (bs.1.cs none 0 fA fc) (by first | rfl | (rw [hbe];rfl)) rfl (zero_there HZ.out) (by kernel_rfl) (evOne bs.1 none 0 fA fc) ?_
    obtain ⟨ws,hws⟩:∃ x,x=World.setCells wa be 0 (bs.1.cs none 0 fA fc).toList:=⟨_,rfl⟩
    have hrow:=zero_row HZ.out bs.1 none 0 fA fc
    have hgs:=grown_setCells wa be 0 (bs.1.cs none 0 fA fc).toList
    rw [← hws] at hrow hgs ⊢
    have HRow:=hid hrow
    have HGs:=hid hgs
    have HWs:Hid (Below W.heap.size W ws):=hid (hHeld.grown hgs (by have:=hHeld.size;omega) (fun k hk=>by injection hk with hk;omega))
    refine hK.out _ _ HWs.out ?_
    clear hK K hHeld hws hrow hgs
    intro hHeld
    refine wpAnyH_take (i:=9) (v:=?_) rfl (by kernel_rfl) (by kernel_rfl) (by kernel_rfl) (fun _ _ _ h=>h) (Or.inl ⟨by rfl,?_⟩) (by assumption) ?_
    rotate_left
    ·intro wq hSw
     go_simp
     try with_reducible rfl
    simp only [Act.put,sA,sB,sC,sD,sE,sF]
    refine wpAnyH_done (by kernel_rfl) ?_ _
    clear hHeld
    go_wp2
    go_meet
    rw [← HBs.out]
    exact ⟨HWs.out,rfl,be,fA,fc,(by first | rfl | (rw [hbe];done)),hbe0,HRow.out,HRf.out.now (HBa.out.grown HGs.out HBa.out.size (fun k hk=>by have:=Option.some.inj hk;omega)),HFl.out⟩
   ·skip
    go_simp
    obtain ⟨wa,hwa⟩:∃ x,x=(wm).alloc (.cells zeroE 40):=⟨_,rfl⟩
    have hba:Below (wm).heap.size wm wa:=by rw [hwa];exact (Below.refl _ _).alloc (Nat.le_refl _) _
    have hze:wa.heap[(wm).heap.size]?=some (.cells zeroE 40 (0,0)):=by rw [hwa];exact (MapKept.heap_alloc _ _).1
    have HZe:=hid hze
    have HBa:=hid hba
    refine (hK.out _ _ (hHeld.alloc hHeld.size _) ?_)
    have hHa:Below W.heap.size W wa:=hHeld.trans (hba.mono hHeld.size)
    have hlo:=hHeld.size
    clear hK K hHeld
    intro hHeld
    have hwa':(wm).alloc (.cells #[.int .i64 0,.int .i64 0,.slice none 0 0,.int .i64 0,.int .i64 0,.int .i64 0,.int .i64 0,.int .i64 0,.int .i64 0,.string ⟨#[]⟩,.slice none 0 0,.int .i64 0] 40)=wa:=hwa.symm
    rw [hwa'] at hHeld ⊢
    obtain ⟨be,hbe⟩:∃ b,b=(wm).heap.size:=⟨_,rfl⟩
    rw [← hbe] at HZe
    rw [← hbe]
    have hbe0:W.heap.size≤be:=by omega
    clear hwa hwa' hba hze hHa
    refine wpAnyH_ready (rs:=[3]) (by kernel_rfl) (by simp) ?_
    refine AllReadyH.cons rfl (fun K hK=>?_) AllReadyH.nil
    go_simp
    refine (bBack_any mailBP mA 1 [thePair] (some ⟨bP,0,none⟩) 1 1 0 raw7 none 0 5 _ rfl (mailOk ((HMr.out.now HBa.out))) (by decide) ((HSm.out.below hHeld).rdp) (by decide) (rawOk0 rfl (by decide +kernel)) (by decide)).mono ?_
    rintro en wb ⟨hbb,fA,fc,rfl,hf,hfl,hfb⟩
    simp only [← HBs.out] at hf hfl ⊢
    have HFb:=hid hfb
    have HRf:=hid hf
    have HFl:=hid hfl
    have HWb:=hid (hHeld.trans (hbb.mono hHeld.size))
    have HBb:=hid hbb
    go_wp2_with fail
    refine hK.out _ _ HWb.out ?_
    clear hK K hHeld hf hfl hbb hfb
    intro hHeld
    refine wpAnyH_take (i:=4) (v:=?_) rfl (by kernel_rfl) (by kernel_rfl) (by kernel_rfl) (fun _ _ _ h=>h) (Or.inl ⟨by rfl,?_⟩) (by assumption) ?_
    rotate_left
    ·intro wq hSw
     go_simp
     try with_reducible rfl
    simp only [Act.put,sA,sB,sC,sD,sE,sF]
    refine wpAnyH_take (i:=5) (v:=?_) rfl (by kernel_rfl) (by kernel_rfl) (by kernel_rfl) (fun _ _ _ h=>h) (Or.inl ⟨by rfl,?_⟩) (by assumption) ?_
    rotate_left
    ·intro wq hSw
     go_simp
     try with_reducible rfl
    simp only [Act.put,sA,sB,sC,sD,sE,sF]
    refine wpAnyH_take (i:=6) (v:=?_) rfl (by kernel_rfl) (by kernel_rfl) (by kernel_rfl) (fun _ _ _ h=>h) (Or.inl ⟨by rfl,?_⟩) (by assumption) ?_
    rotate_left
    ·intro wq hSw
     go_simp
     try with_reducible rfl
    simp only [Act.put,sA,sB,sC,sD,sE,sF]
    have HZ:=hid ((HBb.out.block be (box_lt HZe.out)).trans HZe.out)
    have hbw:=box_lt HZe.out
    refine wpAnyH_ready (rs:=[8]) (by kernel_rfl) (by simp) ?_
    refine AllReadyH.cons rfl (fun K hK=>?_) AllReadyH.nil
    refine step_store_box rfl 40 _ _ rfl be (bs.1.cs none 0 fA fc) (by first | rfl | (rw [hbe];rfl)) rfl (zero_there HZ.out) (by kernel_rfl) (evOne bs.1 none 0 fA fc) ?_
    obtain ⟨ws,hws⟩:∃ x,x=World.setCells wb be 0 (bs.1.cs none 0 fA fc).toList:=⟨_,rfl⟩
    have hrow:=zero_row HZ.out bs.1 none 0 fA fc
    have hgs:=grown_setCells wb be 0 (bs.1.cs none 0 fA fc).toList
    rw [← hws] at hrow hgs ⊢
    have HRow:=hid hrow
    have HGs:=hid hgs
    have HWs:Hid (Below W.heap.size W ws):=hid (hHeld.grown hgs (by have:=hHeld.size;omega) (fun k hk=>by injection hk with hk;omega))
    refine hK.out _ _ HWs.out ?_
    clear hK K hHeld hws hrow hgs
    intro hHeld
    refine wpAnyH_take (i:=9) (v:=?_) rfl (by kernel_rfl) (by kernel_rfl) (by kernel_rfl) (fun _ _ _ h=>h) (Or.inl ⟨by rfl,?_⟩) (by assumption) ?_
    rotate_left
    ·intro wq hSw
     go_simp
     try with_reducible rfl
    simp only [Act.put,sA,sB,sC,sD,sE,sF]
    refine wpAnyH_done (by kernel_rfl) ?_ _
    clear hHeld
    go_wp2
    go_meet
    rw [← HBs.out]
    exact ⟨HWs.out,rfl,be,fA,fc,(by first | rfl | (rw [hbe];done)),hbe0,HRow.out,HRf.out.turn (fun i hi hl=>HGs.out.block i hl (fun e=>by have:=HFb.out i hi;have:=Option.some.inj e;omega)) HGs.out.size,HFl.out⟩
  ·skip
   go_simp
   obtain ⟨wa,hwa⟩:∃ x,x=(Wd).alloc (.cells zeroE 40):=⟨_,rfl⟩
   have hba:Below (Wd).heap.size Wd wa:=by rw [hwa];exact (Below.refl _ _).alloc (Nat.le_refl _) _
   have hze:wa.heap[(Wd).heap.size]?=some (.cells zeroE 40 (0,0)):=by rw [hwa];exact (MapKept.heap_alloc _ _).1
   have HZe:=hid hze
   have HBa:=hid hba
   refine (hK.out _ _ (hHeld.alloc hHeld.size _) ?_)
   have hHa:Below W.heap.size W wa:=hHeld.trans (hba.mono hHeld.size)
   have hlo:=hHeld.size
   clear hK K hHeld
   intro hHeld
   have hwa':(Wd).alloc (.cells #[.int .i64 0,.int .i64 0,.slice none 0 0,.int .i64 0,.int .i64 0,.int .i64 0,.int .i64 0,.int .i64 0,.int .i64 0,.string ⟨#[]⟩,.slice none 0 0,.int .i64 0] 40)=wa:=hwa.symm
   rw [hwa'] at hHeld ⊢
   obtain ⟨be,hbe⟩:∃ b,b=(Wd).heap.size:=⟨_,rfl⟩
   rw [← hbe] at HZe
   rw [← hbe]
   have hbe0:W.heap.size≤be:=by omega
   clear hwa hwa' hba hze hHa
   refine wpAnyH_ready (rs:=[0]) (by kernel_rfl) (by simp) ?_
   refine AllReadyH.cons rfl (fun K hK=>?_) AllReadyH.nil
   go_simp
   refine (lMail_any _).mono ?_
   rintro en wm ⟨hbm,mA,rfl,hmr⟩
   have HMr:=hid hmr
   have HWm:=hid (hHeld.trans (hbm.mono hHeld.size))
   go_wp2_with fail
   refine hK.out _ _ HWm.out ?_
   clear hK K hHeld hmr
   intro hHeld
   refine wpAnyH_ready (rs:=[3]) (by kernel_rfl) (by simp) ?_
   refine AllReadyH.cons rfl (fun K hK=>?_) AllReadyH.nil
   have HZm:=hid ((hbm.block be (box_lt HZe.out)).trans HZe.out)
   have hbw:=box_lt HZm.out
   go_simp
   refine (bBack_any mailBP mA 1 [thePair] (some ⟨bP,0,none⟩) 1 1 0 raw7 none 0 5 _ rfl (mailOk (HMr.out)) (by decide) ((HSm.out.below hHeld).rdp) (by decide) (rawOk0 rfl (by decide +kernel)) (by decide)).mono ?_
   rintro en wb ⟨hbb,fA,fc,rfl,hf,hfl,hfb⟩
   simp only [← HBs.out] at hf hfl ⊢
   have HFb:=hid hfb
   have HRf:=hid hf
   have HFl:=hid hfl
   have HWb:=hid (hHeld.trans (hbb.mono hHeld.size))
   have HBb:=hid hbb
   go_wp2_with fail
   refine hK.out _ _ HWb.out ?_
   clear hK K hHeld hf hfl hbb hfb
   intro hHeld
   refine wpAnyH_take (i:=4) (v:=?_) rfl (by kernel_rfl) (by kernel_rfl) (by kernel_rfl) (fun _ _ _ h=>h) (Or.inl ⟨by rfl,?_⟩) (by assumption) ?_
   rotate_left
   ·intro wq hSw
    go_simp
    try with_reducible rfl
   simp only [Act.put,sA,sB,sC,sD,sE,sF]
   refine wpAnyH_take (i:=5) (v:=?_) rfl (by kernel_rfl) (by kernel_rfl) (by kernel_rfl) (fun _ _ _ h=>h) (Or.inl ⟨by rfl,?_⟩) (by assumption) ?_
   rotate_left
   ·intro wq hSw
    go_simp
    try with_reducible rfl
   simp only [Act.put,sA,sB,sC,sD,sE,sF]
   refine wpAnyH_take (i:=6) (v:=?_) rfl (by kernel_rfl) (by kernel_rfl) (by kernel_rfl) (fun _ _ _ h=>h) (Or.inl ⟨by rfl,?_⟩) (by assumption) ?_
   rotate_left
   ·intro wq hSw
    go_simp
    try with_reducible rfl
   simp only [Act.put,sA,sB,sC,sD,sE,sF]
   have HZ:=hid ((HBb.out.block be (box_lt HZm.out)).trans HZm.out)
   refine wpAnyH_ready (rs:=[8]) (by kernel_rfl) (by simp) ?_
   refine AllReadyH.cons rfl (fun K hK=>?_) AllReadyH.nil
   refine step_store_box rfl 40 _ _ rfl be (bs.1.cs none 0 fA fc) (by first | rfl | (rw [hbe];rfl)) rfl (zero_there HZ.out) (by kernel_rfl) (evOne bs.1 none 0 fA fc) ?_
   obtain ⟨ws,hws⟩:∃ x,x=World.setCells wb be 0 (bs.1.cs none 0 fA fc).toList:=⟨_,rfl⟩
   have hrow:=zero_row HZ.out bs.1 none 0 fA fc
   have hgs:=grown_setCells wb be 0 (bs.1.cs none 0 fA fc).toList
   rw [← hws] at hrow hgs ⊢
   have HRow:=hid hrow
   have HGs:=hid hgs
   have HWs:Hid (Below W.heap.size W ws):=hid (hHeld.grown hgs (by have:=hHeld.size;omega) (fun k hk=>by injection hk with hk;omega))
   refine hK.out _ _ HWs.out ?_
   clear hK K hHeld hws hrow hgs
   intro hHeld
   refine wpAnyH_take (i:=9) (v:=?_) rfl (by kernel_rfl) (by kernel_rfl) (by kernel_rfl) (fun _ _ _ h=>h) (Or.inl ⟨by rfl,?_⟩) (by assumption) ?_
   rotate_left
   ·intro wq hSw
    go_simp
    try with_reducible rfl
   simp only [Act.put,sA,sB,sC,sD,sE,sF]
   refine wpAnyH_done (by kernel_rfl) ?_ _
   clear hHeld
   go_wp2
   go_meet
   rw [← HBs.out]
   exact ⟨HWs.out,rfl,be,fA,fc,(by first | rfl | (rw [hbe];done)),hbe0,HRow.out,HRf.out.turn (fun i hi hl=>HGs.out.block i hl (fun e=>by have:=HFb.out i hi;have:=Option.some.inj e;omega)) HGs.out.size,HFl.out⟩
 case' rest=>obtain ⟨hb5,rfl,beG,gA,gc,rfl,hbe,hrow,hri,hrl⟩:=hcut
 rw [sb7]
 have HEa:=hid ((hb5.block beA (box_lt HEa.out)).trans HEa.out)
 have HEf:=hid ((hb5.block beF (box_lt HEf.out)).trans HEf.out)
 have HB:=hid (HSm.out.b.trans (hb5.mono HSm.out.b.size))
 clear hrow hri hrl hb5 hbe HSm
 have HRa:=hid (range_block HEa.out rfl)
 have HRf:=hid (range_block HEf.out rfl)
 go_wp2_with ((with_reducible show wpList _ _ _ (Oper.mk _ (Op.load 40 _) _ _ _ _::_) _ _);refine wpList_load_g rfl 40 (.tmp 3) rfl beA 0 rfl _ _ HRa.out Tryz.underlying40 rfl (by kernel_rfl) ?_)
 refine (rSameE_any ev1 ev1 none 0 _ _ none 0 none 0 wc ⟨RdL.nil_,RdL.nil_,by decide,by decide,by decide⟩ ⟨RdL.nil_,RdL.nil_,by decide,by decide,by decide⟩).mono ?_
 rintro en w8 ⟨rfl,hb8⟩
 rw [(sameE_iff ev1 ev1).2 rfl]
 have HEf:=hid ((hb8.block beF (box_lt HEf.out)).trans HEf.out)
 have HB:=hid (HB.out.trans (hb8.mono HB.out.size))
 have HRf:=hid (range_block HEf.out rfl)
 clear hb8
 go_wp2_with ((with_reducible show wpList _ _ _ (Oper.mk _ (Op.load 40 _) _ _ _ _::_) _ _);refine wpList_load_g rfl 40 (.tmp 14) rfl beF 0 rfl _ _ HRf.out Tryz.underlying40 rfl (by kernel_rfl) ?_)
 refine (rSameE_any ev6 ev6 none 0 _ _ none 0 none 0 w8 ⟨RdL.nil_,RdL.nil_,by decide,by decide,by decide⟩ ⟨RdL.nil_,RdL.nil_,by decide,by decide,by decide⟩).mono ?_
 rintro en w9 ⟨rfl,hb9⟩
 rw [(sameE_iff ev6 ev6).2 rfl]
 have HB:=hid (HB.out.trans (hb9.mono HB.out.size))
 clear hb9
 go_wp2
 go_ret
 exact ⟨rfl,HB.out⟩
end Go.Proofs.YtlnnjdibkbabiaaGreatDoor
