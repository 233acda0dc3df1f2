/- Contracts and plain laws, joined: CvC, CvD, CvE. -/
import Derived.Test.YtlnnjdibkbabiaaGreatDoorQbk
import Derived.Test.YtlnnjdibkbabiaaGreatDoorQax
import Derived.Test.YtlnnjdibkbabiaaGreatDoorQaf
import Derived.Test.YtlnnjdibkbabiaaGreatDoorQaw
import Derived.Deep.DeepCutAuto
import Derived.Deep.CutBlock
import Derived.Test.YtlnnjdibkbabiaaGreatDoorQap
/- Contracts of conv.clone,event.Bare,event.Alike. -/
set_option linter.unusedSimpArgs false
set_option linter.unusedVariables false
namespace Go.Proofs.YtlnnjdibkbabiaaGreatDoor
set_option maxHeartbeats 4000000
open _root_.Go.Lib (hid)
open Go.RowKit
set_option maxRecDepth 100000
theorem EvLOk.now {w w':World} {x:EvL} (h:EvLOk w w.heap.size x) (hb:Below w.heap.size w w'):EvLOk w' w'.heap.size x:=⟨h.ok.now hb,h.cap⟩
theorem there_of_box {w:World} {b:Nat} {cs:Array Value} {t:TypeId} (h:w.heap[b]?=some (.cells cs t (0,0))):w.there b 0 cs.size:=by
 intro j hj
 rw [Nat.zero_add]
 refine ⟨?_,box_free h j⟩
 rw [box_cell h j _ (by rw [Array.getElem?_eq_getElem hj])]
 rfl
def CloneOut (e:EvL) (w:World) (en:Ending) (w':World):Prop :=
 ∃ x:EvL,en=.returned x.v∧x.ev=e.ev∧EvLOk w' w'.heap.size x∧(∀ i,x.at_ i→w.heap.size≤i∧i<w'.heap.size)∧Below w.heap.size w w'
theorem cvClone_any (e:EvL) (w:World) (h:EvLOk w w.heap.size e) (hc:e.ev.causes.length≤4194320) (hf:e.ev.files.length≤4194320):Calls Tryz.prog 56 #[e.v] w (CloneOut e w):=by
 have H:=hid h
 clear h
 go_enter Tryz.func56,Tryz.ntmps56
 go_upto_region 1 with fail
 have hb0:Below w.heap.size w ((w.alloc (.cells (e.ev.cs e.cA e.cc e.fA e.fc) 40)).alloc (.cells zeroE 40)):=by repeat (first | with_reducible exact Below.refl _ _ | with_reducible assumption | with_reducible refine Below.drew ?_ | with_reducible refine Below.alloc ?_ (by first | omega | (simp;done) | (simp;omega)) _)
 have h1:((w.alloc (.cells (e.ev.cs e.cA e.cc e.fA e.fc) 40)).alloc (.cells zeroE 40)).heap[w.heap.size]?=some (.cells (e.ev.cs e.cA e.cc e.fA e.fc) 40 (0,0)):=(Below.heap_alloc (w.alloc (.cells (e.ev.cs e.cA e.cc e.fA e.fc) 40)) _ w.heap.size (by simp)).trans (MapKept.heap_alloc w _).1
 have h2:((w.alloc (.cells (e.ev.cs e.cA e.cc e.fA e.fc) 40)).alloc (.cells zeroE 40)).heap[w.heap.size+1]?=some (.cells zeroE 40 (0,0)):=by
  have:=(MapKept.heap_alloc (w.alloc (.cells (e.ev.cs e.cA e.cc e.fA e.fc) 40)) (.cells zeroE 40)).1
  simpa using this
 have H1:=hid (H.out.now hb0)
 have HB0:=hid hb0
 have hz0:((w.alloc (.cells (e.ev.cs e.cA e.cc e.fA e.fc) 40)).alloc (.cells zeroE 40)).heap.size=w.heap.size+2:=by simp
 change Code.wp _ _ _ _ ((w.alloc (.cells (e.ev.cs e.cA e.cc e.fA e.fc) 40)).alloc (.cells zeroE 40))
 have HZ0:=hid hz0
 have E1:=hid h1
 have E2:=hid h2
 clear hb0 h1 h2 hz0
 generalize (w.alloc (.cells (e.ev.cs e.cA e.cc e.fA e.fc) 40)).alloc (.cells zeroE 40)=wb at *
 refine wp_region_J (S:=fun w'=>w'.cell? ⟨w.heap.size,2,none⟩=some (.slice e.cA e.ev.causes.length e.cc)∧w'.cell? ⟨w.heap.size,10,none⟩=some (.slice e.fA e.ev.files.length e.fc)) (fun i=>[7,9].contains i) (by kernel_rfl) (⟨box_cell E1.out 2 _ rfl,box_cell E1.out 10 _ rfl⟩) (fun hHeld=>?_)
 refine wpAnyJ_pure (i:=0) (v:=?_) rfl (by kernel_rfl) (by kernel_rfl) (by kernel_rfl) (fun _ _ _ h=>h) (Or.inl ⟨by rfl,?_⟩) ?_
 rotate_left
 ·intro wq _
  go_simp
  try with_reducible rfl
 simp only [Act.put,sA,sB,sC]
 refine wpAnyJ_take (i:=1) (v:=?_) rfl (by kernel_rfl) (by kernel_rfl) (by kernel_rfl) (by kernel_rfl) (fun _ _ _ h=>h) (Or.inl ⟨by rfl,?_⟩) hHeld ?_
 rotate_left
 ·intro wq hSq
  obtain ⟨h2,h3⟩:=hSq
  go_simp
  try with_reducible rfl
 simp only [Act.put,sA,sB,sC]
 refine wpAnyJ_pure (i:=3) (v:=?_) rfl (by kernel_rfl) (by kernel_rfl) (by kernel_rfl) (fun _ _ _ h=>h) (Or.inl ⟨by rfl,?_⟩) ?_
 rotate_left
 ·intro wq _
  go_simp
  try with_reducible rfl
 simp only [Act.put,sA,sB,sC]
 refine wpAnyJ_take (i:=4) (v:=?_) rfl (by kernel_rfl) (by kernel_rfl) (by kernel_rfl) (by kernel_rfl) (fun _ _ _ h=>h) (Or.inl ⟨by rfl,?_⟩) hHeld ?_
 rotate_left
 ·intro wq hSq
  obtain ⟨h2,h3⟩:=hSq
  go_simp
  try with_reducible rfl
 simp only [Act.put,sA,sB,sC]
 refine wpAnyJ_one (i:=2) rfl (by kernel_rfl) (fun K hK=>?_)
 go_simp
 have H1d:=hid (H1.out.now (Below.drew (Below.refl _ _)))
 refine (intClone_any e.ev.causes e.cA _ e.cc wb.drew rfl H1d.out.ok.ca hc).mono ?_
 rintro en w3 ⟨A1,c1,rfl,ho1,hb1⟩
 go_wp2_with fail
 have hlb:w.heap.size<wb.drew.heap.size:=by have:=HZ0.out;simp;omega
 refine hK.out _ _ (fun _ h=>⟨(hb1.cell (p:=⟨w.heap.size,2,none⟩) hlb).trans h.1,(hb1.cell (p:=⟨w.heap.size,10,none⟩) hlb).trans h.2⟩) ?_
 clear hK K
 have HO1:=hid ho1
 have HB1:=hid hb1
 clear ho1 hb1 hlb
 refine wpAnyJ_pure (i:=6) (v:=?_) rfl (by kernel_rfl) (by kernel_rfl) (by kernel_rfl) (fun _ _ _ h=>h) (Or.inl ⟨by rfl,?_⟩) ?_
 rotate_left
 ·intro wq _
  go_simp
  try with_reducible rfl
 simp only [Act.put,sA,sB,sC]
 refine wpAnyJ_one (i:=5) rfl (by kernel_rfl) (fun K hK=>?_)
 go_simp
 refine (intClone_any e.ev.files e.fA _ e.fc w3 rfl (H1d.out.now HB1.out).ok.fi hf).mono ?_
 rintro en w4 ⟨A2,c2,rfl,ho2,hb2⟩
 go_wp2_with fail
 have hlb:w.heap.size<w3.heap.size:=by have h1:wb.heap.size≤w3.heap.size:=HB1.out.size;have:=HZ0.out;omega
 refine hK.out _ _ (fun _ h=>⟨(hb2.cell (p:=⟨w.heap.size,2,none⟩) hlb).trans h.1,(hb2.cell (p:=⟨w.heap.size,10,none⟩) hlb).trans h.2⟩) ?_
 clear hK K
 have hbw:Below wb.heap.size wb w4:=((Below.refl wb.heap.size wb).drew.trans (HB1.out.mono (Nat.le_refl wb.heap.size))).trans (hb2.mono (Nat.le_trans (Nat.le_refl wb.heap.size) HB1.out.size))
 have hE1:=(hbw.block w.heap.size (by have:=HZ0.out;omega)).trans E1.out
 have hE2:=(hbw.block (w.heap.size+1) (by have:=HZ0.out;omega)).trans E2.out
 have HO2:=hid ho2
 have HO1b:=hid (HO1.out.turn (w':=w4) (fun i hi hl=>hb2.block i hl))
 have HB2:=hid hbw
 have f2:=box_cell hE1 2 _ rfl
 have f10:=box_cell hE1 10 _ rfl
 have fz:=fun j=>box_free hE1 j
 have HE1:=hid hE1
 have HE2:=hid hE2
 clear ho2 hb2 hlb hbw hE1 hE2 hHeld
 refine wpAnyJ_one (i:=7) rfl (by kernel_rfl) (fun K hK=>?_)
 go_simp
 refine hK.out _ _ (fun h=>nomatch h) ?_
 clear hK K
 refine wpAnyJ_pure (i:=8) (v:=?_) rfl (by kernel_rfl) (by kernel_rfl) (by kernel_rfl) (fun _ _ _ h=>h) (Or.inl ⟨by rfl,?_⟩) ?_
 rotate_left
 ·intro wq _
  go_simp
  try with_reducible rfl
 simp only [Act.put,sA,sB,sC]
 refine wpAnyJ_one (i:=9) rfl (by kernel_rfl) (fun K hK=>?_)
 go_simp
 refine hK.out _ _ (fun h=>nomatch h) ?_
 clear hK K
 refine wpAnyJ_done (by kernel_rfl) ?_ _
 clear f2 f10 fz
 have s1:=heap_setCell_same w4 w.heap.size 2 _ _ (.slice A1 e.ev.causes.length c1) HE1.out
 have s2:=heap_setCell_same (w4.setCell ⟨w.heap.size,2,none⟩ (.slice A1 e.ev.causes.length c1)) w.heap.size 10 _ _ (.slice A2 e.ev.files.length c2) s1
 have hoth:∀ i,i≠w.heap.size→((w4.setCell ⟨w.heap.size,2,none⟩ (.slice A1 e.ev.causes.length c1)).setCell ⟨w.heap.size,10,none⟩ (.slice A2 e.ev.files.length c2)).heap[i]?=w4.heap[i]?:=fun i hi =>
  (heap_setCell_other _ ⟨w.heap.size,10,none⟩ i _ hi).trans (heap_setCell_other _ ⟨w.heap.size,2,none⟩ i _ hi)
 have hsz:((w4.setCell ⟨w.heap.size,2,none⟩ (.slice A1 e.ev.causes.length c1)).setCell ⟨w.heap.size,10,none⟩ (.slice A2 e.ev.files.length c2)).heap.size=w4.heap.size:=by simp [World.setCell]
 have hB5:Below w.heap.size w ((w4.setCell ⟨w.heap.size,2,none⟩ (.slice A1 e.ev.causes.length c1)).setCell ⟨w.heap.size,10,none⟩ (.slice A2 e.ev.files.length c2)) :=
  ((HB0.out.trans (HB2.out.mono HB0.out.size)).setCell (p:=⟨w.heap.size,2,none⟩) (Nat.le_refl _) _).setCell (p:=⟨w.heap.size,10,none⟩) (Nat.le_refl _) _
 have HS2:Hid (((w4.setCell ⟨w.heap.size,2,none⟩ (.slice A1 e.ev.causes.length c1)).setCell ⟨w.heap.size,10,none⟩ (.slice A2 e.ev.files.length c2)).heap[w.heap.size]?=some (.cells (e.ev.cs A1 c1 A2 c2) 40 (0,0))):=hid s2
 have HOt:=hid hoth
 have HSz:=hid hsz
 have HB5:=hid hB5
 clear s1 s2 hoth hsz hB5 HE1
 generalize (w4.setCell ⟨w.heap.size,2,none⟩ (.slice A1 e.ev.causes.length c1)).setCell ⟨w.heap.size,10,none⟩ (.slice A2 e.ev.files.length c2)=w5 at *
 have HT:=hid (there_of_box (((HOt.out (w.heap.size+1) (by omega)).trans HE2.out)))
 have hl5:=box_lt HS2.out
 go_wp2_with (first
  | ((with_reducible show wpList _ _ _ (Oper.mk _ (Op.load 40 _) _ _ _ _::_) _ _);refine wpList_load_g rfl 40 (.tmp 1) rfl w.heap.size 0 rfl (e.ev.cs A1 c1 A2 c2).toList _ (range_block HS2.out rfl) Tryz.underlying40 rfl (by kernel_rfl) ?_)
  | ((with_reducible show wpList _ _ _ (Oper.mk _ (Op.store 40 _ _) _ _ _ _::_) _ _);refine wpList_store_box rfl 40 _ _ rfl (w.heap.size+1) (e.ev.cs A1 c1 A2 c2) rfl rfl HT.out (by kernel_rfl) (evOne e.ev A1 c1 A2 c2) ?_;intro w6 hr6 ht6 hg6;have HR6:=hid hr6;have HG6:=hid hg6;clear hr6 ht6 hg6))
 refine ret_box 2 40 rfl (w.heap.size+1) _ _ rfl HR6.out Tryz.underlying40 rfl (by kernel_rfl) rfl ?_
 have hh:=HZ0.out
 have hsb:=HB2.out.size
 have hne:∀ i,i<w5.heap.size→i≠w.heap.size→i≠w.heap.size+1→w6.heap[i]?=w4.heap[i]?:=fun i hi h1 h2=>(HG6.out.block i hi (fun e=>h2 (Option.some.inj e))).trans (HOt.out i h1)
 have hz5:=HSz.out
 have hz6:=HG6.out.size
 have a1:∀ i,slBlk A1=some i→w.heap.size+2≤i∧i<w4.heap.size:=fun i hi=>by have:=HO1b.out.blk_lt hi;have h2:wb.drew.heap.size=wb.heap.size:=rfl;omega
 have a2:∀ i,slBlk A2=some i→w.heap.size+2≤i∧i<w4.heap.size:=fun i hi=>by have:=HO2.out.blk_lt hi;have:=HB1.out.size;have h2:wb.drew.heap.size=wb.heap.size:=rfl;omega
 have hor:∀ i,i=w.heap.size+2→True:=fun _ _=>trivial
 refine ⟨⟨e.ev,A1,c1,A2,c2⟩,rfl,rfl,⟨⟨?_,?_,by simp only;omega,by simp only;omega,H.out.ok.tx⟩,?_⟩,?_,?_⟩
 ·exact (HO1b.out.rd intLayV).turn (fun i hi hl=>by have:=a1 i hi;exact hne i (by omega) (by omega) (by omega)) (by omega)
 ·exact (HO2.out.rd intLayV).turn (fun i hi hl=>by have:=a2 i hi;exact hne i (by omega) (by omega) (by omega)) (by omega)
 ·exact HO2.out.len_le
 ·rintro i (hi | hi)
  ·have:=a1 i hi;omega
  ·have:=a2 i hi;omega
 ·exact HB5.out.grown HG6.out (by omega) (fun k hk=>by injection hk with hk;omega)
def BareOut (e:EvL) (w:World) (en:Ending) (w':World):Prop :=
 ∃ x:EvL,en=.returned x.v∧x.ev=bareE e.ev∧EvLOk w' w'.heap.size x∧(∀ i,x.at_ i→w.heap.size≤i∧i<w'.heap.size)∧Below w.heap.size w w'
theorem evBare_any (e:EvL) (w:World) (h:EvLOk w w.heap.size e) (hc:e.ev.causes.length≤4194320) (hf:e.ev.files.length≤4194320):Calls Tryz.prog 126 #[e.v] w (BareOut e w):=by
 have H:=hid h
 clear h
 go_enter Tryz.func126,Tryz.ntmps126
 go_upto_region 1 with fail
 have hb0:Below w.heap.size w ((w.alloc (.cells (e.ev.cs e.cA e.cc e.fA e.fc) 40)).alloc (.cells zeroE 40)):=by repeat (first | with_reducible exact Below.refl _ _ | with_reducible assumption | with_reducible refine Below.drew ?_ | with_reducible refine Below.alloc ?_ (by first | omega | (simp;done) | (simp;omega)) _)
 have h1:((w.alloc (.cells (e.ev.cs e.cA e.cc e.fA e.fc) 40)).alloc (.cells zeroE 40)).heap[w.heap.size]?=some (.cells (e.ev.cs e.cA e.cc e.fA e.fc) 40 (0,0)):=(Below.heap_alloc (w.alloc (.cells (e.ev.cs e.cA e.cc e.fA e.fc) 40)) _ w.heap.size (by simp)).trans (MapKept.heap_alloc w _).1
 have h2:((w.alloc (.cells (e.ev.cs e.cA e.cc e.fA e.fc) 40)).alloc (.cells zeroE 40)).heap[w.heap.size+1]?=some (.cells zeroE 40 (0,0)):=by
  have:=(MapKept.heap_alloc (w.alloc (.cells (e.ev.cs e.cA e.cc e.fA e.fc) 40)) (.cells zeroE 40)).1
  simpa using this
 have H1:=hid (H.out.now hb0)
 have HB0:=hid hb0
 have hz0:((w.alloc (.cells (e.ev.cs e.cA e.cc e.fA e.fc) 40)).alloc (.cells zeroE 40)).heap.size=w.heap.size+2:=by simp
 change Code.wp _ _ _ _ ((w.alloc (.cells (e.ev.cs e.cA e.cc e.fA e.fc) 40)).alloc (.cells zeroE 40))
 have HZ0:=hid hz0
 have E1:=hid h1
 have E2:=hid h2
 clear hb0 h1 h2 hz0
 generalize (w.alloc (.cells (e.ev.cs e.cA e.cc e.fA e.fc) 40)).alloc (.cells zeroE 40)=wb at *
 refine wp_region_J (S:=fun w'=>w'.cell? ⟨w.heap.size,2,none⟩=some (.slice e.cA e.ev.causes.length e.cc)∧w'.cell? ⟨w.heap.size,10,none⟩=some (.slice e.fA e.ev.files.length e.fc)) (fun i=>[7,9].contains i) (by kernel_rfl) (⟨box_cell E1.out 2 _ rfl,box_cell E1.out 10 _ rfl⟩) (fun hHeld=>?_)
 refine wpAnyJ_pure (i:=0) (v:=?_) rfl (by kernel_rfl) (by kernel_rfl) (by kernel_rfl) (fun _ _ _ h=>h) (Or.inl ⟨by rfl,?_⟩) ?_
 rotate_left
 ·intro wq _
  go_simp
  try with_reducible rfl
 simp only [Act.put,sA,sB,sC]
 refine wpAnyJ_take (i:=1) (v:=?_) rfl (by kernel_rfl) (by kernel_rfl) (by kernel_rfl) (by kernel_rfl) (fun _ _ _ h=>h) (Or.inl ⟨by rfl,?_⟩) hHeld ?_
 rotate_left
 ·intro wq hSq
  obtain ⟨h2,h3⟩:=hSq
  go_simp
  try with_reducible rfl
 simp only [Act.put,sA,sB,sC]
 refine wpAnyJ_pure (i:=3) (v:=?_) rfl (by kernel_rfl) (by kernel_rfl) (by kernel_rfl) (fun _ _ _ h=>h) (Or.inl ⟨by rfl,?_⟩) ?_
 rotate_left
 ·intro wq _
  go_simp
  try with_reducible rfl
 simp only [Act.put,sA,sB,sC]
 refine wpAnyJ_take (i:=4) (v:=?_) rfl (by kernel_rfl) (by kernel_rfl) (by kernel_rfl) (by kernel_rfl) (fun _ _ _ h=>h) (Or.inl ⟨by rfl,?_⟩) hHeld ?_
 rotate_left
 ·intro wq hSq
  obtain ⟨h2,h3⟩:=hSq
  go_simp
  try with_reducible rfl
 simp only [Act.put,sA,sB,sC]
 refine wpAnyJ_one (i:=2) rfl (by kernel_rfl) (fun K hK=>?_)
 go_simp
 have H1d:=hid (H1.out.now (Below.drew (Below.refl _ _)))
 refine (intClone_any e.ev.causes e.cA _ e.cc wb.drew rfl H1d.out.ok.ca hc).mono ?_
 rintro en w3 ⟨A1,c1,rfl,ho1,hb1⟩
 go_wp2_with fail
 have hlb:w.heap.size<wb.drew.heap.size:=by have:=HZ0.out;simp;omega
 refine hK.out _ _ (fun _ h=>⟨(hb1.cell (p:=⟨w.heap.size,2,none⟩) hlb).trans h.1,(hb1.cell (p:=⟨w.heap.size,10,none⟩) hlb).trans h.2⟩) ?_
 clear hK K
 have HO1:=hid ho1
 have HB1:=hid hb1
 clear ho1 hb1 hlb
 refine wpAnyJ_pure (i:=6) (v:=?_) rfl (by kernel_rfl) (by kernel_rfl) (by kernel_rfl) (fun _ _ _ h=>h) (Or.inl ⟨by rfl,?_⟩) ?_
 rotate_left
 ·intro wq _
  go_simp
  try with_reducible rfl
 simp only [Act.put,sA,sB,sC]
 refine wpAnyJ_one (i:=5) rfl (by kernel_rfl) (fun K hK=>?_)
 go_simp
 refine (intClone_any e.ev.files e.fA _ e.fc w3 rfl (H1d.out.now HB1.out).ok.fi hf).mono ?_
 rintro en w4 ⟨A2,c2,rfl,ho2,hb2⟩
 go_wp2_with fail
 have hlb:w.heap.size<w3.heap.size:=by have h1:wb.heap.size≤w3.heap.size:=HB1.out.size;have:=HZ0.out;omega
 refine hK.out _ _ (fun _ h=>⟨(hb2.cell (p:=⟨w.heap.size,2,none⟩) hlb).trans h.1,(hb2.cell (p:=⟨w.heap.size,10,none⟩) hlb).trans h.2⟩) ?_
 clear hK K
 have hbw:Below wb.heap.size wb w4:=((Below.refl wb.heap.size wb).drew.trans (HB1.out.mono (Nat.le_refl wb.heap.size))).trans (hb2.mono (Nat.le_trans (Nat.le_refl wb.heap.size) HB1.out.size))
 have hE1:=(hbw.block w.heap.size (by have:=HZ0.out;omega)).trans E1.out
 have hE2:=(hbw.block (w.heap.size+1) (by have:=HZ0.out;omega)).trans E2.out
 have HO2:=hid ho2
 have HO1b:=hid (HO1.out.turn (w':=w4) (fun i hi hl=>hb2.block i hl))
 have HB2:=hid hbw
 have f2:=box_cell hE1 2 _ rfl
 have f10:=box_cell hE1 10 _ rfl
 have fz:=fun j=>box_free hE1 j
 have HE1:=hid hE1
 have HE2:=hid hE2
 clear ho2 hb2 hlb hbw hE1 hE2 hHeld
 refine wpAnyJ_one (i:=7) rfl (by kernel_rfl) (fun K hK=>?_)
 go_simp
 refine hK.out _ _ (fun h=>nomatch h) ?_
 clear hK K
 refine wpAnyJ_pure (i:=8) (v:=?_) rfl (by kernel_rfl) (by kernel_rfl) (by kernel_rfl) (fun _ _ _ h=>h) (Or.inl ⟨by rfl,?_⟩) ?_
 rotate_left
 ·intro wq _
  go_simp
  try with_reducible rfl
 simp only [Act.put,sA,sB,sC]
 refine wpAnyJ_one (i:=9) rfl (by kernel_rfl) (fun K hK=>?_)
 go_simp
 refine hK.out _ _ (fun h=>nomatch h) ?_
 clear hK K
 refine wpAnyJ_done (by kernel_rfl) ?_ _
 clear f2 f10 fz
 have s1:=heap_setCell_same w4 w.heap.size 2 _ _ (.slice A1 e.ev.causes.length c1) HE1.out
 have s2:=heap_setCell_same (w4.setCell ⟨w.heap.size,2,none⟩ (.slice A1 e.ev.causes.length c1)) w.heap.size 10 _ _ (.slice A2 e.ev.files.length c2) s1
 have hoth:∀ i,i≠w.heap.size→((w4.setCell ⟨w.heap.size,2,none⟩ (.slice A1 e.ev.causes.length c1)).setCell ⟨w.heap.size,10,none⟩ (.slice A2 e.ev.files.length c2)).heap[i]?=w4.heap[i]?:=fun i hi =>
  (heap_setCell_other _ ⟨w.heap.size,10,none⟩ i _ hi).trans (heap_setCell_other _ ⟨w.heap.size,2,none⟩ i _ hi)
 have hsz:((w4.setCell ⟨w.heap.size,2,none⟩ (.slice A1 e.ev.causes.length c1)).setCell ⟨w.heap.size,10,none⟩ (.slice A2 e.ev.files.length c2)).heap.size=w4.heap.size:=by simp [World.setCell]
 have hB5:Below w.heap.size w ((w4.setCell ⟨w.heap.size,2,none⟩ (.slice A1 e.ev.causes.length c1)).setCell ⟨w.heap.size,10,none⟩ (.slice A2 e.ev.files.length c2)) :=
  ((HB0.out.trans (HB2.out.mono HB0.out.size)).setCell (p:=⟨w.heap.size,2,none⟩) (Nat.le_refl _) _).setCell (p:=⟨w.heap.size,10,none⟩) (Nat.le_refl _) _
 have HS2:Hid (((w4.setCell ⟨w.heap.size,2,none⟩ (.slice A1 e.ev.causes.length c1)).setCell ⟨w.heap.size,10,none⟩ (.slice A2 e.ev.files.length c2)).heap[w.heap.size]?=some (.cells (e.ev.cs A1 c1 A2 c2) 40 (0,0))):=hid s2
 have HOt:=hid hoth
 have HSz:=hid hsz
 have HB5:=hid hB5
 clear s1 s2 hoth hsz hB5 HE1
 generalize (w4.setCell ⟨w.heap.size,2,none⟩ (.slice A1 e.ev.causes.length c1)).setCell ⟨w.heap.size,10,none⟩ (.slice A2 e.ev.files.length c2)=w5 at *
 have HT:=hid (there_of_box (((HOt.out (w.heap.size+1) (by omega)).trans HE2.out)))
 have hl5:=box_lt HS2.out
 have b3:=box_cell HS2.out 3 _ rfl
 have bf9:=box_free HS2.out 9
 have bf10:=box_free HS2.out 10
 have b9:=box_cell HS2.out 9 _ rfl
 have b10:=box_cell HS2.out 10 _ rfl
 by_cases hk:e.ev.kind=0∨e.ev.kind=1
 ·have hkk:(e.ev.kind==0)=true∨((e.ev.kind==0)=false∧(e.ev.kind==1)=true):=by
   rcases hk with hk | hk
   ·exact .inl (by simpa using hk)
   ·exact .inr ⟨by rw [hk];rfl,by simpa using hk⟩
  have HBe:Hid (bareE e.ev={e.ev with text:=ByteArray.empty,files:=[]}):=hid (by unfold bareE;rw [if_pos hk])
  have t1:=heap_setCell_same w5 w.heap.size 9 _ _ (.string ⟨#[]⟩) HS2.out
  have t2:=heap_setCell_same (w5.setCell ⟨w.heap.size,9,none⟩ (.string ⟨#[]⟩)) w.heap.size 10 _ _ (.slice none 0 0) t1
  have HS3:Hid (((w5.setCell ⟨w.heap.size,9,none⟩ (.string ⟨#[]⟩)).setCell ⟨w.heap.size,10,none⟩ (.slice none 0 0)).heap[w.heap.size]?=some (.cells (({e.ev with text:=ByteArray.empty,files:=[]}:EvM).cs A1 c1 none 0) 40 (0,0))):=hid t2
  have HOt3:Hid (∀ i,i≠w.heap.size→((w5.setCell ⟨w.heap.size,9,none⟩ (.string ⟨#[]⟩)).setCell ⟨w.heap.size,10,none⟩ (.slice none 0 0)).heap[i]?=w5.heap[i]?):=hid fun i hi =>
   (heap_setCell_other _ ⟨w.heap.size,10,none⟩ i _ hi).trans (heap_setCell_other _ ⟨w.heap.size,9,none⟩ i _ hi)
  have HSz3:Hid (((w5.setCell ⟨w.heap.size,9,none⟩ (.string ⟨#[]⟩)).setCell ⟨w.heap.size,10,none⟩ (.slice none 0 0)).heap.size=w5.heap.size):=hid (by simp [World.setCell])
  have HB53:Hid (Below w.heap.size w ((w5.setCell ⟨w.heap.size,9,none⟩ (.string ⟨#[]⟩)).setCell ⟨w.heap.size,10,none⟩ (.slice none 0 0))):=hid ((HB5.out.setCell (p:=⟨w.heap.size,9,none⟩) (Nat.le_refl _) _).setCell (p:=⟨w.heap.size,10,none⟩) (Nat.le_refl _) _)
  have HT3:=hid (there_of_box ((HOt3.out (w.heap.size+1) (by omega)).trans ((HOt.out (w.heap.size+1) (by omega)).trans HE2.out)))
  clear t1 t2 hk
  have key:∀ w6:World,w6.rangeAt (w.heap.size+1) 0 (({e.ev with text:=ByteArray.empty,files:=[]}:EvM).cs A1 c1 none 0).toList→((w5.setCell ⟨w.heap.size,9,none⟩ (.string ⟨#[]⟩)).setCell ⟨w.heap.size,10,none⟩ (.slice none 0 0)).grownBy w6 (some (w.heap.size+1)) →
    BareOut e w (.returned (.agg (({e.ev with text:=ByteArray.empty,files:=[]}:EvM).cs A1 c1 none 0))) w6:=fun w6 _ hg=>by
   have hh:=HZ0.out
   have hsb:=HB2.out.size
   have hz3:=HSz3.out
   have hne:∀ i,i<w5.heap.size→i≠w.heap.size→i≠w.heap.size+1→w6.heap[i]?=w4.heap[i]?:=fun i hi h1 h2=>(hg.block i (by omega) (fun e=>h2 (Option.some.inj e))).trans ((HOt3.out i h1).trans (HOt.out i h1))
   have hz5:=HSz.out
   have hz6:=hg.size
   have a1:∀ i,slBlk A1=some i→w.heap.size+2≤i∧i<w4.heap.size:=fun i hi=>by have:=HO1b.out.blk_lt hi;have h2:wb.drew.heap.size=wb.heap.size:=rfl;omega
   refine ⟨⟨{e.ev with text:=ByteArray.empty,files:=[]},A1,c1,none,0⟩,rfl,HBe.out.symm,⟨⟨?_,RdL.nil_,by simp only;omega,by simp,by simp⟩,by simp⟩,?_,?_⟩
   ·exact (HO1b.out.rd intLayV).turn (fun i hi hl=>by have:=a1 i hi;exact hne i (by omega) (by omega) (by omega)) (by omega)
   ·rintro i (hi | hi)
    ·have:=a1 i hi;omega
    ·cases hi
   ·exact HB53.out.grown hg (by omega) (fun k hk=>by injection hk with hk;omega)
  have HKey:=hid key
  clear key
  rcases hkk with q0 | ⟨q0,q1⟩
  ·skip
   go_wp2_with (first
    | ((with_reducible show wpList _ _ _ (Oper.mk _ (Op.load 40 _) _ _ _ _::_) _ _);refine wpList_load_g rfl 40 (.tmp 1) rfl w.heap.size 0 rfl (({e.ev with text:=ByteArray.empty,files:=[]}:EvM).cs A1 c1 none 0).toList _ (range_block HS3.out rfl) Tryz.underlying40 rfl (by kernel_rfl) ?_)
    | ((with_reducible show wpList _ _ _ (Oper.mk _ (Op.store 40 _ _) _ _ _ _::_) _ _);refine wpList_store_box rfl 40 _ _ rfl (w.heap.size+1) (({e.ev with text:=ByteArray.empty,files:=[]}:EvM).cs A1 c1 none 0) rfl rfl HT3.out (by kernel_rfl) (evOne _ A1 c1 none 0) ?_;intro w6 hr6 ht6 hg6;have HR6:=hid hr6;have HG6:=hid hg6;clear hr6 ht6 hg6))
   refine ret_box 2 40 rfl (w.heap.size+1) _ _ rfl HR6.out Tryz.underlying40 rfl (by kernel_rfl) rfl ?_
   exact HKey.out w6 HR6.out HG6.out
  ·skip
   go_wp2_with (first
    | ((with_reducible show wpList _ _ _ (Oper.mk _ (Op.load 40 _) _ _ _ _::_) _ _);refine wpList_load_g rfl 40 (.tmp 1) rfl w.heap.size 0 rfl (({e.ev with text:=ByteArray.empty,files:=[]}:EvM).cs A1 c1 none 0).toList _ (range_block HS3.out rfl) Tryz.underlying40 rfl (by kernel_rfl) ?_)
    | ((with_reducible show wpList _ _ _ (Oper.mk _ (Op.store 40 _ _) _ _ _ _::_) _ _);refine wpList_store_box rfl 40 _ _ rfl (w.heap.size+1) (({e.ev with text:=ByteArray.empty,files:=[]}:EvM).cs A1 c1 none 0) rfl rfl HT3.out (by kernel_rfl) (evOne _ A1 c1 none 0) ?_;intro w6 hr6 ht6 hg6;have HR6:=hid hr6;have HG6:=hid hg6;clear hr6 ht6 hg6))
   refine ret_box 2 40 rfl (w.heap.size+1) _ _ rfl HR6.out Tryz.underlying40 rfl (by kernel_rfl) rfl ?_
   exact HKey.out w6 HR6.out HG6.out
 ·have q0:(e.ev.kind==0)=false:=by simp;omega
  have q1:(e.ev.kind==1)=false:=by simp;omega
  have HBe:Hid (bareE e.ev=e.ev):=hid (by unfold bareE;rw [if_neg hk])
  clear hk
  go_wp2_with (first
   | ((with_reducible show wpList _ _ _ (Oper.mk _ (Op.load 40 _) _ _ _ _::_) _ _);refine wpList_load_g rfl 40 (.tmp 1) rfl w.heap.size 0 rfl (e.ev.cs A1 c1 A2 c2).toList _ (range_block HS2.out rfl) Tryz.underlying40 rfl (by kernel_rfl) ?_)
   | ((with_reducible show wpList _ _ _ (Oper.mk _ (Op.store 40 _ _) _ _ _ _::_) _ _);refine wpList_store_box rfl 40 _ _ rfl (w.heap.size+1) (e.ev.cs A1 c1 A2 c2) rfl rfl HT.out (by kernel_rfl) (evOne e.ev A1 c1 A2 c2) ?_;intro w6 hr6 ht6 hg6;have HR6:=hid hr6;have HG6:=hid hg6;clear hr6 ht6 hg6))
  refine ret_box 2 40 rfl (w.heap.size+1) _ _ rfl HR6.out Tryz.underlying40 rfl (by kernel_rfl) rfl ?_
  have hh:=HZ0.out
  have hsb:=HB2.out.size
  have hne:∀ i,i<w5.heap.size→i≠w.heap.size→i≠w.heap.size+1→w6.heap[i]?=w4.heap[i]?:=fun i hi h1 h2=>(HG6.out.block i hi (fun e=>h2 (Option.some.inj e))).trans (HOt.out i h1)
  have hz5:=HSz.out
  have hz6:=HG6.out.size
  have a1:∀ i,slBlk A1=some i→w.heap.size+2≤i∧i<w4.heap.size:=fun i hi=>by have:=HO1b.out.blk_lt hi;have h2:wb.drew.heap.size=wb.heap.size:=rfl;omega
  have a2:∀ i,slBlk A2=some i→w.heap.size+2≤i∧i<w4.heap.size:=fun i hi=>by have:=HO2.out.blk_lt hi;have:=HB1.out.size;have h2:wb.drew.heap.size=wb.heap.size:=rfl;omega
  have hor:∀ i,i=w.heap.size+2→True:=fun _ _=>trivial
  refine ⟨⟨e.ev,A1,c1,A2,c2⟩,rfl,HBe.out.symm,⟨⟨?_,?_,by simp only;omega,by simp only;omega,H.out.ok.tx⟩,?_⟩,?_,?_⟩
  ·exact (HO1b.out.rd intLayV).turn (fun i hi hl=>by have:=a1 i hi;exact hne i (by omega) (by omega) (by omega)) (by omega)
  ·exact (HO2.out.rd intLayV).turn (fun i hi hl=>by have:=a2 i hi;exact hne i (by omega) (by omega) (by omega)) (by omega)
  ·exact HO2.out.len_le
  ·rintro i (hi | hi)
   ·have:=a1 i hi;omega
   ·have:=a2 i hi;omega
  ·exact HB5.out.grown HG6.out (by omega) (fun k hk=>by injection hk with hk;omega)
theorem evAlike_any (a b:EvL) (w:World) (ha:EvLOk w w.heap.size a) (hb:EvLOk w w.heap.size b) (hc:a.ev.causes.length≤4194320∧a.ev.files.length≤4194320) (hd:b.ev.causes.length≤4194320∧b.ev.files.length≤4194320) :
  Calls Tryz.prog 72 #[a.v,b.v] w fun e w'=>e=.returned (.bool (alikeE a.ev b.ev))∧Below w.heap.size w w':=by
 have hb0:Below w.heap.size w ((w.alloc (.cells (a.ev.cs a.cA a.cc a.fA a.fc) 40)).alloc (.cells (b.ev.cs b.cA b.cc b.fA b.fc) 40)):=by repeat (first | with_reducible exact Below.refl _ _ | with_reducible assumption | with_reducible refine Below.drew ?_ | with_reducible refine Below.alloc ?_ (by first | omega | (simp;done) | (simp;omega)) _)
 have h1:((w.alloc (.cells (a.ev.cs a.cA a.cc a.fA a.fc) 40)).alloc (.cells (b.ev.cs b.cA b.cc b.fA b.fc) 40)).heap[w.heap.size]?=some (.cells (a.ev.cs a.cA a.cc a.fA a.fc) 40 (0,0)):=(Below.heap_alloc (w.alloc (.cells (a.ev.cs a.cA a.cc a.fA a.fc) 40)) _ w.heap.size (by simp)).trans (MapKept.heap_alloc w _).1
 have h2:((w.alloc (.cells (a.ev.cs a.cA a.cc a.fA a.fc) 40)).alloc (.cells (b.ev.cs b.cA b.cc b.fA b.fc) 40)).heap[w.heap.size+1]?=some (.cells (b.ev.cs b.cA b.cc b.fA b.fc) 40 (0,0)):=by
  have:=(MapKept.heap_alloc (w.alloc (.cells (a.ev.cs a.cA a.cc a.fA a.fc) 40)) (.cells (b.ev.cs b.cA b.cc b.fA b.fc) 40)).1
  simpa using this
 have hu:=Tryz.underlying40
 have hi:(Tryz.prog.info? 40).map (·.size)=some 12:=by kernel_rfl
 have HA:=hid (ha.now hb0)
 have HB:=hid (hb.now hb0)
 have HB0:=hid hb0
 have E1:=hid h1
 have E2:=hid h2
 have HU:=hid hu
 have HI:=hid hi
 clear ha hb hb0 h1 h2 hu hi
 go_enter Tryz.func72,Tryz.ntmps72
 go_upto_region 1 with fail
 change Code.wp _ _ _ _ ((w.alloc (.cells (a.ev.cs a.cA a.cc a.fA a.fc) 40)).alloc (.cells (b.ev.cs b.cA b.cc b.fA b.fc) 40))
 generalize (w.alloc (.cells (a.ev.cs a.cA a.cc a.fA a.fc) 40)).alloc (.cells (b.ev.cs b.cA b.cc b.fA b.fc) 40)=wb at *
 have R1:=hid (fun wq (hq:Below wb.heap.size wb wq)=>range_block ((hq.block w.heap.size (box_lt E1.out)).trans E1.out) rfl)
 have R2:=hid (fun wq (hq:Below wb.heap.size wb wq)=>range_block ((hq.block (w.heap.size+1) (box_lt E2.out)).trans E2.out) rfl)
 have hu:=HU.out
 have hi:=HI.out
 refine wp_region_held_drew (S:=fun wq=>Below wb.heap.size wb wq) (by kernel_rfl) (Below.drew (Below.refl _ _)) (fun hHeld=>?_)
 refine' wpAnyH_take (i:=0) rfl (by kernel_rfl) (by kernel_rfl) (by kernel_rfl) (fun _ _ _ h=>h) (yieldsIf_load_mid (by rfl) _ _ rfl _ _ rfl _ _ R1.out hu rfl hi) (by assumption) ?_
 simp only [Act.put,sA,sB,sC,sD,sE,sF]
 refine' wpAnyH_take (i:=2) rfl (by kernel_rfl) (by kernel_rfl) (by kernel_rfl) (fun _ _ _ h=>h) (yieldsIf_load_mid (by rfl) _ _ rfl _ _ rfl _ _ R2.out hu rfl hi) (by assumption) ?_
 simp only [Act.put,sA,sB,sC,sD,sE,sF]
 clear hu hi
 refine wpAnyH_ready (rs:=[1]) (by kernel_rfl) (by simp) ?_
 refine AllReadyH.cons rfl (fun K hK=>?_) AllReadyH.nil
 go_simp
 refine (evBare_any a _ (HA.out.now hHeld) hc.1 hc.2).mono ?_
 rintro en w1 ⟨x,rfl,hx,hxo,hxf,hb1⟩
 have HX:=hid hxo
 have HXe:=hid hx
 have hs1:=hHeld.trans (hb1.mono hHeld.size)
 clear hx hxo hxf hb1
 go_wp2_with fail
 refine hK.out _ _ hs1 ?_
 clear hK K hHeld hs1
 intro hHeld
 refine wpAnyH_ready (rs:=[3]) (by kernel_rfl) (by simp) ?_
 refine AllReadyH.cons rfl (fun K hK=>?_) AllReadyH.nil
 go_simp
 refine (evBare_any b _ (HB.out.now hHeld) hd.1 hd.2).mono ?_
 rintro en w2 ⟨y,rfl,hy,hyo,hyf,hb2⟩
 have HX2:=hid (HX.out.now hb2)
 have HY:=hid hyo
 have HYe:=hid hy
 have hs1:=hHeld.trans (hb2.mono hHeld.size)
 clear hy hyo hyf hb2 HX
 go_wp2_with fail
 refine hK.out _ _ hs1 ?_
 clear hK K hHeld hs1
 intro hHeld
 refine wpAnyH_ready (rs:=[4]) (by kernel_rfl) (by simp) ?_
 refine AllReadyH.cons rfl (fun K hK=>?_) AllReadyH.nil
 go_simp
 refine (evSame_any x.ev y.ev x.cA x.cc x.fA x.fc y.cA y.cc y.fA y.fc _ HX2.out.ok HY.out.ok).mono ?_
 rintro en w3 ⟨rfl,hb3⟩
 have hs1:=hHeld.trans (hb3.mono hHeld.size)
 clear hb3
 go_wp2_with fail
 refine hK.out _ _ hs1 ?_
 clear hK K hHeld hs1
 intro hHeld
 have HQ:Hid (sameE x.ev y.ev=alikeE a.ev b.ev):=hid (by rw [HXe.out,HYe.out];rfl)
 generalize sameE x.ev y.ev=q at *
 refine wpAnyH_ready (rs:=[5]) (by kernel_rfl) (by simp) ?_
 refine AllReadyH.cons rfl (fun K hK=>?_) AllReadyH.nil
 go_simp
 refine hK.out _ _ hHeld ?_
 clear hK K
 intro _
 refine wpAnyH_done (by kernel_rfl) ?_ _
 have HF:=hid (HB0.out.trans (hHeld.mono HB0.out.size))
 clear hHeld
 go_wp2_with fail
 go_ret
 exact ⟨by rw [← HQ.out];rfl,HF.out⟩
/- What Add changes of a conversation in memory (layer 15). -/
section
variable {w w5:World} {p:Nat} {L:List EvM} {F:Int→List Int} {D:Int→Bool} {C:CvL}
theorem CvG.get_some (h:CvG w p L F D C) {a:Int} {i:Nat} (hi:slBlk (C.get a).A=some i):∃ s,C.f a=some s∧slBlk s.A=some i:=by
 unfold CvL.get at hi
 cases hf:C.f a with
 | none=>rw [hf] at hi;cases hi
 | some s=>rw [hf] at hi;exact ⟨s,rfl,hi⟩
theorem CvG.push (h:CvG w p L F D C) {x:EvL} {A2:Option Addr} {c2 k:Nat} (hown:OwnL w5 0 40 12 EvL.cs A2 c2 (C.ml++[x])) (hg:w.grownBy w5 (slBlk C.A)) (hat:slBlk A2=slBlk C.A∨slBlk A2=some w.heap.size)
  (hx:EvLOk w w.heap.size x) (hxb:∀ i,x.at_ i→i<w.heap.size∧¬ C.own p i) (hxr:x.ev.causes.length≤8∧x.ev.files.length≤4) (hk:k=(C.ml++[x]).length) :
  CvG (w5.setCell ⟨p,0,none⟩ (.slice A2 k c2)) p (L++[x.ev]) F D {C with A:=A2,c:=c2,ml:=C.ml++[x]}∧Turn (C.own p) w (w5.setCell ⟨p,0,none⟩ (.slice A2 k c2)) ∧
   ∀ i,({C with A:=A2,c:=c2,ml:=C.ml++[x]}:CvL).own p i→C.own p i∨w.heap.size≤i:=by
 subst hk
 have hp:=box_lt h.box
 have hob:=h.own.lt
 have hdb:=h.del.lt
 have hAp:slBlk C.A≠some p:=fun e=>(h.d2 p e).1 rfl
 have hsz:(w5.setCell ⟨p,0,none⟩ (.slice A2 (C.ml++[x]).length c2)).heap.size=w5.heap.size:=by simp [World.setCell]
 have nb:∀ i,i<w.heap.size→i≠p→slBlk C.A≠some i→(w5.setCell ⟨p,0,none⟩ (.slice A2 (C.ml++[x]).length c2)).heap[i]?=w.heap[i]?:=fun i hi h1 h2 =>
  (heap_setCell_other w5 ⟨p,0,none⟩ i _ h1).trans (hg.block i hi (fun e=>h2 e.symm))
 have hA2:∀ i,slBlk A2=some i→slBlk C.A=some i∨i=w.heap.size:=fun i hi=>by
  rcases hat with e | e
  ·exact .inl (by rw [← e];exact hi)
  ·rw [hi] at e;exact .inr (Option.some.inj e)
 have hbox:w5.heap[p]?=some (.cells #[.slice C.A C.ml.length C.c,.map (some C.ob),.map (some C.db)] 101 (0,0)):=(hg.block p hp (fun e=>hAp e.symm)).trans h.box
 have hsl:=hg.size
 have hnown:∀ i,i<w.heap.size→¬ C.own p i→¬ ({C with A:=A2,c:=c2,ml:=C.ml++[x]}:CvL).own p i:=by
  rintro i hi hno (e | e | e | e | e)
  ·exact hno (.inl e)
  ·exact hno (.inr (.inl e))
  ·exact hno (.inr (.inr (.inl e)))
  ·rcases hA2 i e with e | e
   ·exact hno (.inr (.inr (.inr (.inl e))))
   ·omega
  ·exact hno (.inr (.inr (.inr (.inr e))))
 refine ⟨⟨heap_setCell_same w5 p 0 _ _ _ hbox,by rw [List.map_append,h.ml];rfl,hown.turn (fun i hi _=>heap_setCell_other w5 ⟨p,0,none⟩ i _ (fun e=>?_)),?_,?_,?_,h.own.of_block (nb _ hob (fun e=>h.d1.1 e.symm) (fun e=>(h.d2 _ e).2.1 rfl)),h.ownl,
  fun a s hf=>(h.owno a s hf).turn (fun i hi hl=>nb i hl (h.d3 a s i hf hi).1 (h.d3 a s i hf hi).2.2.2),h.del.of_block (nb _ hdb (fun e=>h.d1.2.1 e.symm) (fun e=>(h.d2 _ e).2.2 rfl)),h.dell,h.d1,?_,?_,h.d4⟩,?_,?_⟩
 ·rcases hA2 i hi with e2 | e2
  ·exact hAp (by rw [e2,e])
  ·have e':i=p:=e
   omega
 ·intro y hy
  have hyk:EvLOk w w.heap.size y∧∀ i,y.at_ i→i<w.heap.size∧¬ C.own p i:=by
   rcases List.mem_append.1 hy with hy | hy
   ·exact ⟨h.evs y hy,h.evb y hy⟩
   ·rw [List.mem_singleton] at hy
    subst hy
    exact ⟨hx,hxb⟩
  refine hyk.1.turn (fun i hi hl=>nb i hl (fun e=>(hyk.2 i hi).2 (.inl e)) (fun e=>(hyk.2 i hi).2 (.inr (.inr (.inr (.inl e)))))) (by omega)
 ·intro y hy i hi
  have hyk:i<w.heap.size∧¬ C.own p i:=by
   rcases List.mem_append.1 hy with hy | hy
   ·exact h.evb y hy i hi
   ·rw [List.mem_singleton] at hy
    subst hy
    exact hxb i hi
  exact ⟨by omega,hnown i hyk.1 hyk.2⟩
 ·intro y hy
  rcases List.mem_append.1 hy with hy | hy
  ·exact h.evr y hy
  ·rw [List.mem_singleton] at hy
   subst hy
   exact hxr
 ·intro i hi
  rcases hA2 i hi with e | e
  ·exact h.d2 i e
  ·exact ⟨by omega,fun e2=>(by have:i=C.ob:=e2;omega),fun e2=>(by have:i=C.db:=e2;omega)⟩
 ·intro a s i hf hi
  obtain ⟨e1,e2,e3,e4⟩:=h.d3 a s i hf hi
  refine ⟨e1,e2,e3,fun e=>?_⟩
  rcases hA2 i e with e5 | e5
  ·exact e4 e5
  ·have:=((h.owno a s hf).blk_lt hi).2;omega
 ·refine ⟨hg.os,hg.tape,hg.output,by omega,fun i hi hno=>nb i hi (fun e=>hno (.inl e)) (fun e=>hno (.inr (.inr (.inr (.inl e)))))⟩
 ·rintro i (e | e | e | e | e)
  ·exact .inl (.inl e)
  ·exact .inl (.inr (.inl e))
  ·exact .inl (.inr (.inr (.inl e)))
  ·rcases hA2 i e with e | e
   ·exact .inl (.inr (.inr (.inr (.inl e))))
   ·exact .inr (by omega)
  ·exact .inl (.inr (.inr (.inr (.inr e))))
theorem CvG.addOwn (h:CvG w p L F D C) (a:Int) (ha:InInt a) (n:Int) {A2:Option Addr} {c2:Nat} (hown:OwnL w5 0 3 1 intC A2 c2 (F a++[n])) (hg:w.grownBy w5 (slBlk (C.get a).A)) (hat:slBlk A2=slBlk (C.get a).A∨slBlk A2=some w.heap.size) :
  ∃ w6,(Instr.mapUpdate 98 (.map (some C.ob)) (.int .i64 a) (.slice A2 (F a++[n]).length c2)).run Tryz.prog w5=.ok () w6 ∧
   CvG w6 p L (fun y=>if y=a then F a++[n] else F y) D {C with f:=fun y=>if y=a then some ⟨F a++[n],A2,c2⟩ else C.f y}∧Turn (C.own p) w w6 ∧
   ∀ i,({C with f:=fun y=>if y=a then some ⟨F a++[n],A2,c2⟩ else C.f y}:CvL).own p i→C.own p i∨w.heap.size≤i:=by
 have hp:=box_lt h.box
 have hob:=h.own.lt
 have hdb:=h.del.lt
 have hA2:∀ i,slBlk A2=some i→(∃ s,C.f a=some s∧slBlk s.A=some i)∨i=w.heap.size:=fun i hi=>by
  rcases hat with e | e
  ·exact .inl (h.get_some (by rw [← e];exact hi))
  ·rw [hi] at e;exact .inr (Option.some.inj e)
 have nb5:∀ i,i<w.heap.size→(∀ s,C.f a=some s→slBlk s.A≠some i)→w5.heap[i]?=w.heap[i]?:=fun i hi hno=>hg.block i hi (fun e=>by
  obtain ⟨s,hs,hsi⟩:=h.get_some e.symm
  exact hno s hs hsi)
 have hm5:MapF w5 C.ob InInt (Value.int .i64) IL.v C.f:=h.own.of_block (nb5 _ hob (fun s hs e=>(h.d3 a s _ hs e).2.1 rfl))
 obtain ⟨w6,hrun,hm6,hg6,hs6⟩:=hm5.store keyInt Tryz.underlying98 a ha ⟨F a++[n],A2,c2⟩
 have hsl:=hg.size
 have nb:∀ i,i<w.heap.size→i≠C.ob→(∀ s,C.f a=some s→slBlk s.A≠some i)→w6.heap[i]?=w.heap[i]?:=fun i hi h1 h2 =>
  (hg6.block i (by omega) (fun e=>h1 (Option.some.inj e))).trans (nb5 i hi h2)
 have hpn:∀ s,C.f a=some s→slBlk s.A≠some p:=fun s hs e=>(h.d3 a s p hs e).1 rfl
 have hdn:∀ s,C.f a=some s→slBlk s.A≠some C.db:=fun s hs e=>(h.d3 a s _ hs e).2.2.1 rfl
 have hEn:∀ i,slBlk C.A=some i→∀ s,C.f a=some s→slBlk s.A≠some i:=fun i hi s hs e=>(h.d3 a s i hs e).2.2.2 hi
 have hnown:∀ i,i<w.heap.size→¬ C.own p i→¬ ({C with f:=fun y=>if y=a then some ⟨F a++[n],A2,c2⟩ else C.f y}:CvL).own p i:=by
  rintro i hi hno (e | e | e | e | ⟨b,s,hs,e⟩)
  ·exact hno (.inl e)
  ·exact hno (.inr (.inl e))
  ·exact hno (.inr (.inr (.inl e)))
  ·exact hno (.inr (.inr (.inr (.inl e))))
  ·simp only at hs
   by_cases hb:b=a
   ·rw [if_pos hb] at hs
    injection hs with hs
    subst hs
    rcases hA2 i e with ⟨s,hs,hi2⟩ | e
    ·exact hno (.inr (.inr (.inr (.inr ⟨a,s,hs,hi2⟩))))
    ·omega
   ·rw [if_neg hb] at hs
    exact hno (.inr (.inr (.inr (.inr ⟨b,s,hs,e⟩))))
 refine ⟨w6,hrun,⟨(nb p hp h.d1.1 hpn).trans h.box,h.ml,h.evl.turn (fun i hi hl=>nb i hl (fun e=>(h.d2 i hi).2.1 e) (hEn i hi)),?_,?_,h.evr,hm6,?_,?_,h.del.of_block (nb _ hdb (fun e=>h.d1.2.2 e.symm) hdn),h.dell,h.d1,h.d2,?_,?_⟩,?_,?_⟩
 ·intro y hy
  refine (h.evs y hy).turn (fun i hi hl=>nb i hl (fun e=>(h.evb y hy i hi).2 (.inr (.inl e))) (fun s hs e=>(h.evb y hy i hi).2 (.inr (.inr (.inr (.inr ⟨a,s,hs,e⟩)))))) (by omega)
 ·intro y hy i hi
  obtain ⟨h1,h2⟩:=h.evb y hy i hi
  exact ⟨by omega,hnown i h1 h2⟩
 ·intro b
  unfold CvL.get
  simp only
  by_cases hb:b=a
  ·rw [if_pos hb,if_pos hb];rfl
  ·rw [if_neg hb,if_neg hb];exact h.ownl b
 ·intro b s hs
  simp only at hs
  by_cases hb:b=a
  ·rw [if_pos hb] at hs
   injection hs with hs
   subst hs
   exact hown.turn (fun i hi hl=>hg6.block i hl (fun e=>by
    have e:=Option.some.inj e
    rcases hA2 i hi with ⟨s,hs,hi2⟩ | e2
    ·exact (h.d3 a s i hs hi2).2.1 e
    ·omega))
  ·rw [if_neg hb] at hs
   exact (h.owno b s hs).turn (fun i hi hl=>nb i hl (h.d3 b s i hs hi).2.1 (fun t ht e=>h.d4 b a s t i hb hs ht hi e))
 ·intro b s i hs hi
  simp only at hs
  by_cases hb:b=a
  ·rw [if_pos hb] at hs
   injection hs with hs
   subst hs
   rcases hA2 i hi with ⟨s,hs,hi2⟩ | e2
   ·exact h.d3 a s i hs hi2
   ·refine ⟨by omega,fun e=>(by have:i=C.ob:=e;omega),fun e=>(by have:i=C.db:=e;omega),fun e=>?_⟩
    have:=(h.evl.blk_lt e).2
    omega
  ·rw [if_neg hb] at hs
   exact h.d3 b s i hs hi
 ·intro b d s t i hbd hs ht hi hti
  simp only at hs ht
  have key:∀ c s',C.f c=some s'→c≠a→∀ i,slBlk s'.A=some i→slBlk A2≠some i:=fun c s' hs' hc i hi e=>by
   rcases hA2 i e with ⟨s2,hs2,hi2⟩ | e2
   ·exact h.d4 c a s' s2 i hc hs' hs2 hi hi2
   ·have:=((h.owno c s' hs').blk_lt hi).2;omega
  by_cases hb:b=a
  ·rw [if_pos hb] at hs
   injection hs with hs
   subst hs
   have hd:d≠a:=fun e=>hbd (hb.trans e.symm)
   rw [if_neg hd] at ht
   exact key d t ht hd i hti hi
  ·rw [if_neg hb] at hs
   by_cases hd:d=a
   ·rw [if_pos hd] at ht
    injection ht with ht
    subst ht
    exact key b s hs hb i hi hti
   ·rw [if_neg hd] at ht
    exact h.d4 b d s t i hbd hs ht hi hti
 ·refine ⟨hg6.os.trans hg.os,hg6.tape.trans hg.tape,hg6.output.trans hg.output,by omega,fun i hi hno=>nb i hi (fun e=>hno (.inr (.inl e))) (fun s hs e=>hno (.inr (.inr (.inr (.inr ⟨a,s,hs,e⟩)))))⟩
 ·rintro i (e | e | e | e | ⟨b,s,hs,e⟩)
  ·exact .inl (.inl e)
  ·exact .inl (.inr (.inl e))
  ·exact .inl (.inr (.inr (.inl e)))
  ·exact .inl (.inr (.inr (.inr (.inl e))))
  ·simp only at hs
   by_cases hb:b=a
   ·rw [if_pos hb] at hs
    injection hs with hs
    subst hs
    rcases hA2 i e with ⟨s,hs,hi2⟩ | e
    ·exact .inl (.inr (.inr (.inr (.inr ⟨a,s,hs,hi2⟩))))
    ·exact .inr (by omega)
   ·rw [if_neg hb] at hs
    exact .inl (.inr (.inr (.inr (.inr ⟨b,s,hs,e⟩))))
theorem CvG.addDel (h:CvG w p L F D C) (k:Int) (hk:InInt k) :
  ∃ w6,(Instr.mapUpdate 99 (.map (some C.db)) (.int .i64 k) (.bool true)).run Tryz.prog w=.ok () w6 ∧
   CvG w6 p L F (fun y=>D y || y==k) {C with g:=fun y=>if y=k then some true else C.g y}∧Turn (C.own p) w w6:=by
 have hp:=box_lt h.box
 have hob:=h.own.lt
 obtain ⟨w6,hrun,hm6,hg6,hs6⟩:=h.del.store keyInt Tryz.underlying99 k hk true
 have nb:∀ i,i<w.heap.size→i≠C.db→w6.heap[i]?=w.heap[i]?:=fun i hi h1=>hg6.block i hi (fun e=>h1 (Option.some.inj e))
 refine ⟨w6,hrun,⟨(nb p hp h.d1.2.1).trans h.box,h.ml,h.evl.turn (fun i hi hl=>nb i hl (fun e=>(h.d2 i hi).2.2 e)),?_,?_,h.evr,h.own.of_block (nb _ hob h.d1.2.2),h.ownl,fun a s hs=>(h.owno a s hs).turn (fun i hi hl=>nb i hl (fun e=>(h.d3 a s i hs hi).2.2.1 e)),hm6,?_,h.d1,h.d2,h.d3,h.d4⟩,?_⟩
 ·intro y hy
  exact (h.evs y hy).turn (fun i hi hl=>nb i hl (fun e=>(h.evb y hy i hi).2 (.inr (.inr (.inl e))))) (by omega)
 ·intro y hy i hi
  obtain ⟨h1,h2⟩:=h.evb y hy i hi
  exact ⟨by omega,h2⟩
 ·intro y
  simp only
  by_cases hy:y=k
  ·rw [if_pos hy,if_pos (by simp [hy])]
  ·rw [if_neg hy,h.dell y]
   have:(y==k)=false:=by simpa using hy
   rw [this,Bool.or_false]
 ·exact ⟨hg6.os,hg6.tape,hg6.output,by omega,fun i hi hno=>nb i hi (fun e=>hno (.inr (.inr (.inl e))))⟩
end
/- Contracts of conv.New,missing (layer 15). -/
theorem cvNew_any (w:World):Calls Tryz.prog 40 #[] w fun e w'=>∃ p C,e=.returned (.pointer (some ⟨p,0,none⟩))∧CvK w' p [] C∧(∀ i,C.own p i→w.heap.size≤i)∧Below w.heap.size w w':=by
 have hmm:=@run_makeMap Tryz.prog
 go_enter Tryz.func40,Tryz.ntmps40
 go_wp2
 go_ret
 refine ⟨w.heap.size+2,⟨none,0,[],w.heap.size,w.heap.size+1,fun _=>none,fun _=>none⟩,rfl,⟨?_,rfl,OwnL.nil_,fun x hx=>(by cases hx),fun x hx=>(by cases hx),fun x hx=>(by cases hx),?_,fun a=>rfl,fun a s h=>(by cases h),?_,fun k=>rfl,?_,fun i hi=>(by cases hi),fun a s i h=>(by cases h),fun a b s t i _ h=>(by cases h)⟩,?_,by repeat (first | with_reducible exact Below.refl _ _ | with_reducible assumption | with_reducible refine Below.drew ?_ | with_reducible refine Below.alloc ?_ (by first | omega | (simp;done) | (simp;omega)) _)⟩
 ·have h1:=(MapKept.heap_alloc ((w.alloc (.map #[] 0)).alloc (.map #[] 0)) (.cells #[.slice none 0 0,.map (some w.heap.size),.map (some (w.heap.size+1))] 101)).1
  rw [show ((w.alloc (.map #[] 0)).alloc (.map #[] 0)).heap.size=w.heap.size+2 by simp] at h1
  exact h1
 ·exact (MapF.new w).of_block (by
   rw [Below.heap_alloc _ _ _ (by simp;omega),Below.heap_alloc _ _ _ (by simp)])
 ·have h1:=MapF.new (ok:=InInt) (kv:=Value.int .i64) (vv:=Value.bool) (w.alloc (.map #[] 0))
  rw [show (w.alloc (.map #[] 0)).heap.size=w.heap.size+1 by simp] at h1
  exact h1.of_block (Below.heap_alloc _ _ _ (by simp))
 ·refine ⟨?_,?_,?_⟩
  ·show w.heap.size+2≠w.heap.size
   omega
  ·show w.heap.size+2≠w.heap.size+1
   omega
  ·show w.heap.size≠w.heap.size+1
   omega
 ·rintro i (h | h | h | h | ⟨a,s,h,_⟩)
  ·omega
  ·have h':i=w.heap.size:=h
   omega
  ·have h':i=w.heap.size+1:=h
   omega
  ·cases h
  ·cases h
theorem cvMiss1_any (id:Int) (n c:Nat) (A:Option Addr) (b p:Nat) (w:World) (hb:w.cell? ⟨b,0,none⟩=some (.pointer (some ⟨p,0,none⟩))) (hl:b<w.heap.size) (hp:w.cell? ⟨p,0,none⟩=some (.slice A n c)) (hpl:p<w.heap.size) :
  Calls Tryz.prog 128 #[.int .i64 id,.pointer (some ⟨b,0,none⟩)] w fun e w'=>e=.returned (.bool (decide ((n:Int)≤id)))∧Below w.heap.size w w':=by
 go_enter Tryz.func128,Tryz.ntmps128
 go_wp2_with fail
 go_ret
 exact ⟨rfl,Below.refl _ _⟩
theorem cvMiss_any (p:Nat) (L:List EvM) (F:Int→List Int) (D:Int→Bool) (C:CvL) (e:EvL) (w:World) (h:CvG w p L F D C) (he:EvLOk w w.heap.size e) (hc:e.ev.causes.length≤100000) :
  Calls Tryz.prog 73 #[.pointer (some ⟨p,0,none⟩),e.v] w fun en w'=>en=.returned (.bool (missB L.length e.ev))∧Below w.heap.size w w':=by
 have HG:Hid (([e.ev.target,e.ev.quote]++e.ev.causes).any (fun id=>decide ((L.length:Int)≤id))=missB L.length e.ev):=hid (by unfold missB;simp)
 have hb0:Below w.heap.size w ((w.alloc (.cells #[.pointer (some ⟨p,0,none⟩)] 31)).alloc (.cells (e.ev.cs e.cA e.cc e.fA e.fc) 40)):=by repeat (first | with_reducible exact Below.refl _ _ | with_reducible assumption | with_reducible refine Below.drew ?_ | with_reducible refine Below.alloc ?_ (by first | omega | (simp;done) | (simp;omega)) _)
 have h1:((w.alloc (.cells #[.pointer (some ⟨p,0,none⟩)] 31)).alloc (.cells (e.ev.cs e.cA e.cc e.fA e.fc) 40)).heap[w.heap.size+1]?=some (.cells (e.ev.cs e.cA e.cc e.fA e.fc) 40 (0,0)):=by
  have:=(MapKept.heap_alloc (w.alloc (.cells #[.pointer (some ⟨p,0,none⟩)] 31)) (.cells (e.ev.cs e.cA e.cc e.fA e.fc) 40)).1
  simpa using this
 have hcp:((w.alloc (.cells #[.pointer (some ⟨p,0,none⟩)] 31)).alloc (.cells (e.ev.cs e.cA e.cc e.fA e.fc) 40)).cell? ⟨w.heap.size,0,none⟩=some (.pointer (some ⟨p,0,none⟩)):=(cell_old _ _ _ _ (by simp)).trans (cell_new1 _ _ _ _ rfl)
 have HE:=hid (he.now hb0)
 have HK:=hid (h.below hb0)
 have HB0:=hid hb0
 have HC:=hid hcp
 have HLn:=hid h.len
 have hlt1:w.heap.size+1<((w.alloc (.cells #[.pointer (some ⟨p,0,none⟩)] 31)).alloc (.cells (e.ev.cs e.cA e.cc e.fA e.fc) 40)).heap.size:=by simp
 have z5:=box_cell h1 5 _ rfl
 have z6:=box_cell h1 6 _ rfl
 have z2:=box_cell h1 2 _ rfl
 clear h he hb0 h1 hcp
 go_enter Tryz.func73,Tryz.ntmps73
 go_upto_region 1 with fail
 change Code.wp _ _ _ _ ((w.alloc (.cells #[.pointer (some ⟨p,0,none⟩)] 31)).alloc (.cells (e.ev.cs e.cA e.cc e.fA e.fc) 40))
 generalize (w.alloc (.cells #[.pointer (some ⟨p,0,none⟩)] 31)).alloc (.cells (e.ev.cs e.cA e.cc e.fA e.fc) 40)=wb at *
 have HLit:=hid (show OwnL (wb.alloc (.cells #[.int .i64 e.ev.target,.int .i64 e.ev.quote] 3)) wb.heap.size 3 1 intC (some ⟨wb.heap.size,0,none⟩) 2 [e.ev.target,e.ev.quote] from World.ownsRow_lit wb _ 2 (Nat.le_refl _) (by simp [maxLen]) rfl)
 have HRc:=hid ((HE.out.now ((Below.refl _ _).alloc (Nat.le_refl _) (.cells #[.int .i64 e.ev.target,.int .i64 e.ev.quote] 3))).ok.ca)
 go_wp2_with (first
  | (at_builtin;refine wp_append_l rfl (.tmp 9) (.tmp 11) rfl slIntE intLayV wb.heap.size (xs:=[e.ev.target,e.ev.quote]) (ys:=e.ev.causes) rfl rfl HLit.out rfl rfl HRc.out (by simp;omega) (by simp) ?_;intro A2 c2 w2 hown hg hb hat;have HO2:=hid (hown.rd intLayV);have HB2:=hid (((Below.refl wb.heap.size wb).alloc (Nat.le_refl _) (.cells #[.int .i64 e.ev.target,.int .i64 e.ev.quote] 3)).trans hb);clear hown hg hb hat)
  | fail)
 refine (cnInt_any ([e.ev.target,e.ev.quote]++e.ev.causes) (fun id=>decide ((L.length:Int)≤id)) ⟨128,#[],#[.pointer (some ⟨w.heap.size,0,none⟩)]⟩ A2 c2 w2 HO2.out (by simp;omega) ⟨fun args w'=>enter_fn Tryz.func128 (by kernel_rfl) rfl args w',fun x hx w3 h3=>?_⟩).mono ?_
 ·have hB3:=HB2.out.trans (h3.mono HB2.out.size)
  have hk:=HK.out.below hB3
  have:=cvMiss1_any x C.ml.length C.c C.A w.heap.size p w3 ((hB3.cell (p:=⟨w.heap.size,0,none⟩) (show w.heap.size<wb.heap.size by omega)).trans HC.out) (by have:=hB3.size;omega) hk.c0 (box_lt hk.box)
  rw [HLn.out] at this
  exact this
 ·rintro en w3 ⟨rfl,hb3⟩
  have HB3:=hid (HB0.out.trans ((HB2.out.trans (hb3.mono HB2.out.size)).mono HB0.out.size))
  rw [HG.out]
  clear hb3
  go_wp2_with fail
  go_ret
  exact ⟨rfl,HB3.out⟩
end Go.Proofs.YtlnnjdibkbabiaaGreatDoor
