/- Contracts and plain laws, joined: WyJ, WyK, WyL, BkA, BkP, WyN, BkB, BkC. -/
import Derived.Test.YtlnnjdibkbabiaaGreatDoorQav
import Derived.Deep.RegionHeld3
import Derived.Test.YtlnnjdibkbabiaaGreatDoorQai
import Derived.Test.YtlnnjdibkbabiaaGreatDoorQaw
import Derived.Test.YtlnnjdibkbabiaaGreatDoorQah
/- Contract of ways.first. -/
set_option linter.unusedSimpArgs false
set_option linter.unusedVariables false
namespace Go.Proofs.YtlnnjdibkbabiaaGreatDoor
set_option maxHeartbeats 4000000
open _root_.Go.Lib (hid)
open Go.RowKit
def choC (x:Bool × Int × Int):List Value:=[.bool x.1,.int .i64 x.2.1,.int .i64 x.2.2]
theorem choLay:Lay 3 choC:=⟨fun _=>rfl,fun x u hu=>by simp only [choC,List.mem_cons,List.not_mem_nil,or_false] at hu;rcases hu with rfl | rfl | rfl <;> rfl⟩
def firstW:List (Bool × Int × Int)→Int × Int
 | []=>(5,2)
 | (b,x)::r=>if b then x else firstW r
theorem firstW_drop {xs:List (Bool × Int × Int)} {k:Nat} {b:Bool} {x:Int × Int} (h:xs[k]?=some (b,x)):firstW (xs.drop k)=if b then x else firstW (xs.drop (k+1)):=by
 obtain ⟨hk,he⟩:=List.getElem?_eq_some_iff.1 h
 rw [List.drop_eq_getElem_cons hk,he]
 rfl
theorem first_any (xs:List (Bool × Int × Int)) (n:Nat) (hn:n=xs.length) (hm:n≤1000) (A:Option Addr) (c:Nat) (w:World) (hr:RdL 3 choC w w.heap.size A xs) :
  Calls Tryz.prog 42 #[.slice A n c] w fun e w'=>e=.returned (wayV (firstW xs))∧Below w.heap.size w w':=by
 subst hn
 have hb0:Below w.heap.size w (w.alloc (.cells #[.int .i64 0,.int .i64 0] 80)):=(Below.refl _ _).alloc (Nat.le_refl _) _
 have hr0:=hr.now hb0
 have HB:=hid hb0
 clear hb0
 go_enter Tryz.func42,Tryz.ntmps42
 go_wp2
 go_loopw [7] (fun i wr=>∃ k:Nat,k≤xs.length∧i=.int .i64 k∧firstW xs=firstW (xs.drop k)∧Below (w.alloc (.cells #[.int .i64 0,.int .i64 0] 80)).heap.size (w.alloc (.cells #[.int .i64 0,.int .i64 0] 80)) wr) (fun i _=>xs.length - (intOf i).toNat)
 case atStart=>exact ⟨0,Nat.zero_le _,rfl,rfl,Below.refl _ _⟩
 case round =>
  obtain ⟨k,hk,rfl,hf,hb⟩:=hrel
  have c0:=boxCell _ _ _ hb w.heap.size rfl 0 _ rfl
  have c1:=boxCell _ _ _ hb w.heap.size rfl 1 _ rfl
  have g:=boxFree _ _ _ hb w.heap.size rfl
  have HF:=hid hf
  clear hf
  have hsz:w.heap.size<wr.heap.size:=by have:=hb.size;simp at this;omega
  by_cases hlt:k<xs.length
  ·obtain ⟨b,off,rfl,hbb,hc⟩:=(hr0.below hb).at_ hlt
   obtain ⟨⟨q,x1,x2⟩,hx⟩:∃ x,xs[k]=x:=⟨_,rfl⟩
   have HX:=hid (show xs[k]?=some (q,x1,x2) by rw [List.getElem?_eq_getElem hlt,hx])
   rw [hx] at hc
   have v0:=hc 0 _ rfl
   have v1:=hc 1 _ rfl
   have v2:=hc 2 _ rfl
   simp only [Nat.add_zero] at v0
   clear hc hx
   have HBB:=hid hb
   clear hb
   cases q
   ·go_wp2
    go_roundw
    case rel=>exact ⟨k+1,by omega,by go_num,by rw [HF.out,firstW_drop HX.out];rfl,HBB.out.alloc HBB.out.size _⟩
    case measure=>simp [intOf];omega
   ·go_wp2
    have q0:∀ o j,(((wr.setCell ⟨w.heap.size,0,none⟩ (.int .i64 x1)).setCell ⟨w.heap.size,1,none⟩ (.int .i64 x2)).alloc o).cell? ⟨w.heap.size,j,none⟩=((wr.setCell ⟨w.heap.size,0,none⟩ (.int .i64 x1)).setCell ⟨w.heap.size,1,none⟩ (.int .i64 x2)).cell? ⟨w.heap.size,j,none⟩:=fun o j=>cell_old _ o _ j (by simp;omega)
    refine bodyPost_ret (v:=wayV (x1,x2)) (by simp [results,Tryz.results42,go_sem,c0,c1,q0]) rfl ⟨?_,((((HB.out.trans (HBB.out.mono HB.out.size)).setCell (by simp) _).setCell (by simp) _).alloc (by simp;omega) _)⟩
    simp [HF.out,firstW_drop HX.out]
  ·have hdn:xs.drop k=[]:=List.drop_of_length_le (by omega)
   have HD:=hid (show firstW xs=(5,2) by rw [HF.out,hdn];rfl)
   have HBB:=hid hb
   clear hb hdn
   go_wp2
   refine bodyPost_ret (v:=wayV (5,2)) (by simp [results,Tryz.results42,go_sem,c0,c1]) rfl ⟨?_,(((HB.out.trans (HBB.out.mono HB.out.size)).setCell (by simp) _).setCell (by simp) _)⟩
   simp [HD.out]
/- Contract of ways.Compile. -/
theorem slW:SlTy Tryz.prog 34 80 2 16:=by
 obtain ⟨i,hi,h0,h1,h2⟩:=info_parts (show (Tryz.prog.info? 80).map (fun i=>(i.zero,i.size,i.bytes))=some (some (.agg #[.int .i64 0,.int .i64 0]),2,16) by kernel_rfl)
 exact ⟨Tryz.underlying34,⟨i,_,hi,h0,h1,h2,rfl⟩,by decide,by decide⟩
theorem check_files (p:Prof) (h:profCheck p=0):p.files≤4:=by
 unfold profCheck at h
 split at h
 ·split at h
  ·cases h
  ·rename_i h2
   simp [offB,boundsB,inR] at h2
   omega
 ·cases h
theorem waysFacts (p:Prof) (w1 W3:World) (b:Nat) (hs:b<w1.heap.size) (hW3:W3=((w1.alloc (.cells #[.int .i64 0,.int .i64 0] 80)).alloc (.cells #[.int .i64 2,.int .i64 2] 80)).alloc (.cells #[.int .i64 3,.int .i64 2] 80))
  (f1:w1.cell? ⟨b,1,none⟩=some (.int .i64 p.edit)) (f2:w1.cell? ⟨b,2,none⟩=some (.int .i64 p.within_)) (f3:w1.cell? ⟨b,3,none⟩=some (.int .i64 p.delete)) (f4:w1.cell? ⟨b,4,none⟩=some (.bool p.react)) (f5:w1.cell? ⟨b,5,none⟩=some (.int .i64 p.thread))
  (f6:w1.cell? ⟨b,6,none⟩=some (.bool p.quote)) (f7:w1.cell? ⟨b,7,none⟩=some (.bool p.mention)) (f8:w1.cell? ⟨b,8,none⟩=some (.int .i64 p.size)) (f9:w1.cell? ⟨b,9,none⟩=some (.int .i64 p.parts)) (f10:w1.cell? ⟨b,10,none⟩=some (.int .i64 p.files)) :
  ∀ wx,Below W3.heap.size W3 wx→wx.cell? ⟨b,1,none⟩=some (.int .i64 p.edit)∧wx.cell? ⟨b,2,none⟩=some (.int .i64 p.within_)∧wx.cell? ⟨b,3,none⟩=some (.int .i64 p.delete)∧wx.cell? ⟨b,4,none⟩=some (.bool p.react)∧wx.cell? ⟨b,5,none⟩=some (.int .i64 p.thread)
   ∧ wx.cell? ⟨b,6,none⟩=some (.bool p.quote)∧wx.cell? ⟨b,7,none⟩=some (.bool p.mention)∧wx.cell? ⟨b,8,none⟩=some (.int .i64 p.size)∧wx.cell? ⟨b,9,none⟩=some (.int .i64 p.parts)∧wx.cell? ⟨b,10,none⟩=some (.int .i64 p.files)
   ∧ wx.cell? ⟨w1.heap.size,0,none⟩=some (.int .i64 0)∧wx.cell? ⟨w1.heap.size,1,none⟩=some (.int .i64 0)∧wx.cell? ⟨w1.heap.size+1,0,none⟩=some (.int .i64 2)∧wx.cell? ⟨w1.heap.size+1,1,none⟩=some (.int .i64 2)∧wx.cell? ⟨w1.heap.size+1+1,0,none⟩=some (.int .i64 3)∧wx.cell? ⟨w1.heap.size+1+1,1,none⟩=some (.int .i64 2):=by
 intro wx hb
 have hz:W3.heap.size=w1.heap.size+3:=by rw [hW3];simp
 have k:∀ a j,a<w1.heap.size+3→wx.cell? ⟨a,j,none⟩=W3.cell? ⟨a,j,none⟩:=fun a j h=>hb.cell (p:=⟨a,j,none⟩) (by simp only;omega)
 have o:∀ j,wx.cell? ⟨b,j,none⟩=w1.cell? ⟨b,j,none⟩:=fun j=>by
  rw [k b j (by omega),hW3,cell_old _ _ _ _ (by simp;omega),cell_old _ _ _ _ (by simp;omega),cell_old _ _ _ _ hs]
 refine ⟨(o 1).trans f1,(o 2).trans f2,(o 3).trans f3,(o 4).trans f4,(o 5).trans f5,(o 6).trans f6,(o 7).trans f7,(o 8).trans f8,(o 9).trans f9,(o 10).trans f10,?_,?_,?_,?_,?_,?_⟩
 all_goals rw [k _ _ (by omega),hW3]
 ·rw [cell_old _ _ _ _ (by simp;omega),cell_old _ _ _ _ (by simp)];exact boxCell _ _ _ (Below.refl _ _) _ rfl 0 _ rfl
 ·rw [cell_old _ _ _ _ (by simp;omega),cell_old _ _ _ _ (by simp)];exact boxCell _ _ _ (Below.refl _ _) _ rfl 1 _ rfl
 ·rw [cell_old _ _ _ _ (by simp)];exact boxCell _ _ _ (Below.refl _ _) _ (by simp) 0 _ rfl
 ·rw [cell_old _ _ _ _ (by simp)];exact boxCell _ _ _ (Below.refl _ _) _ (by simp) 1 _ rfl
 ·exact boxCell _ _ _ (Below.refl _ _) _ (by simp) 0 _ rfl
 ·exact boxCell _ _ _ (Below.refl _ _) _ (by simp) 1 _ rfl
theorem ownOfMade {w':World} {base g:Nat} {t:TypeId} (h:w'.ownsRow base t 2 (.slice (some ⟨g,0,none⟩) 9 9) 9 (madeCells (Value.agg #[.int .i64 0,.int .i64 0]).cells (9 * 2)).toList):OwnL w' base t 2 wayC (some ⟨g,0,none⟩) 9 (List.replicate 9 ((0:Int),(0:Int))):=by
 unfold OwnL
 rw [show (madeCells (Value.agg #[.int .i64 0,.int .i64 0]).cells (9 * 2)).toList=(List.replicate 9 ((0:Int),(0:Int))).flatMap wayC from by kernel_rfl] at h
 exact h
theorem react_first (p:Prof) (pb:Bool) (h1:1≤p.parts) (hp:decide (1<p.parts)=pb) (hr:p.react=true):firstW [(!pb,0,0),(true,0,1),(true,3,2)]=reactW p:=by
 subst hp
 by_cases h:p.parts=1
 ·simp [firstW,reactW,hr,h]
 ·have:1<p.parts:=by omega
  simp [firstW,reactW,hr,h,this]
theorem file_first (p:Prof) (h:p.files≤4):firstW [(p.files==4,0,0),(decide (0<p.files),4,1),(true,2,2)]=fileW p:=by
 by_cases h4:p.files=4
 ·simp [firstW,fileW,h4]
 ·by_cases h0:0<p.files
  ·simp [firstW,fileW,h4,h0,show ¬ 4≤p.files by omega,show 1≤p.files by omega]
  ·simp [firstW,fileW,h4,h0,show ¬ 4≤p.files by omega,show ¬ 1≤p.files by omega]
set_option maxRecDepth 100000 in
theorem pCompile_any (p:Prof) (A:Option Addr) (c:Nat) (w:World) (hr:ProfOk w w.heap.size A p) (hcap:p.types.length≤c):Calls Tryz.prog 13 #[p.v A c] w (WaysOut p w):=by
 have hb0:Below w.heap.size w (w.alloc (.cells (p.cs A c) 24)):=(Below.refl _ _).alloc (Nat.le_refl _) _
 have hr0:=hr.now hb0
 have HB:=hid hb0
 clear hb0
 have HRA:=hid (boxRange w (p.cs A c) 24 (Below.refl _ _))
 go_enter Tryz.func13,Tryz.ntmps13
 go_wp2_with ((with_reducible show wpList _ _ _ (Oper.mk _ (Op.load 24 _) _ _ _ _::_) _ _);refine wpList_load_g rfl 24 (.tmp 1) rfl w.heap.size 0 rfl (p.cs A c).toList _ HRA.out Tryz.underlying24 rfl (by kernel_rfl) ?_)
 refine (pCheck_any p A c _ hr0 hcap).mono ?_
 rintro e w1 ⟨rfl,hb1⟩
 have hcc:=boxCells w _ _ hb1
 have HB1:=hid (HB.out.trans (hb1.mono HB.out.size))
 have hs1:w.heap.size<w1.heap.size:=by have:=hb1.size;simp at this;omega
 clear hb1 hr0 HRA
 generalize hpc:profCheck p=pc
 have HPC:=hid hpc
 clear hpc
 by_cases h0:pc=0
 ·subst h0
  obtain ⟨b1,b2,b3,b4⟩:=check_bounds p HPC.out
  have f1:=hcc 1 _ rfl
  have f2:=hcc 2 _ rfl
  have f9:=hcc 9 _ rfl
  have f3:=hcc 3 _ rfl
  have f4:=hcc 4 _ rfl
  have f5:=hcc 5 _ rfl
  have f6:=hcc 6 _ rfl
  have f7:=hcc 7 _ rfl
  have f8:=hcc 8 _ rfl
  have f10:=hcc 10 _ rfl
  clear hcc
  have hfl:=check_files p HPC.out
  have hm0:0≤p.size * p.parts:=Int.mul_nonneg (by omega) (by omega)
  have hm1:p.size * p.parts≤80000:=Int.le_trans (Int.mul_le_mul b2 b4 (by omega) (by omega)) (by omega)
  obtain ⟨W3,hW3⟩:∃ W3,W3=((w1.alloc (.cells #[.int .i64 0,.int .i64 0] 80)).alloc (.cells #[.int .i64 2,.int .i64 2] 80)).alloc (.cells #[.int .i64 3,.int .i64 2] 80):=⟨_,rfl⟩
  have HF:=waysFacts p w1 W3 w.heap.size hs1 hW3 f1 f2 f3 f4 f5 f6 f7 f8 f9 f10
  have hz3:W3.heap.size=w1.heap.size+3:=by rw [hW3];simp
  have HB3:Hid (Below w.heap.size w W3):=hid (HB1.out.trans (by rw [hW3];exact (((((Below.refl w1.heap.size w1).alloc (by simp) _).alloc (by simp) _).alloc (by simp;omega) _).mono HB1.out.size)))
  clear f1 f2 f3 f4 f5 f6 f7 f8 f9 f10
  go_upto_region 5 with fail
  rw [← hW3]
  clear hW3
  have HFF:=hid HF
  have HZ:=hid hz3
  clear hz3
  obtain ⟨f1,f2,f3,f4,f5,f6,f7,f8,f9,f10,s0,s1,t0,t1,n0,n1⟩:=HF W3 (Below.refl _ _)
  clear f3 f4 f5 f6 f7 f8 f10 s0 s1 t0 t1 n0 n1 HF
  go_cut [8,9] (fun v u wx=>v=.bool (decide (1<p.parts))∧u=.bool (editsB p)∧∃ n,wx=W3.drewN n)
  case first =>
   by_cases h1:p.edit=2
   ·have e1:(p.edit==2)=true:=by simpa using h1
    have HE:Hid (editsB p=(p.within_==0)):=hid (by simp [editsB,h1])
    clear h1
    go_quiet (fail)
    go_wp2
    go_meet
    exact ⟨rfl,by rw [HE.out],_,rfl⟩
   ·have e1:(p.edit==2)=false:=by simpa using h1
    have HE:Hid (editsB p=false):=hid (by simp [editsB,h1])
    clear h1
    go_quiet (fail)
    go_wp2
    go_meet
    exact ⟨rfl,by rw [HE.out],_,rfl⟩
  case rest =>
   obtain ⟨rfl,rfl,n,hW4⟩:=hcut
   obtain ⟨wx,hwx⟩:∃ wx,wx=W3.drewN n:=⟨_,rfl⟩
   have hbl:Below W3.heap.size W3 wx:=by rw [hwx];exact below_drewN (Below.refl _ _) _
   subst hW4
   rw [← hwx]
   clear hwx f1 f2 f9
   generalize hpb:decide (1<p.parts)=pb
   generalize heb:editsB p=eb
   have HPB:=hid hpb
   have HEB:=hid heb
   clear hpb heb
   obtain ⟨i0,hi0,z0,z1,z2⟩:=info_parts (show (Tryz.prog.info? 80).map (fun i=>(i.zero,i.size,i.bytes))=some (some (.agg #[.int .i64 0,.int .i64 0]),2,16) by kernel_rfl)
   have hbase:=hbl.size
   go_upto_region 8 with (first
    | (at_make;refine wpList_make_full _ rfl _ _ _ rfl W3.heap.size 80 i0 (.agg #[.int .i64 0,.int .i64 0]) 2 slW.ht hi0 z0 z1 _ _ _ _ 9 rfl rfl rfl rfl (by rw [z2];decide) (by decide) (hbl.size) ?_;intro w' hmk hg;have hownA:=ownOfMade hmk;have hblA:=hbl.grown hg hbase (fun k hk=>by cases hk);clear hmk hg hbl hi0;obtain ⟨f1,f2,f3,f4,f5,f6,f7,f8,f9,f10,s0,s1,t0,t1,n0,n1⟩:=HFF.out _ hblA)
    | ((with_reducible show wpList _ _ _ (Oper.mk _ (Op.store 80 _ _) _ _ _ _::_) _ _);refine wp_store_l rfl _ _ rfl slW wayLay hownA 0 (by simp) _ rfl rfl (0,0) _ rfl rfl ?_;clear f1 f2 f3 f4 f5 f6 f7 f8 f9 f10 s0 s1 t0 t1 n0 n1;intro w3 hown hg;have hbl:=hblA.grown hg hblA.size (fun k hk=>by cases hk;exact hbase);clear hownA hblA hg;obtain ⟨f1,f2,f3,f4,f5,f6,f7,f8,f9,f10,s0,s1,t0,t1,n0,n1⟩:=HFF.out _ hbl))
   dsimp only [Act.put]
   go_cut [53] (fun v w'=>OwnL w' W3.heap.size 80 2 wayC (some ⟨wx.heap.size,0,none⟩) 9 [(0,0),longW p,(0,0),(0,0),(0,0),(0,0),(0,0),(0,0),(0,0)]∧Below W3.heap.size W3 w')
   case first =>
    cases pb
    ·go_wp2_with fail
     have HW:=hid (show firstW [(false,1,1),(false,4,1),(true,4,0)]=longW p by simp [firstW,longW,show ¬ 2≤p.parts by have:=HPB.out;simp at this;omega])
     refine (first_any [(false,1,1),(false,4,1),(true,4,0)] _ (by rfl) (by decide) _ _ _ (RdL.blockV choLay _ [(false,1,1),(false,4,1),(true,4,0)] _ _ (by rfl) _ (by rfl))).mono ?_
     rw [HW.out]
     rintro e w2 ⟨rfl,hb2⟩
     have hownA:=(hown.alloc _).below hb2
     have hblA:=(hbl.alloc hbl.size _).trans (hb2.mono (Nat.le_trans hbl.size (by simp)))
     clear hown hbl hb2 HW
     go_wp2_with ((with_reducible show wpList _ _ _ (Oper.mk _ (Op.store 80 _ _) _ _ _ _::_) _ _);refine wp_store_l rfl _ _ rfl slW wayLay hownA 1 (by simp) _ rfl rfl (longW p) _ rfl rfl ?_;clear f1 f2 f3 f4 f5 f6 f7 f8 f9 f10 s0 s1 t0 t1 n0 n1;intro w3 hown hg;have hbl:=hblA.grown hg hblA.size (fun k hk=>by cases hk;exact hbase);clear hownA hblA hg;obtain ⟨f1,f2,f3,f4,f5,f6,f7,f8,f9,f10,s0,s1,t0,t1,n0,n1⟩:=HFF.out _ hbl)
     go_meet
     exact ⟨hown,hbl⟩
    ·go_wp2_with fail
     have HW:=hid (show firstW [(decide (4400≤p.size * p.parts),1,1),(true,4,1),(true,4,0)]=longW p by simp [firstW,longW,show 2≤p.parts by have:=HPB.out;simp at this;omega])
     refine (first_any [(decide (4400≤p.size * p.parts),1,1),(true,4,1),(true,4,0)] _ (by rfl) (by decide) _ _ _ (RdL.blockV choLay _ [(decide (4400≤p.size * p.parts),1,1),(true,4,1),(true,4,0)] _ _ (by rfl) _ (by rfl))).mono ?_
     rw [HW.out]
     rintro e w2 ⟨rfl,hb2⟩
     have hownA:=(hown.alloc _).below hb2
     have hblA:=(hbl.alloc hbl.size _).trans (hb2.mono (Nat.le_trans hbl.size (by simp)))
     clear hown hbl hb2 HW
     go_wp2_with ((with_reducible show wpList _ _ _ (Oper.mk _ (Op.store 80 _ _) _ _ _ _::_) _ _);refine wp_store_l rfl _ _ rfl slW wayLay hownA 1 (by simp) _ rfl rfl (longW p) _ rfl rfl ?_;clear f1 f2 f3 f4 f5 f6 f7 f8 f9 f10 s0 s1 t0 t1 n0 n1;intro w3 hown hg;have hbl:=hblA.grown hg hblA.size (fun k hk=>by cases hk;exact hbase);clear hownA hblA hg;obtain ⟨f1,f2,f3,f4,f5,f6,f7,f8,f9,f10,s0,s1,t0,t1,n0,n1⟩:=HFF.out _ hbl)
     go_meet
     exact ⟨hown,hbl⟩
   case rest =>
    obtain ⟨hown,hbl⟩:=hcut
    obtain ⟨f1,f2,f3,f4,f5,f6,f7,f8,f9,f10,s0,s1,t0,t1,n0,n1⟩:=HFF.out _ hbl
    go_wp2_with fail
    have HW:=hid (show firstW [(eb,0,0),(true,3,2)]=editW p by simp [firstW,editW,HEB.out])
    refine (first_any [(eb,0,0),(true,3,2)] _ (by rfl) (by decide) _ _ _ (RdL.blockV choLay _ [(eb,0,0),(true,3,2)] _ _ (by rfl) _ (by rfl))).mono ?_
    rw [HW.out]
    rintro e w2 ⟨rfl,hb2⟩
    have hownA:=(hown.alloc _).below hb2
    have hblA:=(hbl.alloc hbl.size _).trans (hb2.mono (Nat.le_trans hbl.size (by simp)))
    clear hown hbl hb2 HW
    go_wp2_with ((with_reducible show wpList _ _ _ (Oper.mk _ (Op.store 80 _ _) _ _ _ _::_) _ _);refine wp_store_l rfl _ _ rfl slW wayLay hownA 2 (by simp) _ rfl rfl (editW p) _ rfl rfl ?_;clear f1 f2 f3 f4 f5 f6 f7 f8 f9 f10 s0 s1 t0 t1 n0 n1;intro w3 hown hg;have hbl:=hblA.grown hg hblA.size (fun k hk=>by cases hk;exact hbase);clear hownA hblA hg;obtain ⟨f1,f2,f3,f4,f5,f6,f7,f8,f9,f10,s0,s1,t0,t1,n0,n1⟩:=HFF.out _ hbl)
    have HW:=hid (show firstW [(p.delete != 0,0,0),(eb,2,0),(true,3,2)]=goneW p by (simp only [firstW,goneW,HEB.out];by_cases hd:p.delete=0 <;> simp [hd]))
    refine (first_any [(p.delete != 0,0,0),(eb,2,0),(true,3,2)] _ (by rfl) (by decide) _ _ _ (RdL.blockV choLay _ [(p.delete != 0,0,0),(eb,2,0),(true,3,2)] _ _ (by rfl) _ (by rfl))).mono ?_
    rw [HW.out]
    rintro e w2 ⟨rfl,hb2⟩
    have hownA:=(hown.alloc _).below hb2
    have hblA:=(hbl.alloc hbl.size _).trans (hb2.mono (Nat.le_trans hbl.size (by simp)))
    clear hown hbl hb2 HW
    go_upto_region 11 with ((with_reducible show wpList _ _ _ (Oper.mk _ (Op.store 80 _ _) _ _ _ _::_) _ _);refine wp_store_l rfl _ _ rfl slW wayLay hownA 3 (by simp) _ rfl rfl (goneW p) _ rfl rfl ?_;clear f1 f2 f3 f4 f5 f6 f7 f8 f9 f10 s0 s1 t0 t1 n0 n1;intro w3 hown hg;have hbl:=hblA.grown hg hblA.size (fun k hk=>by cases hk;exact hbase);clear hownA hblA hg;obtain ⟨f1,f2,f3,f4,f5,f6,f7,f8,f9,f10,s0,s1,t0,t1,n0,n1⟩:=HFF.out _ hbl)
    dsimp only [Act.put]
    go_cut [93] (fun v w'=>OwnL w' W3.heap.size 80 2 wayC (some ⟨wx.heap.size,0,none⟩) 9 [(0,0),longW p,editW p,goneW p,reactW p,(0,0),(0,0),(0,0),(0,0)]∧Below W3.heap.size W3 w')
    case first =>
     generalize hre:p.react=re at f4
     have HRE:=hid hre
     clear hre
     cases re
     ·go_wp2_with fail
      have HW:=hid (show firstW [(false,0,0),(false,0,1),(true,3,2)]=reactW p by simp [firstW,reactW,HRE.out])
      refine (first_any [(false,0,0),(false,0,1),(true,3,2)] _ (by rfl) (by decide) _ _ _ (RdL.blockV choLay _ [(false,0,0),(false,0,1),(true,3,2)] _ _ (by rfl) _ (by rfl))).mono ?_
      rw [HW.out]
      rintro e w2 ⟨rfl,hb2⟩
      have hownA:=(hown.alloc _).below hb2
      have hblA:=(hbl.alloc hbl.size _).trans (hb2.mono (Nat.le_trans hbl.size (by simp)))
      clear hown hbl hb2 HW
      go_wp2_with ((with_reducible show wpList _ _ _ (Oper.mk _ (Op.store 80 _ _) _ _ _ _::_) _ _);refine wp_store_l rfl _ _ rfl slW wayLay hownA 4 (by simp) _ rfl rfl (reactW p) _ rfl rfl ?_;clear f1 f2 f3 f4 f5 f6 f7 f8 f9 f10 s0 s1 t0 t1 n0 n1;intro w3 hown hg;have hbl:=hblA.grown hg hblA.size (fun k hk=>by cases hk;exact hbase);clear hownA hblA hg;obtain ⟨f1,f2,f3,f4,f5,f6,f7,f8,f9,f10,s0,s1,t0,t1,n0,n1⟩:=HFF.out _ hbl)
      go_meet
      exact ⟨hown,hbl⟩
     ·go_wp2_with fail
      have HW:=hid (show firstW [(!pb,0,0),(true,0,1),(true,3,2)]=reactW p by exact react_first p pb b3 HPB.out HRE.out)
      refine (first_any [(!pb,0,0),(true,0,1),(true,3,2)] _ (by rfl) (by decide) _ _ _ (RdL.blockV choLay _ [(!pb,0,0),(true,0,1),(true,3,2)] _ _ (by rfl) _ (by rfl))).mono ?_
      rw [HW.out]
      rintro e w2 ⟨rfl,hb2⟩
      have hownA:=(hown.alloc _).below hb2
      have hblA:=(hbl.alloc hbl.size _).trans (hb2.mono (Nat.le_trans hbl.size (by simp)))
      clear hown hbl hb2 HW
      go_wp2_with ((with_reducible show wpList _ _ _ (Oper.mk _ (Op.store 80 _ _) _ _ _ _::_) _ _);refine wp_store_l rfl _ _ rfl slW wayLay hownA 4 (by simp) _ rfl rfl (reactW p) _ rfl rfl ?_;clear f1 f2 f3 f4 f5 f6 f7 f8 f9 f10 s0 s1 t0 t1 n0 n1;intro w3 hown hg;have hbl:=hblA.grown hg hblA.size (fun k hk=>by cases hk;exact hbase);clear hownA hblA hg;obtain ⟨f1,f2,f3,f4,f5,f6,f7,f8,f9,f10,s0,s1,t0,t1,n0,n1⟩:=HFF.out _ hbl)
      go_meet
      exact ⟨hown,hbl⟩
    case rest =>
     obtain ⟨hown,hbl⟩:=hcut
     obtain ⟨f1,f2,f3,f4,f5,f6,f7,f8,f9,f10,s0,s1,t0,t1,n0,n1⟩:=HFF.out _ hbl
     go_wp2_with fail
     have HW:=hid (show firstW [(p.thread==2,0,0),(p.thread==1,2,1),(true,2,2)]=replyW p by simp [firstW,replyW])
     refine (first_any [(p.thread==2,0,0),(p.thread==1,2,1),(true,2,2)] _ (by rfl) (by decide) _ _ _ (RdL.blockV choLay _ [(p.thread==2,0,0),(p.thread==1,2,1),(true,2,2)] _ _ (by rfl) _ (by rfl))).mono ?_
     rw [HW.out]
     rintro e w2 ⟨rfl,hb2⟩
     have hownA:=(hown.alloc _).below hb2
     have hblA:=(hbl.alloc hbl.size _).trans (hb2.mono (Nat.le_trans hbl.size (by simp)))
     clear hown hbl hb2 HW
     go_wp2_with ((with_reducible show wpList _ _ _ (Oper.mk _ (Op.store 80 _ _) _ _ _ _::_) _ _);refine wp_store_l rfl _ _ rfl slW wayLay hownA 5 (by simp) _ rfl rfl (replyW p) _ rfl rfl ?_;clear f1 f2 f3 f4 f5 f6 f7 f8 f9 f10 s0 s1 t0 t1 n0 n1;intro w3 hown hg;have hbl:=hblA.grown hg hblA.size (fun k hk=>by cases hk;exact hbase);clear hownA hblA hg;obtain ⟨f1,f2,f3,f4,f5,f6,f7,f8,f9,f10,s0,s1,t0,t1,n0,n1⟩:=HFF.out _ hbl)
     have HW:=hid (show firstW [(p.quote,0,0),(true,2,2)]=ownW p.quote by simp [firstW,ownW])
     refine (first_any [(p.quote,0,0),(true,2,2)] _ (by rfl) (by decide) _ _ _ (RdL.blockV choLay _ [(p.quote,0,0),(true,2,2)] _ _ (by rfl) _ (by rfl))).mono ?_
     rw [HW.out]
     rintro e w2 ⟨rfl,hb2⟩
     have hownA:=(hown.alloc _).below hb2
     have hblA:=(hbl.alloc hbl.size _).trans (hb2.mono (Nat.le_trans hbl.size (by simp)))
     clear hown hbl hb2 HW
     go_wp2_with ((with_reducible show wpList _ _ _ (Oper.mk _ (Op.store 80 _ _) _ _ _ _::_) _ _);refine wp_store_l rfl _ _ rfl slW wayLay hownA 6 (by simp) _ rfl rfl (ownW p.quote) _ rfl rfl ?_;clear f1 f2 f3 f4 f5 f6 f7 f8 f9 f10 s0 s1 t0 t1 n0 n1;intro w3 hown hg;have hbl:=hblA.grown hg hblA.size (fun k hk=>by cases hk;exact hbase);clear hownA hblA hg;obtain ⟨f1,f2,f3,f4,f5,f6,f7,f8,f9,f10,s0,s1,t0,t1,n0,n1⟩:=HFF.out _ hbl)
     have HW:=hid (show firstW [(p.mention,0,0),(true,2,2)]=ownW p.mention by simp [firstW,ownW])
     refine (first_any [(p.mention,0,0),(true,2,2)] _ (by rfl) (by decide) _ _ _ (RdL.blockV choLay _ [(p.mention,0,0),(true,2,2)] _ _ (by rfl) _ (by rfl))).mono ?_
     rw [HW.out]
     rintro e w2 ⟨rfl,hb2⟩
     have hownA:=(hown.alloc _).below hb2
     have hblA:=(hbl.alloc hbl.size _).trans (hb2.mono (Nat.le_trans hbl.size (by simp)))
     clear hown hbl hb2 HW
     go_wp2_with ((with_reducible show wpList _ _ _ (Oper.mk _ (Op.store 80 _ _) _ _ _ _::_) _ _);refine wp_store_l rfl _ _ rfl slW wayLay hownA 7 (by simp) _ rfl rfl (ownW p.mention) _ rfl rfl ?_;clear f1 f2 f3 f4 f5 f6 f7 f8 f9 f10 s0 s1 t0 t1 n0 n1;intro w3 hown hg;have hbl:=hblA.grown hg hblA.size (fun k hk=>by cases hk;exact hbase);clear hownA hblA hg;obtain ⟨f1,f2,f3,f4,f5,f6,f7,f8,f9,f10,s0,s1,t0,t1,n0,n1⟩:=HFF.out _ hbl)
     have HW:=hid (show firstW [(p.files==4,0,0),(decide (0<p.files),4,1),(true,2,2)]=fileW p by exact file_first p hfl)
     refine (first_any [(p.files==4,0,0),(decide (0<p.files),4,1),(true,2,2)] _ (by rfl) (by decide) _ _ _ (RdL.blockV choLay _ [(p.files==4,0,0),(decide (0<p.files),4,1),(true,2,2)] _ _ (by rfl) _ (by rfl))).mono ?_
     rw [HW.out]
     rintro e w2 ⟨rfl,hb2⟩
     have hownA:=(hown.alloc _).below hb2
     have hblA:=(hbl.alloc hbl.size _).trans (hb2.mono (Nat.le_trans hbl.size (by simp)))
     clear hown hbl hb2 HW
     go_wp2_with ((with_reducible show wpList _ _ _ (Oper.mk _ (Op.store 80 _ _) _ _ _ _::_) _ _);refine wp_store_l rfl _ _ rfl slW wayLay hownA 8 (by simp) _ rfl rfl (fileW p) _ rfl rfl ?_;clear f1 f2 f3 f4 f5 f6 f7 f8 f9 f10 s0 s1 t0 t1 n0 n1;intro w3 hown hg;have hbl:=hblA.grown hg hblA.size (fun k hk=>by cases hk;exact hbase);clear hownA hblA hg;obtain ⟨f1,f2,f3,f4,f5,f6,f7,f8,f9,f10,s0,s1,t0,t1,n0,n1⟩:=HFF.out _ hbl)
     go_ret2
     have hw:waysOf p=wayL p:=by simp [waysOf,HPC.out]
     exact ⟨HB3.out.trans (hbl.mono HB3.out.size),some ⟨wx.heap.size,0,none⟩,9,by rw [hw,HPC.out];rfl,by rw [hw];exact hown.rd wayLay⟩
 ·have HN:=hid h0
  clear h0
  have e1:(pc != 0)=true:=by simpa using HN.out
  have e2:(pc==0)=false:=by simpa using HN.out
  go_wp2
  go_ret2
  have hw:waysOf p=[]:=by simp [waysOf,HPC.out,HN.out]
  exact ⟨HB1.out,none,0,by rw [hw,HPC.out];rfl,by rw [hw];exact RdL.nil_⟩
/- Contracts of Same,Few,and the laws' own profiles. -/
def pngS:ByteArray:=⟨#[112,110,103]⟩
def zeroP:Prof:={name:=ByteArray.empty,edit:=0,within_:=0,delete:=0,react:=false,thread:=0,quote:=false,mention:=false,size:=0,parts:=0,files:=0,bytes:=0,types:=[],join:=0,history:=0,remove:=0,level:=0,batch:=false,rate:=0,down:=0,window:=0,keep:=0}
def MadeP (p:Prof) (w:World) (e:Ending) (w':World):Prop:=Below w.heap.size w w'∧∃ A,e=.returned (p.v A 1)∧RdS w' w'.heap.size A p.types
theorem strLayV:Lay 1 strCells:=⟨fun _=>rfl,fun x u hu=>by simp only [strCells,List.mem_cons,List.not_mem_nil,or_false] at hu;subst hu;rfl⟩
theorem RdL.at_block {T:Type} {sz:Nat} {enc:T→List Value} {w w':World} {B B' g o:Nat} {xs:List T} (h:RdL sz enc w B (some ⟨g,o,none⟩) xs) (hk:∀ j,w'.cell? ⟨g,j,none⟩=w.cell? ⟨g,j,none⟩) (hB:g<B'):RdL sz enc w' B' (some ⟨g,o,none⟩) xs:=fun k x hx=>by
 obtain ⟨b,off,e,_,hc⟩:=h k x hx
 injection e with e
 injection e with e1 e2
 subst e1 e2
 exact ⟨_,_,rfl,hB,fun j v hv=>(hk _).trans (hc j v hv)⟩
def FewOut (p:Prof) (w:World) (e:Ending) (w':World):Prop:=(∃ b,e=.returned (.bool b)∧(b=true→p.types.length≤12))∧Below w.heap.size w w'
set_option maxRecDepth 100000 in
theorem few_anyV (p:Prof) (A:Option Addr) (c:Nat) (w:World) (hr:ProfOk w w.heap.size A p):Calls Tryz.prog 9 #[p.v A c] w (FewOut p w):=by
 obtain ⟨hrd,hnm,hlen,hts⟩:=hr
 have HTS:=hid hts
 clear hts
 have hb0:Below w.heap.size w (w.alloc (.cells (p.cs A c) 24)):=(Below.refl _ _).alloc (Nat.le_refl _) _
 have HB:=hid hb0
 have hrd0:=hrd.now hb0
 clear hb0
 go_enter Tryz.func9,Tryz.ntmps9
 go_wp2
 go_loopw [3] (fun i wr=>∃ k:Nat,k≤p.types.length∧k≤13∧i=.int .i64 k∧wr=(w.alloc (.cells (p.cs A c) 24))) (fun i _=>p.types.length - (intOf i).toNat)
 case atStart=>exact ⟨0,Nat.zero_le _,Nat.zero_le _,rfl,rfl⟩
 case round =>
  obtain ⟨k,hk,hk2,rfl,rfl⟩:=hrel
  by_cases hlt:k<p.types.length
  ·by_cases hlt2:k<13
   ·obtain ⟨b,off,s,rfl,hbb,hp,hc⟩:=RdS_at hrd0 hlt
    have HP:=hid hp
    have hsz:=HTS.out s (List.mem_of_getElem? hp)
    clear hp
    by_cases hs:60<s.size
    ·go_wp2
     go_ret
     exact ⟨⟨_,rfl,fun h=>by cases h⟩,HB.out⟩
    ·go_wp2
     go_roundw
     case rel=>exact ⟨k+1,by omega,by omega,by go_num,by first | trivial | rfl⟩
     case measure=>simp [intOf];omega
   ·go_wp2
    all_goals go_ret
    all_goals exact ⟨⟨_,rfl,fun h=>by first | omega | (simp at h;done) | (simp at h;omega)⟩,HB.out⟩
  ·by_cases hl:p.types.length≤12
   all_goals by_cases hn:p.name.size≤60
   all_goals go_wp2
   all_goals go_ret
   all_goals exact ⟨⟨_,rfl,fun h=>by first | omega | (simp at h;done) | (simp at h;omega)⟩,HB.out⟩
/- What an account has done,and what comes back (layer 23),in plain Lean;small contracts of package back. -/
structure RawM where
 account:Int
 seq:Int
 kind:Int
 group:Int
 on:Int
 quote:Int
 who:Int
 n:Int
 text:ByteArray
 files:List Int
abbrev RawM.cs (r:RawM) (fA:Option Addr) (fc:Nat):Array Value :=
 #[.int .i64 r.account,.int .i64 r.seq,.int .i64 r.kind,.int .i64 r.group,.int .i64 r.on,.int .i64 r.quote,.int .i64 r.who,.int .i64 r.n,.string r.text,.slice fA r.files.length fc]
abbrev RawM.v (r:RawM) (fA:Option Addr) (fc:Nat):Value:=.agg (r.cs fA fc)
structure RawOk (w:World) (B:Nat) (fA:Option Addr) (fc:Nat) (r:RawM):Prop where
 fi:RdI w B fA r.files
 fl:r.files.length≤9223372036854775807
 tx:r.text.size≤9223372036854775807
theorem RawOk.now {w w':World} {fA:Option Addr} {fc:Nat} {r:RawM} (h:RawOk w w.heap.size fA fc r) (hb:Below w.heap.size w w'):RawOk w' w'.heap.size fA fc r:=⟨h.fi.now hb,h.fl,h.tx⟩
def meansPost (p:Prof) (r:RawM):Bool:=((r.on==-1) || !(p.thread==0)) && (((r.quote==-1) || p.quote) && ((r.who==-1) || p.mention))
def meansB (p:Prof) (r:RawM):Bool :=
 if r.kind=0 then meansPost p r else if r.kind=1 then p.edit==2 else if r.kind=2 then !(p.delete==0) else if r.kind=3∨r.kind=4 then p.react else true
def knownR (xs:List Pair) (net loc:Int):Int × Bool:=if loc=-1 then (-1,true) else (evOf (findF (fNL net loc) xs),(findF (fNL net loc) xs).isSome)
def backStep (xs:List Pair) (net:Int) (r:RawM) (o:EvM × Bool) (s:ByteArray):EvM × Bool :=
 if s=sTarget then ({o.1 with target:=(knownR xs net r.on).1},o.2 && (knownR xs net r.on).2) else if s=sQuote then ({o.1 with quote:=(knownR xs net r.quote).1},o.2 && (knownR xs net r.quote).2)
 else if s=sWho then ({o.1 with who:=r.who},o.2) else if s=sN then ({o.1 with n:=r.n},o.2) else if s=sText then ({o.1 with text:=r.text},o.2) else if s=sFiles then ({o.1 with files:=r.files},o.2) else o
def backE0 (r:RawM) (step:Int):EvM:=⟨r.account,0,[],r.kind,r.group,-1,-1,-1,0,ByteArray.empty,[],step⟩
def backFold (xs:List Pair) (net:Int) (r:RawM) (step:Int):EvM × Bool:=(usesL r.kind).foldl (backStep xs net r) (backE0 r step,true)
def zeroEv:EvM:=⟨0,0,[],0,0,0,0,0,0,ByteArray.empty,[],0⟩
def argsBad (p:Prof) (net:Int) (r:RawM):Bool:=!(profCheck p==0) || (decide (netI r.account<0) || (!(netI r.account==net) || (decide (r.kind<0) || decide (10≤r.kind))))
def fullB (p:Prof) (r:RawM):Bool:=hasX r.kind && (decide (p.size<r.text.size) || decide (p.files<r.files.length))
def backS (p:Prof) (xs:List Pair) (net:Int) (r:RawM) (step:Int):EvM × Int :=
 if argsBad p net r=true then (zeroEv,1) else if meansB p r=false then (zeroEv,7) else if fullB p r=true then (zeroEv,6)
 else if (backFold xs net r step).2=false then (zeroEv,4) else if rightE (backFold xs net r step).1=false then (zeroEv,2) else ((backFold xs net r step).1,0)
theorem stepBT (xs:List Pair) (net:Int) (r:RawM) (o:EvM × Bool):backStep xs net r o sTarget=({o.1 with target:=(knownR xs net r.on).1},o.2 && (knownR xs net r.on).2):=by
 unfold backStep
 rw [if_pos rfl]
theorem stepBQ (xs:List Pair) (net:Int) (r:RawM) (o:EvM × Bool):backStep xs net r o sQuote=({o.1 with quote:=(knownR xs net r.quote).1},o.2 && (knownR xs net r.quote).2):=by
 unfold backStep
 rw [if_neg (by decide),if_pos rfl]
theorem stepBW (xs:List Pair) (net:Int) (r:RawM) (o:EvM × Bool):backStep xs net r o sWho=({o.1 with who:=r.who},o.2):=by
 unfold backStep
 rw [if_neg (by decide),if_neg (by decide),if_pos rfl]
theorem stepBN (xs:List Pair) (net:Int) (r:RawM) (o:EvM × Bool):backStep xs net r o sN=({o.1 with n:=r.n},o.2):=by
 unfold backStep
 rw [if_neg (by decide),if_neg (by decide),if_neg (by decide),if_pos rfl]
theorem stepBX (xs:List Pair) (net:Int) (r:RawM) (o:EvM × Bool):backStep xs net r o sText=({o.1 with text:=r.text},o.2):=by
 unfold backStep
 rw [if_neg (by decide),if_neg (by decide),if_neg (by decide),if_neg (by decide),if_pos rfl]
theorem stepBF (xs:List Pair) (net:Int) (r:RawM) (o:EvM × Bool):backStep xs net r o sFiles=({o.1 with files:=r.files},o.2):=by
 unfold backStep
 rw [if_neg (by decide),if_neg (by decide),if_neg (by decide),if_neg (by decide),if_neg (by decide),if_pos rfl]
theorem bKnown_any (xs:List Pair) (A:Option Addr) (n c:Nat) (net loc:Int) (w:World) (hn:n=xs.length) (hr:RdP w w.heap.size A xs) (hm:xs.length≤9223372036854775807) :
  Calls Tryz.prog 49 #[.slice A n c,.int .i64 net,.int .i64 loc] w fun e w'=>e=.returned (.tuple #[.int .i64 (knownR xs net loc).1,.bool (knownR xs net loc).2])∧Below w.heap.size w w':=by
 subst hn
 by_cases hl:loc=-1
 ·have hk:knownR xs net loc=(-1,true):=by unfold knownR;rw [if_pos hl]
  have hb:(loc==-1)=true:=by simpa using hl
  rw [hk]
  clear hk hl
  go_enter Tryz.func49,Tryz.ntmps49
  go_wp2
  go_ret2
  exact ⟨rfl,Below.refl _ _⟩
 ·have hk:knownR xs net loc=(evOf (findF (fNL net loc) xs),(findF (fNL net loc) xs).isSome):=by unfold knownR;rw [if_neg hl]
  have hb:(loc==-1)=false:=by simpa using hl
  have HF:=hid (pfind_any xs A c net loc w hr hm)
  rw [hk]
  clear hk hl hr hm
  go_enter Tryz.func49,Tryz.ntmps49
  go_wp2_with (go_at_call 82;refine HF.out.mono ?_;rintro e w1 ⟨rfl,hb1⟩)
  go_ret2
  exact ⟨rfl,hb1⟩
/- The plain law of BackPairs: what Back gives depends on the network's own pairs and on the fields that the kind uses alone. -/
def foldE (xs:List Pair) (net:Int) (r:RawM) (step:Int):EvM :=
 ⟨r.account,0,[],r.kind,r.group,if hasT r.kind=true then (knownR xs net r.on).1 else -1,if hasQ r.kind=true then (knownR xs net r.quote).1 else -1,if hasW r.kind=true then r.who else -1,if hasN r.kind=true then r.n else 0,
  if hasX r.kind=true then r.text else ByteArray.empty,if hasX r.kind=true then r.files else [],step⟩
def foldOk (xs:List Pair) (net:Int) (r:RawM):Bool:=(!hasT r.kind || (knownR xs net r.on).2) && (!hasQ r.kind || (knownR xs net r.quote).2)
theorem backFold_eq (xs:List Pair) (net:Int) (r:RawM) (step:Int):backFold xs net r step=(foldE xs net r step,foldOk xs net r):=by
 obtain ⟨a,b,k,c,d,e,f,g,h,i⟩:=r
 rcases kind_cases k with hk | hk | hk | hk | hk | hk | hk | hk | hk
 all_goals first | subst hk | skip
 ·unfold backFold foldE foldOk
  simp only [usesL,if_pos,List.foldl_cons,List.foldl_nil,stepBT,stepBQ,stepBW,stepBN,stepBX,stepBF]
  simp [hasT,hasQ,hasW,hasN,hasX,backE0]
 ·unfold backFold foldE foldOk
  rw [show usesL 1=[sTarget,sText,sFiles] from rfl]
  simp only [List.foldl_cons,List.foldl_nil,stepBT,stepBQ,stepBW,stepBN,stepBX,stepBF]
  simp [hasT,hasQ,hasW,hasN,hasX,backE0]
 ·unfold backFold foldE foldOk
  rw [show usesL 2=[sTarget] from rfl]
  simp only [List.foldl_cons,List.foldl_nil,stepBT,stepBQ,stepBW,stepBN,stepBX,stepBF]
  simp [hasT,hasQ,hasW,hasN,hasX,backE0]
 ·unfold backFold foldE foldOk
  rw [show usesL 3=[sTarget,sN] from rfl]
  simp only [List.foldl_cons,List.foldl_nil,stepBT,stepBQ,stepBW,stepBN,stepBX,stepBF]
  simp [hasT,hasQ,hasW,hasN,hasX,backE0]
 ·unfold backFold foldE foldOk
  rw [show usesL 4=[sTarget,sN] from rfl]
  simp only [List.foldl_cons,List.foldl_nil,stepBT,stepBQ,stepBW,stepBN,stepBX,stepBF]
  simp [hasT,hasQ,hasW,hasN,hasX,backE0]
 ·unfold backFold foldE foldOk
  rw [show usesL 5=[sWho] from rfl]
  simp only [List.foldl_cons,List.foldl_nil,stepBT,stepBQ,stepBW,stepBN,stepBX,stepBF]
  simp [hasT,hasQ,hasW,hasN,hasX,backE0]
 ·unfold backFold foldE foldOk
  rw [show usesL 7=[sWho] from rfl]
  simp only [List.foldl_cons,List.foldl_nil,stepBT,stepBQ,stepBW,stepBN,stepBX,stepBF]
  simp [hasT,hasQ,hasW,hasN,hasX,backE0]
 ·unfold backFold foldE foldOk
  rw [show usesL 9=[sWho,sN] from rfl]
  simp only [List.foldl_cons,List.foldl_nil,stepBT,stepBQ,stepBW,stepBN,stepBX,stepBF]
  simp [hasT,hasQ,hasW,hasN,hasX,backE0]
 ·obtain ⟨a0,a1,a2,a3,a4,a5,a7,a9⟩:=hk
  have hT:hasT k=false:=by unfold hasT;simp;omega
  have hQ:hasQ k=false:=by unfold hasQ;simp [a0]
  have hW:hasW k=false:=by unfold hasW;simp [a0,a5,a7,a9]
  have hN:hasN k=false:=by unfold hasN;simp [a3,a4,a9]
  have hX:hasX k=false:=by unfold hasX;simp [a0,a1]
  have hu:usesL k=[]:=by unfold usesL;simp [a0,a1,a2,a3,a4,a5,a7,a9]
  unfold backFold foldE foldOk
  simp [hT,hQ,hW,hN,hX,hu,backE0]
structure Alike (r o:RawM):Prop where
 account:o.account=r.account
 kind:o.kind=r.kind
 group:o.group=r.group
 who:o.who=r.who
 on:r.kind≤4→o.on=r.on
 quote:r.kind=0→o.quote=r.quote
 n:hasN r.kind=true→o.n=r.n
 text:hasX r.kind=true→o.text=r.text∧o.files=r.files
/- Contracts of rank,longer and AtMost,and of the library's Clone of strings. -/
abbrev OwnS (w:World) (base:Nat):=OwnL w base 9 1 strCells
/- Contract of means of package back. -/
set_option maxRecDepth 100000 in
theorem bMeans_any (p:Prof) (A:Option Addr) (c:Nat) (r:RawM) (fA:Option Addr) (fc:Nat) (w:World):Calls Tryz.prog 47 #[p.v A c,r.v fA fc] w fun e w'=>e=.returned (.bool (meansB p r))∧Below w.heap.size w w':=by
 have HB:=hid (show Below w.heap.size w ((w.alloc (.cells (p.cs A c) 24)).alloc (.cells (r.cs fA fc) 48)) by repeat (first | with_reducible exact Below.refl _ _ | with_reducible assumption | with_reducible refine Below.drew ?_ | with_reducible refine Below.alloc ?_ (by first | omega | (simp;done) | (simp;omega)) _))
 by_cases k0:r.kind=0
 ·have HM:Hid (meansB p r=(((r.on==-1) || !(p.thread==0)) && (((r.quote==-1) || p.quote) && ((r.who==-1) || p.mention)))):=hid (by unfold meansB meansPost;rw [if_pos k0])
  have d0:(r.kind==0)=true:=by simpa using k0
  clear k0
  cases a0:(r.on==-1)
  ·cases b0:(p.thread==0)
   ·skip
    cases a1:(r.quote==-1)
    ·cases b1:p.quote
     ·skip
      have hne:(p.thread != 0)=!(p.thread==0):=rfl
      try rw [b0] at hne
      go_enter Tryz.func47,Tryz.ntmps47
      go_wp2_with fail
      go_quiet (fail)
      go_wp2
      go_ret
      exact ⟨ret_bool (by rw [HM.out];simp [a0,b0,a1,b1]),below_drewN HB.out _⟩
     ·skip
      cases a2:(r.who==-1)
      ·cases b2:p.mention
       ·skip
        have hne:(p.thread != 0)=!(p.thread==0):=rfl
        try rw [b0] at hne
        go_enter Tryz.func47,Tryz.ntmps47
        go_wp2_with fail
        go_quiet (fail)
        go_wp2
        go_ret
        exact ⟨ret_bool (by rw [HM.out];simp [a0,b0,a1,b1,a2,b2]),below_drewN HB.out _⟩
       ·skip
        skip
        have hne:(p.thread != 0)=!(p.thread==0):=rfl
        try rw [b0] at hne
        go_enter Tryz.func47,Tryz.ntmps47
        go_wp2_with fail
        go_quiet (fail)
        go_wp2
        go_ret
        exact ⟨ret_bool (by rw [HM.out];simp [a0,b0,a1,b1,a2,b2]),below_drewN HB.out _⟩
      ·skip
       skip
       have hne:(p.thread != 0)=!(p.thread==0):=rfl
       try rw [b0] at hne
       go_enter Tryz.func47,Tryz.ntmps47
       go_wp2_with fail
       go_quiet (fail)
       go_wp2
       go_ret
       exact ⟨ret_bool (by rw [HM.out];simp [a0,b0,a1,b1,a2]),below_drewN HB.out _⟩
    ·skip
     cases a2:(r.who==-1)
     ·cases b2:p.mention
      ·skip
       have hne:(p.thread != 0)=!(p.thread==0):=rfl
       try rw [b0] at hne
       go_enter Tryz.func47,Tryz.ntmps47
       go_wp2_with fail
       go_quiet (fail)
       go_wp2
       go_ret
       exact ⟨ret_bool (by rw [HM.out];simp [a0,b0,a1,a2,b2]),below_drewN HB.out _⟩
      ·skip
       skip
       have hne:(p.thread != 0)=!(p.thread==0):=rfl
       try rw [b0] at hne
       go_enter Tryz.func47,Tryz.ntmps47
       go_wp2_with fail
       go_quiet (fail)
       go_wp2
       go_ret
       exact ⟨ret_bool (by rw [HM.out];simp [a0,b0,a1,a2,b2]),below_drewN HB.out _⟩
     ·skip
      skip
      have hne:(p.thread != 0)=!(p.thread==0):=rfl
      try rw [b0] at hne
      go_enter Tryz.func47,Tryz.ntmps47
      go_wp2_with fail
      go_quiet (fail)
      go_wp2
      go_ret
      exact ⟨ret_bool (by rw [HM.out];simp [a0,b0,a1,a2]),below_drewN HB.out _⟩
   ·skip
    have hne:(p.thread != 0)=!(p.thread==0):=rfl
    try rw [b0] at hne
    go_enter Tryz.func47,Tryz.ntmps47
    go_wp2_with fail
    go_quiet (fail)
    go_wp2
    go_ret
    exact ⟨ret_bool (by rw [HM.out];simp [a0,b0]),below_drewN HB.out _⟩
  ·skip
   cases a1:(r.quote==-1)
   ·cases b1:p.quote
    ·skip
     have hne:(p.thread != 0)=!(p.thread==0):=rfl
     try rw [b0] at hne
     go_enter Tryz.func47,Tryz.ntmps47
     go_wp2_with fail
     go_quiet (fail)
     go_wp2
     go_ret
     exact ⟨ret_bool (by rw [HM.out];simp [a0,a1,b1]),below_drewN HB.out _⟩
    ·skip
     cases a2:(r.who==-1)
     ·cases b2:p.mention
      ·skip
       have hne:(p.thread != 0)=!(p.thread==0):=rfl
       try rw [b0] at hne
       go_enter Tryz.func47,Tryz.ntmps47
       go_wp2_with fail
       go_quiet (fail)
       go_wp2
       go_ret
       exact ⟨ret_bool (by rw [HM.out];simp [a0,a1,b1,a2,b2]),below_drewN HB.out _⟩
      ·skip
       skip
       have hne:(p.thread != 0)=!(p.thread==0):=rfl
       try rw [b0] at hne
       go_enter Tryz.func47,Tryz.ntmps47
       go_wp2_with fail
       go_quiet (fail)
       go_wp2
       go_ret
       exact ⟨ret_bool (by rw [HM.out];simp [a0,a1,b1,a2,b2]),below_drewN HB.out _⟩
     ·skip
      skip
      have hne:(p.thread != 0)=!(p.thread==0):=rfl
      try rw [b0] at hne
      go_enter Tryz.func47,Tryz.ntmps47
      go_wp2_with fail
      go_quiet (fail)
      go_wp2
      go_ret
      exact ⟨ret_bool (by rw [HM.out];simp [a0,a1,b1,a2]),below_drewN HB.out _⟩
   ·skip
    cases a2:(r.who==-1)
    ·cases b2:p.mention
     ·skip
      have hne:(p.thread != 0)=!(p.thread==0):=rfl
      try rw [b0] at hne
      go_enter Tryz.func47,Tryz.ntmps47
      go_wp2_with fail
      go_quiet (fail)
      go_wp2
      go_ret
      exact ⟨ret_bool (by rw [HM.out];simp [a0,a1,a2,b2]),below_drewN HB.out _⟩
     ·skip
      skip
      have hne:(p.thread != 0)=!(p.thread==0):=rfl
      try rw [b0] at hne
      go_enter Tryz.func47,Tryz.ntmps47
      go_wp2_with fail
      go_quiet (fail)
      go_wp2
      go_ret
      exact ⟨ret_bool (by rw [HM.out];simp [a0,a1,a2,b2]),below_drewN HB.out _⟩
    ·skip
     skip
     have hne:(p.thread != 0)=!(p.thread==0):=rfl
     try rw [b0] at hne
     go_enter Tryz.func47,Tryz.ntmps47
     go_wp2_with fail
     go_quiet (fail)
     go_wp2
     go_ret
     exact ⟨ret_bool (by rw [HM.out];simp [a0,a1,a2]),below_drewN HB.out _⟩
 have d0:(r.kind==0)=false:=by simpa using k0
 by_cases k1:r.kind=1
 ·have HM:Hid (meansB p r=(p.edit==2)):=hid (by unfold meansB;rw [if_neg k0,if_pos k1])
  have d1:(r.kind==1)=true:=by simpa using k1
  clear k0 k1
  go_enter Tryz.func47,Tryz.ntmps47
  go_wp2
  go_ret
  exact ⟨ret_bool (by first | (rw [HM.out];done) | (rw [HM.out];rfl) | (rw [HM.out];simp)),HB.out⟩
 have d1:(r.kind==1)=false:=by simpa using k1
 by_cases k2:r.kind=2
 ·have HM:Hid (meansB p r=!(p.delete==0)):=hid (by unfold meansB;rw [if_neg k0,if_neg k1,if_pos k2])
  have d2:(r.kind==2)=true:=by simpa using k2
  clear k0 k1 k2
  go_enter Tryz.func47,Tryz.ntmps47
  go_wp2
  go_ret
  exact ⟨ret_bool (by first | (rw [HM.out];done) | (rw [HM.out];rfl) | (rw [HM.out];simp)),HB.out⟩
 have d2:(r.kind==2)=false:=by simpa using k2
 by_cases k3:r.kind=3
 ·have HM:Hid (meansB p r=p.react):=hid (by unfold meansB;rw [if_neg k0,if_neg k1,if_neg k2,if_pos (.inl k3)])
  have d3:(r.kind==3)=true:=by simpa using k3
  clear k0 k1 k2 k3
  go_enter Tryz.func47,Tryz.ntmps47
  go_wp2
  go_ret
  exact ⟨ret_bool (by first | (rw [HM.out];done) | (rw [HM.out];rfl) | (rw [HM.out];simp)),HB.out⟩
 have d3:(r.kind==3)=false:=by simpa using k3
 by_cases k4:r.kind=4
 ·have HM:Hid (meansB p r=p.react):=hid (by unfold meansB;rw [if_neg k0,if_neg k1,if_neg k2,if_pos (.inr k4)])
  have d4:(r.kind==4)=true:=by simpa using k4
  clear k0 k1 k2 k3 k4
  go_enter Tryz.func47,Tryz.ntmps47
  go_wp2
  go_ret
  exact ⟨ret_bool (by first | (rw [HM.out];done) | (rw [HM.out];rfl) | (rw [HM.out];simp)),HB.out⟩
 have d4:(r.kind==4)=false:=by simpa using k4
 have HM:Hid (meansB p r=true):=hid (by unfold meansB;rw [if_neg k0,if_neg k1,if_neg k2,if_neg (by omega)])
 clear k0 k1 k2 k3 k4
 go_enter Tryz.func47,Tryz.ntmps47
 go_wp2
 go_ret
 exact ⟨ret_bool (by first | (rw [HM.out];done) | (rw [HM.out];rfl) | (rw [HM.out];simp)),HB.out⟩
/- Contract of back.Back,first part: where things lie,and what the early returns give. -/
theorem slIntE:SlTy Tryz.prog 38 3 1 8:=by
 obtain ⟨i,hi,h0,h1,h2⟩:=info_parts (show (Tryz.prog.info? 3).map (fun i=>(i.zero,i.size,i.bytes))=some (some (.int .i64 0),1,8) by kernel_rfl)
 exact ⟨Tryz.underlying38,⟨i,_,hi,h0,h1,h2,rfl⟩,by decide,by decide⟩
theorem equalIn_slice_nilE {P:Program} (w:World) (d:Nat) (t e:TypeId) (a:Option Addr) (l c:Nat) (h:P.underlying t=some (.slice e)):(Op.equalIn (d+1) t (.slice a l c) (.slice none 0 0)).run P w=.ok a.isNone w:=by
 cases a <;> simp [Op.equalIn,run_underlying h]
theorem run_eql_slice_nilE {P:Program} (w:World) (t e:TypeId) (a:Option Addr) (l c:Nat) (h:P.underlying t=some (.slice e)):(binOp .eql t (.slice a l c) (.slice none 0 0)).run P w=.ok (.bool a.isNone) w:=by
 simp [binOp,show Op.equal t (.slice a l c) (.slice none 0 0)=Op.equalIn (9999+1) t (.slice a l c) (.slice none 0 0) from rfl,equalIn_slice_nilE w 9999 t e a l c h]
theorem OwnL.len_le {T:Type} {sz:Nat} {enc:T→List Value} {w:World} {base:Nat} {e:TypeId} {A:Option Addr} {c:Nat} {xs:List T} (h:OwnL w base e sz enc A c xs):xs.length≤c:=by
 rcases h.2 with ⟨hv,hn⟩ | ⟨g,cap,cur,hv,_,_,hn,_⟩
 ·injection hv with _ _ e3
  omega
 ·injection hv with _ _ e3
  omega
theorem intClone_any (xs:List Int) (A:Option Addr) (n c:Nat) (w:World) (hn:n=xs.length) (hr:RdI w w.heap.size A xs) (hm:xs.length≤4194320) :
  Calls Tryz.prog 50 #[.slice A n c] w fun e w'=>∃ A' c',e=.returned (.slice A' xs.length c')∧OwnL w' w.heap.size 3 1 intC A' c' xs∧Below w.heap.size w w':=by
 subst hn
 have hq:=@run_eql_slice_nilE Tryz.prog
 rcases A with _ | a
 ·obtain rfl:xs=[]:=by
   rcases xs with _ | ⟨x,r⟩
   ·rfl
   ·obtain ⟨b,off,h,_⟩:=hr 0 x rfl
    cases h
  have q:=hq w 38 3 none 0 c Tryz.underlying38
  clear hq
  go_enter Tryz.func50,Tryz.ntmps50
  go_wp2
  go_ret
  exact ⟨none,0,rfl,OwnL.nil_,Below.refl _ _⟩
 ·have q:=hq w 38 3 (some a) xs.length c Tryz.underlying38
  clear hq
  have HO:=hid (OwnL.empty (T:=Int) (sz:=1) (enc:=intC) w 3 w.heap.size (Nat.le_refl _) _ rfl)
  have HR:=hid (hr.now ((Below.refl _ _).alloc (Nat.le_refl _) (.cells #[] 3)))
  go_enter Tryz.func50,Tryz.ntmps50
  go_wp2_with (at_builtin;refine wp_append_l rfl (.tmp 5) (.tmp 6) rfl slIntE intLayV w.heap.size (xs:=([]:List Int)) (ys:=xs) rfl rfl HO.out rfl rfl HR.out (by simp;omega) (by simp) ?_;intro A2 c2 w2 hown hg hb hat;have HO2:=hid hown;have HB2:=hid hb;clear hown hg hb hat)
  go_ret
  exact ⟨A2,c2,rfl,HO2.out,((Below.refl _ _).alloc (Nat.le_refl _) _).trans HB2.out⟩
theorem ret_box2 {P:Program} {fn:Func} {R:Ending→World→Prop} {a:Act} {w:World} (s t:Nat) (ty:TypeId) (hf:fn.results=#[.cell s ty,.tmp t]) (b:Nat) (cs:List Value) (d:TypeDesc) (v:Value)
  (hs:a.tmps.getD s undef=.pointer (some ⟨b,0,none⟩)) (hv:a.tmps.getD t undef=v) (hc:w.rangeAt b 0 cs) (hu:P.underlying ty=some d) (hd:d.isRow=true) (hi:(P.info? ty).map (·.size)=some cs.length)
  (hdf:a.defers=[]) (hR:R (.returned (.tuple #[.agg cs.toArray,v])) w):bodyPost P fn R .ret a w:=by
 refine bodyPost_ret (v:=.tuple #[.agg cs.toArray,v]) ?_ hdf hR
 unfold results
 rw [hf]
 simp only [List.mapM_toArray,List.mapM_cons,List.mapM_nil,hs,hv,asAddr,Sem.run_bind,Sem.run_pure,Result.andThen_ok,Sem.run_map,run_loadVar_mid w b 0 ty cs d hc hu hd hi]
 simp
def BackOut (p:Prof) (xs:List Pair) (net:Int) (r:RawM) (step:Int) (w:World) (en:Ending) (w':World):Prop :=
 Below w.heap.size w w'∧∃ fA fc,en=.returned (.tuple #[(backS p xs net r step).1.v none 0 fA fc,.int .i64 (backS p xs net r step).2])∧RdI w' w'.heap.size fA (backS p xs net r step).1.files∧(backS p xs net r step).1.files.length≤fc∧∀ j,slBlk fA=some j→w.heap.size≤j
structure BkW (p:Prof) (A:Option Addr) (c:Nat) (r:RawM) (fA:Option Addr) (fc:Nat) (w wx:World):Prop where
 b:Below w.heap.size w wx
 z:w.heap.size+3≤wx.heap.size
 p0:wx.heap[w.heap.size]?=some (.cells (p.cs A c) 24 (0,0))
 r1:wx.heap[w.heap.size+1]?=some (.cells (r.cs fA fc) 48 (0,0))
 o2:wx.heap[w.heap.size+2]?=some (.cells zeroE 40 (0,0))
theorem BkW.start (p:Prof) (A:Option Addr) (c:Nat) (r:RawM) (fA:Option Addr) (fc:Nat) (w:World):BkW p A c r fA fc w (((w.alloc (.cells (p.cs A c) 24)).alloc (.cells (r.cs fA fc) 48)).alloc (.cells zeroE 40)):=by
 refine ⟨by repeat (first | with_reducible exact Below.refl _ _ | with_reducible assumption | with_reducible refine Below.drew ?_ | with_reducible refine Below.alloc ?_ (by first | omega | (simp;done) | (simp;omega)) _),by simp,?_,?_,?_⟩
 ·rw [Below.heap_alloc _ _ _ (by simp;omega),Below.heap_alloc _ _ _ (by simp)]
  exact (MapKept.heap_alloc w _).1
 ·rw [Below.heap_alloc _ _ _ (by simp)]
  exact (by simpa using (MapKept.heap_alloc (w.alloc (.cells (p.cs A c) 24)) (.cells (r.cs fA fc) 48)).1)
 ·exact (by simpa using (MapKept.heap_alloc ((w.alloc (.cells (p.cs A c) 24)).alloc (.cells (r.cs fA fc) 48)) (.cells zeroE 40)).1)
section
variable {p:Prof} {A:Option Addr} {c:Nat} {r:RawM} {fA:Option Addr} {fc:Nat} {w wx wy:World}
theorem BkW.turn (h:BkW p A c r fA fc w wx) (t:Turn (fun i=>w.heap.size+3≤i) wx wy):BkW p A c r fA fc w wy:=by
 have hz:=h.z
 refine ⟨h.b.trans (t.to_below h.b.size (fun i hi=>by omega)),Nat.le_trans h.z t.size,(t.block _ (by omega) (by omega)).trans h.p0,(t.block _ (by omega) (by omega)).trans h.r1,(t.block _ (by omega) (by omega)).trans h.o2⟩
theorem BkW.below (h:BkW p A c r fA fc w wx) (hb:Below wx.heap.size wx wy):BkW p A c r fA fc w wy:=h.turn (Turn.below hb)
theorem BkW.prof (h:BkW p A c r fA fc w wx):wx.rangeAt w.heap.size 0 (p.cs A c).toList:=range_block h.p0 rfl
theorem BkW.raw (h:BkW p A c r fA fc w wx):wx.rangeAt (w.heap.size+1) 0 (r.cs fA fc).toList:=range_block h.r1 rfl
theorem BkW.there (h:BkW p A c r fA fc w wx):wx.there (w.heap.size+2) 0 12:=by
 intro j hj
 rw [Nat.zero_add]
 refine ⟨?_,box_free h.o2 j⟩
 unfold World.cell?
 simp [h.o2,zeroE]
 omega
end
theorem zeroOne:zeroE.all (·.oneCell')=true:=by
 simp [zeroE,Value.oneCell']
theorem backErr {p:Prof} {xs:List Pair} {net:Int} {r:RawM} {step:Int} {w w':World} {n:Int} (h:backS p xs net r step=(zeroEv,n)) (hb:Below w.heap.size w w'):BackOut p xs net r step w (.returned (.tuple #[.agg zeroE,.int .i64 n])) w':=by
 unfold BackOut
 rw [h]
 exact ⟨hb,none,0,rfl,RdL.nil_,Nat.le_refl _,fun j hj=>by cases hj⟩
end Go.Proofs.YtlnnjdibkbabiaaGreatDoor
