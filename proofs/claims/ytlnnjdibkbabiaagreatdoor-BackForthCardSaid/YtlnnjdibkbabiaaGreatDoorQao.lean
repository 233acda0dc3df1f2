/- Contracts and plain laws, joined: TgH. -/
import Derived.Test.YtlnnjdibkbabiaaGreatDoorQac
import Derived.Test.YtlnnjdibkbabiaaGreatDoorQah
import Derived.Deep.RegionHeld3
/- Contracts of layer 22: Right of the program,which keeps two sets. -/
set_option linter.unusedSimpArgs false
set_option linter.unusedVariables false
namespace Go.Proofs.YtlnnjdibkbabiaaGreatDoor
open _root_.Go.Lib (hid)
open Go.RowKit
set_option maxRecDepth 100000
def i64ok (n:Int):Prop:=(Lit.int .i64 n).wf=true
def okS (x:Int × Int × Int):Prop:=i64ok x.1∧i64ok x.2.1∧i64ok x.2.2
def kvS (x:Int × Int × Int):Value:=.agg #[.int .i64 x.1,.int .i64 x.2.1,.int .i64 x.2.2]
def okL (x:Int × Int):Prop:=i64ok x.1∧i64ok x.2
def kvL (x:Int × Int):Value:=.agg #[.int .i64 x.1,.int .i64 x.2]
theorem laidOut:laidOutB Tryz.prog=true:=by kernel_rfl
theorem cells3:Tryz.prog.cellsOf 127=3:=by kernel_rfl
theorem cells2:Tryz.prog.cellsOf 135=2:=by kernel_rfl
theorem cells1:Tryz.prog.cellsOf 3=1:=by kernel_rfl
theorem keyS:KeyTy Tryz.prog 127 okS kvS where
 K:=Maps.Keyed.of_law (deep_law_laid laidOut (m:=2) (by omega) (of_decide_eq_true (by kernel_rfl)) (by kernel_rfl) (by kernel_rfl))
 lit:=fun a h=>by
  obtain ⟨h1,h2,h3⟩:=h
  unfold i64ok at h1 h2 h3
  have hk:Tryz.prog.keyType 127=true:=by kernel_rfl
  have hl:∀ d,Tryz.prog.keyLits (d+2) 127 [.int .i64 a.1,.int .i64 a.2.1,.int .i64 a.2.2]=some [.int .i64 a.1,.int .i64 a.2.1,.int .i64 a.2.2]:=by
   intro d
   simp [Program.keyLits,Tryz.underlying127,Tryz.underlying3,cells3,cells1,h1,h2,h3]
  refine ⟨.string (keyBytes [.int .i64 a.1,.int .i64 a.2.1,.int .i64 a.2.2]),?_⟩
  simp [keyOf,kvS,Tryz.underlying127,hk,Value.formed,cells3,Value.cells,hl]
 inj:=fun a b h=>by
  simp only [kvS,Value.agg.injEq,Array.mk.injEq,List.cons.injEq,Value.int.injEq,and_true,true_and] at h
  exact Prod.ext h.1 (Prod.ext h.2.1 h.2.2)
theorem keyL:KeyTy Tryz.prog 135 okL kvL where
 K:=Maps.Keyed.of_law (deep_law_laid laidOut (m:=2) (by omega) (of_decide_eq_true (by kernel_rfl)) (by kernel_rfl) (by kernel_rfl))
 lit:=fun a h=>by
  obtain ⟨h1,h2⟩:=h
  unfold i64ok at h1 h2
  have hk:Tryz.prog.keyType 135=true:=by kernel_rfl
  have hl:∀ d,Tryz.prog.keyLits (d+2) 135 [.int .i64 a.1,.int .i64 a.2]=some [.int .i64 a.1,.int .i64 a.2]:=by
   intro d
   simp [Program.keyLits,Tryz.underlying135,Tryz.underlying3,cells2,cells1,h1,h2]
  refine ⟨.string (keyBytes [.int .i64 a.1,.int .i64 a.2]),?_⟩
  simp [keyOf,kvL,Tryz.underlying135,hk,Value.formed,cells2,Value.cells,hl]
 inj:=fun a b h=>by
  simp only [kvL,Value.agg.injEq,Array.mk.injEq,List.cons.injEq,Value.int.injEq,and_true,true_and] at h
  exact Prod.ext h.1 h.2
def keySh (p:Pair):Int × Int × Int:=(p.net,p.ev,p.part)
def keyLo (p:Pair):Int × Int:=(p.net,p.loc)
def Pair.wf (p:Pair):Prop:=i64ok p.net∧i64ok p.loc∧i64ok p.ev∧i64ok p.part
theorem excl_all (p:Pair) (pre:List Pair):pre.all (fun q=>!excl p q)=(!pre.any (fun q=>keySh q==keySh p) && !pre.any (fun q=>keyLo q==keyLo p)):=by
 induction pre with
 | nil=>rfl
 | cons q r ih =>
  rw [List.all_cons,List.any_cons,List.any_cons,ih]
  obtain ⟨a,b,c,d⟩:=p
  obtain ⟨e,f,g,h⟩:=q
  have h1:excl ⟨a,b,c,d⟩ ⟨e,f,g,h⟩=((keySh ⟨e,f,g,h⟩==keySh ⟨a,b,c,d⟩) || (keyLo ⟨e,f,g,h⟩==keyLo ⟨a,b,c,d⟩)):=by
   rw [Bool.eq_iff_iff]
   simp [excl,keySh,keyLo]
   omega
  rw [h1]
  cases (keySh ⟨e,f,g,h⟩==keySh ⟨a,b,c,d⟩) <;> cases (keyLo ⟨e,f,g,h⟩==keyLo ⟨a,b,c,d⟩) <;> simp
theorem set_step {α:Type} [DecidableEq α] [BEq α] [LawfulBEq α] (K:Pair→α) (xs:List Pair) (k:Nat) (p:Pair) (h:xs[k]?=some p) (m:List (α × Bool)) (hm:∀ a,mget m a=if (xs.take k).any (fun q=>K q==a) then some true else none) (a:α) :
  mget (mput m (K p) true) a=if (xs.take (k+1)).any (fun q=>K q==a) then some true else none:=by
 obtain ⟨hk,rfl⟩:=List.getElem?_eq_some_iff.1 h
 rw [mget_mput,List.take_succ_eq_append_getElem hk,List.any_append,hm a]
 by_cases ha:a=K xs[k]
 ·subst ha
  simp
 ·have hne:(K xs[k]==a)=false:=by simp;exact fun e=>ha e.symm
  rw [if_neg ha]
  simp [hne]
theorem zeroB (w:World):(zeroValue 4).run Tryz.prog w=.ok (.bool false) w:=by kernel_rfl
set_option maxHeartbeats 1000000 in
theorem pright_any (xs:List Pair) (A:Option Addr) (c:Nat) (w:World) (hr:RdP w w.heap.size A xs) (hm:xs.length≤1000000) (hwf:∀ p∈xs,p.wf) :
  Calls Tryz.prog 53 #[.slice A xs.length c] w fun e w'=>e=.returned (.bool (rightB xs))∧Below w.heap.size w w':=by
 have hm2:xs.length≤9223372036854775807:=by omega
 have hmm:=@run_makeMap Tryz.prog
 have m1:MapAt ((w.alloc (.map #[] 0)).alloc (.map #[] 0)) w.heap.size okS kvS Value.bool ([]:List ((Int × Int × Int) × Bool)):=(MapAt.new w).alloc _
 have m2:MapAt ((w.alloc (.map #[] 0)).alloc (.map #[] 0)) (w.heap.size+1) okL kvL Value.bool ([]:List ((Int × Int) × Bool)):=by
  have:=MapAt.new (ok:=okL) (kv:=kvL) (vv:=Value.bool) (β:=Bool) (w.alloc (.map #[] 0))
  simpa using this
 go_enter Tryz.func53,Tryz.ntmps53
 go_wp2
 clear hmm
 go_loopw [6,7,8,13] (fun _ _ _ i wr=>∃ (k:Nat) (ms:List ((Int × Int × Int) × Bool)) (ml:List ((Int × Int) × Bool)),k≤xs.length∧i=.int .i64 k∧rightGo (xs.take k) (xs.drop k)=rightB xs ∧
   MapAt wr w.heap.size okS kvS Value.bool ms∧MapAt wr (w.heap.size+1) okL kvL Value.bool ml∧(∀ a,mget ms a=if (xs.take k).any (fun q=>keySh q==a) then some true else none)∧(∀ a,mget ml a=if (xs.take k).any (fun q=>keyLo q==a) then some true else none)∧Below w.heap.size w wr) (fun _ _ _ i _=>xs.length - (intOf i).toNat)
 case atStart=>exact ⟨0,[],[],Nat.zero_le _,rfl,rfl,m1,m2,fun _=>rfl,fun _=>rfl,((Below.refl _ _).alloc (Nat.le_refl _) _).alloc (by simp) _⟩
 case round =>
  clear m1 m2
  obtain ⟨k,ms,ml,hk,rfl,hf,hms,hml,hgs,hgl,hb⟩:=hrel
  have HF:=hid hf
  have HGS:=hid hgs
  have HGL:=hid hgl
  have hl2:=hml.lt
  clear hf hgs hgl
  by_cases hlt:k<xs.length
  ·obtain ⟨b,off,p,rfl,hbb,hp,c0,c1,c2,c3⟩:=RdP_at (hr.now hb) hlt
   have hstep:=rightGo_step xs k p hp
   rw [excl_all] at hstep
   have HS:=hid hstep
   have HP:=hid hp
   have hpw:=hwf p (List.mem_of_getElem? hp)
   have HW:=hid hpw
   clear hstep hp hpw
   go_wp2
   go_region_held3 (fun w'=>w'.cell? ⟨wr.heap.size,0,none⟩=some (.int .i64 p.net)∧w'.cell? ⟨wr.heap.size,1,none⟩=some (.int .i64 p.loc)∧w'.cell? ⟨wr.heap.size,2,none⟩=some (.int .i64 p.ev)∧w'.cell? ⟨wr.heap.size,3,none⟩=some (.int .i64 p.part)) (go_keep) (first | fail)
   all_goals
    cases hv:validP p
    ·go_wp2_with (go_at_call 54;refine (pvalid_any p _).mono ?_;rintro e w1 ⟨rfl,hb1⟩)
     go_ret
     refine ⟨?_,hb.trans (Below.trans (show Below w.heap.size wr _ by repeat (first | with_reducible exact Below.refl _ _ | with_reducible assumption | with_reducible refine Below.drew ?_ | with_reducible refine Below.alloc ?_ (by first | omega | (simp;done) | (simp;omega)) _)) (hb1.mono (Nat.le_trans hb.size (by simp;omega))))⟩
     have h1:=HS.out
     have h2:=HF.out
     simp_all
    ·go_wp2_with fail
     refine (pvalid_any p _).mono ?_
     rintro e w1 ⟨rfl,hb1⟩
     rw [hv]
     obtain ⟨hcell,hfroz⟩:=bcell hb1
     have hw1:Below wr.heap.size wr w1:=Below.trans (show Below wr.heap.size wr _ by repeat (first | with_reducible exact Below.refl _ _ | with_reducible assumption | with_reducible refine Below.drew ?_ | with_reducible refine Below.alloc ?_ (by first | omega | (simp;done) | (simp;omega)) _)) (hb1.mono (by simp;omega))
     have hms1:=hms.now hw1
     have hml1:=hml.now hw1
     have q1:=hms1.look keyS Tryz.underlying132 (zeroB w1) (keySh p) ⟨HW.out.1,HW.out.2.2.1,HW.out.2.2.2⟩ false
     have q2:=hml1.look keyL Tryz.underlying133 (zeroB w1) (keyLo p) ⟨HW.out.1,HW.out.2.1⟩ false
     rw [HGS.out] at q1
     rw [HGL.out] at q2
     cases hs:(xs.take k).any (fun q=>keySh q==keySh p)
     ·cases hl:(xs.take k).any (fun q=>keyLo q==keyLo p)
      ·rw [hs] at q1
       rw [hl] at q2
       have hn:rightGo (xs.take (k+1)) (xs.drop (k+1))=rightB xs:=by
        have h1:=HS.out
        rw [hv,hs,hl,HF.out] at h1
        simpa using h1.symm
       have HN:=hid hn
       have HLL:=hid hl
       simp only [kvS,keySh,kvL,keyLo,Bool.false_eq_true,if_false] at q1 q2
       clear hv hs hl hn
       have hz:wr.heap.size+2<w1.heap.size:=by have:=hb1.size;simp at this;omega
       go_wp2
       obtain ⟨w2,r2,hms2,hg2⟩:=(show MapAt w1.drew w.heap.size okS kvS Value.bool ms from hms1).store keyS Tryz.underlying132 (keySh p) ⟨HW.out.1,HW.out.2.2.1,HW.out.2.2.2⟩ true
       obtain ⟨w3,r3,hml3,hg3⟩:=((show MapAt w1.drew (w.heap.size+1) okL kvL Value.bool ml from hml1).of_block (hg2.block _ hml1.lt (by simp))).store keyL Tryz.underlying133 (keyLo p) ⟨HW.out.1,HW.out.2.1⟩ true
       simp only [kvS,keySh,kvL,keyLo] at r2 r3
       have hz1:wr.heap.size+1<w1.heap.size:=by omega
       have hz2:wr.heap.size+1+1<w1.heap.size:=by omega
       have hlw:=hms.lt
       have hn1:wr.heap.size+1≠w.heap.size:=by omega
       have hn2:wr.heap.size+1+1≠w.heap.size:=by omega
       have hw2c:∀ b o,b<w1.heap.size→b≠w.heap.size→w2.cell? ⟨b,o,none⟩=w1.cell? ⟨b,o,none⟩:=fun b o h hne=>grown_cell hg2 h hne o
       have hbe:Below w.heap.size w w3:=(((hb.trans (hw1.mono hb.size)).drew.grown hg2 (by have:=hb1.size;show w.heap.size≤w1.heap.size;omega) (fun i hi=>by injection hi with hi;omega)).grown hg3 (by have:=hg2.size;have h0:w1.drew.heap.size=w1.heap.size:=rfl;omega) (fun i hi=>by injection hi with hi;omega))
       have HBE:=hid hbe
       have hms3:=hms2.of_block (hg3.block _ hms2.lt (by simp))
       clear hbe
       go_region
       all_goals go_wp2
       all_goals go_roundw
       case rel=>exact ⟨k+1,_,_,by omega,by go_num,HN.out,hms3,hml3,set_step keySh xs k p HP.out ms HGS.out,set_step keyLo xs k p HP.out ml HGL.out,HBE.out⟩
       case measure=>simp [intOf];omega
      ·rw [hs] at q1
       rw [hl] at q2
       have hn:rightB xs=false:=by
        have h1:=HS.out
        rw [hv,hs,hl,HF.out] at h1
        simpa using h1
       have HN:=hid hn
       simp only [kvS,keySh,kvL,keyLo,Bool.false_eq_true,if_false,if_true] at q1 q2
       clear hv hs hl hn
       go_wp2
       go_ret
       exact ⟨by rw [HN.out];rfl,hb.trans (hw1.mono hb.size)⟩
     ·rw [hs] at q1
      have hn:rightB xs=false:=by
       have h1:=HS.out
       rw [hv,hs,HF.out] at h1
       simpa using h1
      have HN:=hid hn
      simp only [kvS,keySh,if_true] at q1
      clear hv hs hn q2
      go_wp2
      go_ret
      exact ⟨by rw [HN.out];rfl,hb.trans (hw1.mono hb.size)⟩
  ·go_wp2
   go_ret
   refine ⟨?_,hb⟩
   have h2:=HF.out
   rw [List.drop_of_length_le (by omega)] at h2
   rw [← h2]
   rfl
end Go.Proofs.YtlnnjdibkbabiaaGreatDoor
