/- Contracts and plain laws, joined: TgI. -/
import Derived.Test.YtlnnjdibkbabiaaGreatDoorQan
import Derived.Test.YtlnnjdibkbabiaaGreatDoorQao
import Derived.Deep.DeepCutAuto
import Derived.Deep.RegionLaw
/- Contracts of layer 22: Add of the program. -/
set_option linter.unusedSimpArgs false
set_option linter.unusedVariables false
namespace Go.Proofs.YtlnnjdibkbabiaaGreatDoor
open _root_.Go.Lib (hid)
open Go.RowKit
theorem excl_comm (p q:Pair):excl p q=excl q p:=by
 obtain ⟨a,b,c,d⟩:=p
 obtain ⟨e,f,g,h⟩:=q
 rw [Bool.eq_iff_iff]
 simp [excl]
 constructor <;> (intro h;omega)
theorem rightGo_snoc (p:Pair):∀ (xs pre:List Pair),rightGo pre (xs++[p])=(rightGo pre xs && (validP p && (pre++xs).all (fun q=>!excl p q)))
 | [],pre=>by simp [rightGo]
 | x::r,pre=>by
  rw [List.cons_append,rightGo,rightGo_snoc p r (pre++[x]),rightGo]
  simp [Bool.and_assoc]
theorem rightB_snoc (xs:List Pair) (p:Pair):rightB (xs++[p])=(rightB xs && (validP p && !xs.any (fun q=>excl q p))):=by
 rw [rightB,rightGo_snoc,List.nil_append]
 congr 2
 induction xs with
 | nil=>rfl
 | cons x r ih=>rw [List.all_cons,List.any_cons,ih,excl_comm p x];cases excl x p <;> simp
set_option maxHeartbeats 1000000 in
theorem padd_any (xs:List Pair) (p:Pair) (A:Option Addr) (c:Nat) (w:World) (hr:RdP w w.heap.size A xs) (hm:xs.length≤100000) (hwf:∀ q∈xs,q.wf) (hpw:p.wf) :
  Calls Tryz.prog 19 #[.slice A xs.length c,p.v] w fun e w'=>∃ A' c',e=.returned (.tuple #[.slice A' (addF xs p).1.length c',.int .i64 (addF xs p).2])∧OwnP w' w.heap.size A' c' (addF xs p).1∧Below w.heap.size w w':=by
 have hb0:Below w.heap.size w (w.alloc (.cells #[.int .i64 p.net,.int .i64 p.loc,.int .i64 p.ev,.int .i64 p.part] 56)):=(Below.refl _ _).alloc (Nat.le_refl _) _
 have hc:=pright_any xs A c _ (hr.now hb0) (by omega) hwf
 have HC:=hid hc
 have HB:=hid hb0
 have HWF:=hid hwf
 have HPW:=hid hpw
 clear hc hb0 hwf hpw
 cases h1:rightB xs
 ·unfold Pair.v
  go_enter Tryz.func19,Tryz.ntmps19
  go_wp2_with (go_at_call 53;refine HC.out.mono ?_;rintro e w1 ⟨rfl,hb1⟩)
  go_ret2
  exact ⟨none,0,by simp [addF,h1],by simp only [addF,h1,Bool.false_and,Bool.false_eq_true,if_false];exact OwnL.nil_,HB.out.trans (hb1.mono (by first | omega | (simp;done) | (simp;omega)))⟩
 ·cases h2:validP p
  ·unfold Pair.v
   go_enter Tryz.func19,Tryz.ntmps19
   go_wp2_with (first | (go_at_call 53;refine HC.out.mono ?_;rintro e w1 ⟨rfl,hb1⟩;obtain ⟨hcell,hfroz⟩:=bcell hb1) | (go_at_call 54;refine (pvalid_any p _).mono ?_;rintro e w2 ⟨rfl,hb2⟩))
   go_ret2
   exact ⟨none,0,by simp [addF,h1,h2],by simp only [addF,h1,h2,Bool.and_false,Bool.false_eq_true,if_false];exact OwnL.nil_,(HB.out.trans (hb1.mono (by first | omega | (simp;done) | (simp;omega)))).trans (hb2.mono (Nat.le_trans (by simp) hb1.size))⟩
  ·have hA:addF xs p=if xs.any (fun q=>excl q p) then ([],5) else (xs++[p],0):=by simp [addF,h1,h2]
   have hR:rightB (xs++[p])=!xs.any (fun q=>excl q p):=by rw [rightB_snoc,h1,h2];simp
   have HA:=hid hA
   have HR:=hid hR
   clear hA hR
   unfold Pair.v
   go_enter Tryz.func19,Tryz.ntmps19
   go_wp2_with (first | (go_at_call 53;refine HC.out.mono ?_;rintro e w1 ⟨rfl,hb1⟩;obtain ⟨hcell,hfroz⟩:=bcell hb1) | (go_at_call 54;refine (pvalid_any p _).mono ?_;rintro e w2 ⟨rfl,hb2⟩))
   have hW:Below (w.heap.size+1) (w.alloc (.cells #[.int .i64 p.net,.int .i64 p.loc,.int .i64 p.ev,.int .i64 p.part] 56)) w2:=(hb1.mono (by first | omega | (simp;done) | (simp;omega))).trans (hb2.mono (Nat.le_trans (by simp) hb1.size))
   clear hb1 hb2 hcell hfroz
   obtain ⟨e0,e1,e2,e3⟩:=box4 w _ _ _ _ _ hW
   have hsl:w.heap.size+1≤w2.heap.size:=Nat.le_trans (by simp) hW.size
   have hsl2:w.heap.size<w2.heap.size:=hsl
   have hrx:=HB.out.trans (hW.mono (Nat.le_succ _))
   have B2:=hid (show (xs.length+[p].length) * 32≤140737488355328 by simp;omega)
   go_cut [6] (fun v wx=>∃ A' c',v=.slice A' (xs++[p]).length c'∧OwnP wx (w.heap.size+1) A' c' (xs++[p])∧Below (w.heap.size+1) w2 wx)
   case first =>
    go_region_law (first
     | (go_simp;go_at_call 55;refine (clone_any xs A c _ (hr.now (Below.trans hrx (by repeat (first | with_reducible exact Below.refl _ _ | with_reducible assumption | with_reducible refine Below.drew ?_ | with_reducible refine Below.alloc ?_ (by first | omega | (simp;done) | (simp;omega)) _)))) (by omega)).mono ?_;rintro e w3 ⟨A3,c3,rfl,hown3,hb3⟩;have hb3':=Below.trans (show Below (w.heap.size+1) w2 _ by repeat (first | with_reducible exact Below.refl _ _ | with_reducible assumption | with_reducible refine Below.drew ?_ | with_reducible refine Below.alloc ?_ (by first | omega | (simp;done) | (simp;omega)) _)) (hb3.mono (by first | omega | (simp;done) | (simp;omega)));obtain ⟨f0,f1,f2,f3⟩:=box4 w _ _ _ _ _ (hW.trans hb3');obtain ⟨hcell,hfroz⟩:=bcell hb3;have hz3:=hb3.size;simp at hz3;have hown4:=hown3.mono (base':=w.heap.size+1) (by first | omega | (simp;done) | (simp;omega)))
     | (refine step_append_l rfl (.tmp 16) (.tmp 18) rfl slP layP (w.heap.size+1) xs [p] rfl rfl ?c1 rfl rfl ?c2 B2.out ?c3 ?_;(case c1=>first | with_reducible exact hown4 | exact hown4.alloc _);(case c2=>first | exact ⟨_,RdP_one (by simp;done) (by simp;done) (by simp;done) (by simp;done)⟩ | exact ⟨_,RdP_one ((hcell _ _ (by first | omega | (simp;done) | (simp;omega))).trans (by simp)) ((hcell _ _ (by first | omega | (simp;done) | (simp;omega))).trans (by simp)) ((hcell _ _ (by first | omega | (simp;done) | (simp;omega))).trans (by simp)) ((hcell _ _ (by first | omega | (simp;done) | (simp;omega))).trans (by simp))⟩);(case c3=>first | omega | (simp;done) | (simp;omega));intro A5 c5 w5 hown5 hg5 hbl5 hat5))
    all_goals go_wp2
    all_goals go_meet
    all_goals exact ⟨A5,c5,by simp,hown5,hb3'.trans (Below.trans (show Below (w.heap.size+1) w3 _ by repeat (first | with_reducible exact Below.refl _ _ | with_reducible assumption | with_reducible refine Below.drew ?_ | with_reducible refine Below.alloc ?_ (by first | omega | (simp;done) | (simp;omega)) _)) hbl5)⟩
   case rest =>
    obtain ⟨A5,c5,rfl,hown5,hb5⟩:=hcut
    have hbw:=hW.trans hb5
    clear e0 e1 e2 e3
    have hc2:=pright_any (xs++[p]) A5 c5 wc (hown5.rd layP) (by simp;omega) (fun q hq=>by
     rcases List.mem_append.1 hq with hq | hq
     ·exact HWF.out q hq
     ·simp only [List.mem_singleton] at hq;subst hq;exact HPW.out)
    have hlen:(xs++[p]).length=xs.length+1:=by simp
    rw [hlen] at hc2
    have HC2:=hid hc2
    clear hc2 hlen
    cases hx:xs.any (fun q=>excl q p)
    ·go_wp2_with fail
     refine HC2.out.mono ?_
     rintro e w6 ⟨rfl,hb6⟩
     rw [HR.out,hx]
     go_wp2
     go_ret2
     have h3:=HA.out
     rw [hx,if_neg (by simp)] at h3
     exact ⟨A5,c5,by rw [h3];simp,by rw [h3];exact (hown5.below hb6).mono (Nat.le_succ _),(HB.out.trans (hbw.mono (Nat.le_succ _))).trans (hb6.mono (Nat.le_trans (Nat.le_of_lt hsl2) hb5.size))⟩
    ·go_wp2_with fail
     refine HC2.out.mono ?_
     rintro e w6 ⟨rfl,hb6⟩
     rw [HR.out,hx]
     go_wp2
     go_ret2
     have h3:=HA.out
     rw [hx,if_pos rfl] at h3
     exact ⟨none,0,by rw [h3];rfl,by rw [h3];exact OwnL.nil_,(HB.out.trans (hbw.mono (Nat.le_succ _))).trans (hb6.mono (Nat.le_trans (Nat.le_of_lt hsl2) hb5.size))⟩
end Go.Proofs.YtlnnjdibkbabiaaGreatDoor
