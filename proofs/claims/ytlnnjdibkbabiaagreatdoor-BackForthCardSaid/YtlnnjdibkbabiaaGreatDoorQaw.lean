/- Contracts and plain laws, joined: EvF. -/
import Derived.Test.YtlnnjdibkbabiaaGreatDoorQar
import Derived.Deep.RegionHeld3
import Derived.Deep.DrawnRows
/- Contract of event.Right (written by genright.py). -/
set_option linter.unusedSimpArgs false
set_option linter.unusedVariables false
namespace Go.Proofs.YtlnnjdibkbabiaaGreatDoor
open _root_.Go.Lib (hid)
open Go.RowKit
def prevC (l:List Int) (k:Nat):Option Int:=if k=0 then none else l[k - 1]?
theorem causes_first (l:List Int) (k:Nat) (hk:k<l.length) (h0:k=0):causesGo (prevC l k) (l.drop k)=(belowB l[k] 100000 && causesGo (prevC l (k+1)) (l.drop (k+1))):=by
 subst h0
 rcases l with _ | ⟨x,r⟩
 ·simp at hk
 ·rfl
theorem causes_step (l:List Int) (k:Nat) (hk:k<l.length) (h0:0<k) (hk1:k - 1<l.length):causesGo (prevC l k) (l.drop k)=(belowB l[k] 100000 && (decide (l[k - 1]<l[k]) && causesGo (prevC l (k+1)) (l.drop (k+1)))):=by
 have h1:prevC l k=some l[k - 1]:=by
  unfold prevC
  rw [if_neg (by omega),List.getElem?_eq_getElem hk1]
 have h2:prevC l (k+1)=some l[k]:=by
  unfold prevC
  rw [if_neg (by omega),Nat.add_sub_cancel,List.getElem?_eq_getElem hk]
 rw [h1,h2,List.drop_eq_getElem_cons hk,causesGo]
theorem causes_end (l:List Int) (k:Nat) (hk:l.length≤k):causesGo (prevC l k) (l.drop k)=true:=by
 rw [List.drop_eq_nil_of_le hk]
 cases prevC l k <;> rfl
theorem range_block {w:World} {b:Nat} {cs:Array Value} {t:TypeId} {l:List Value} (h:w.heap[b]?=some (.cells cs t (0,0))) (hl:cs.toList=l):w.rangeAt b 0 l:=by
 intro j v hj
 subst hl
 rw [Nat.zero_add]
 exact box_cell h j v (by rw [← Array.getElem?_toList];exact hj)
theorem spare_ok {w:World} {cA fA gA:Option Addr} {e:EvM} (h:EvOk w w.heap.size cA fA e) (hg:(spareE e).files=[]∨((spareE e).files=e.files∧gA=fA)):EvOk w w.heap.size cA gA (spareE e):=by
 refine ⟨h.ca,?_,h.cl,?_,?_⟩
 ·rcases hg with h1 | ⟨h1,rfl⟩
  ·rw [h1]
   exact RdL.nil_
  ·rw [h1]
   exact h.fi
 ·rcases hg with h1 | ⟨h1,_⟩
  ·rw [h1]
   simp
  ·rw [h1]
   exact h.fl
 ·show (if hasX e.kind=true then e.text else ByteArray.empty).size≤_
  split
  ·exact h.tx
  ·simp
set_option maxRecDepth 100000 in
set_option maxHeartbeats 8000000 in
theorem evRight_any (e:EvM) (cA:Option Addr) (cc:Nat) (fA:Option Addr) (fc:Nat) (w:World) (he:EvOk w w.heap.size cA fA e) (hcap:e.files.length≤fc) :
  Calls Tryz.prog 51 #[e.v cA cc fA fc] w fun en w'=>en=.returned (.bool (rightE e))∧Below w.heap.size w w':=by
 have hb0:Below w.heap.size w (w.alloc (.cells (e.cs cA cc fA fc) 40)):=(Below.refl _ _).alloc (Nat.le_refl _) _
 have h0:=he.now hb0
 have HB:=hid hb0
 have H0:=hid h0
 have HE:=hid he
 have hg0:=(MapKept.heap_alloc w (.cells (e.cs cA cc fA fc) 40)).1
 obtain ⟨W1,hW1⟩:∃ W,W=w.alloc (.cells (e.cs cA cc fA fc) 40):=⟨_,rfl⟩
 have hz1:W1.heap.size=w.heap.size+1:=by rw [hW1];simp
 rw [← hW1] at HB H0 hg0
 have HG0:=hid hg0
 have c2:=box_cell hg0 2 _ rfl
 have hcl:=he.cl
 clear hb0 h0 he hg0
 have HR0:Hid (rightE e=(causesB e.causes && (headE e && (decide (e.causes.length≤8) && (fieldsB e && (decide (e.text.size≤4000) && (filesB e.files && sameE e (spareE e)))))))):=hid rfl
 go_enter Tryz.func51,Tryz.ntmps51
 go_wp2_with fail
 rw [← hW1]
 have HW1:=hid hW1
 clear hW1
 go_loopw [3,4,9] (fun _ _ i wr=>∃ k:Nat,k≤e.causes.length∧i=.int .i64 k∧causesGo (prevC e.causes k) (e.causes.drop k)=causesB e.causes∧W1=wr) (fun _ _ i _=>e.causes.length - (intOf i).toNat)
 case atStart=>exact ⟨0,Nat.zero_le _,rfl,rfl,rfl⟩
 case round =>
  obtain ⟨k,hk,rfl,hf,rfl⟩:=hrel
  have HF:=hid hf
  clear hf
  by_cases hlt:k<e.causes.length
  ·obtain ⟨b,off,hA,hbb,d0⟩:=RdI_at H0.out.ca hlt
   by_cases hk0:k=0
   ·have HSt:=hid (causes_first e.causes k hlt hk0)
    have hkz:decide (0<k)=false:=by simp [hk0]
    have hkz2:(k:Int)≤0:=by omega
    subst hA
    clear hk0
    generalize e.causes[k]=x at *
    cases h1:belowB x 100000
    ·have HN:Hid (rightE e=false):=hid (by rw [HR0.out,← HF.out,HSt.out,h1];rfl)
     go_wp2_with (go_at_call 81;refine (evBelow_any _ _ _).mono ?_;rw [h1];rintro en w' ⟨rfl,rfl⟩)
     go_ret
     exact ⟨by rw [HN.out];rfl,HB.out⟩
    ·have HN:=hid HSt.out
     rw [HF.out,h1] at HN
     go_wp2_with (go_at_call 81;refine (evBelow_any _ _ _).mono ?_;rw [h1];rintro en w' ⟨rfl,rfl⟩)
     go_roundw
     case rel=>exact ⟨k+1,by omega,by go_num,by rw [HN.out];rfl,by first | rfl | trivial⟩
     case measure=>simp [intOf];omega
   ·have hk1:k - 1<e.causes.length:=by omega
    obtain ⟨b2,off2,hA2,hbb2,d1⟩:=RdI_at H0.out.ca hk1
    rw [hA] at hA2
    injection hA2 with hA2
    injection hA2 with e1 e2
    subst e1 e2
    have HSt:=hid (causes_step e.causes k hlt (by omega) hk1)
    have hkp:0<k:=by omega
    have hkp2:(1:Int)≤(k:Int):=by omega
    subst hA
    generalize e.causes[k]=x at *
    generalize e.causes[k - 1]=y at *
    cases h1:belowB x 100000
    ·have HN:Hid (rightE e=false):=hid (by rw [HR0.out,← HF.out,HSt.out,h1];rfl)
     go_wp2_with (go_at_call 81;refine (evBelow_any _ _ _).mono ?_;rw [h1];rintro en w' ⟨rfl,rfl⟩)
     go_ret
     exact ⟨by rw [HN.out];rfl,HB.out⟩
    ·by_cases h2:y<x
     ·have HN:=hid HSt.out
      rw [HF.out,h1,decide_eq_true h2] at HN
      go_wp2_with (go_at_call 81;refine (evBelow_any _ _ _).mono ?_;rw [h1];rintro en w' ⟨rfl,rfl⟩)
      go_roundw
      case rel=>exact ⟨k+1,by omega,by go_num,by rw [HN.out];rfl,by first | rfl | trivial⟩
      case measure=>simp [intOf];omega
     ·have HN:Hid (rightE e=false):=hid (by rw [HR0.out,← HF.out,HSt.out,h1,decide_eq_false h2];rfl)
      go_wp2_with (go_at_call 81;refine (evBelow_any _ _ _).mono ?_;rw [h1];rintro en w' ⟨rfl,rfl⟩)
      go_ret
      exact ⟨by rw [HN.out];rfl,HB.out⟩
  ·have HR1:Hid (rightE e=(headE e && (decide (e.causes.length≤8) && (fieldsB e && (decide (e.text.size≤4000) && (filesB e.files && sameE e (spareE e))))))):=hid (by rw [HR0.out,← HF.out,causes_end _ _ (by omega)];rfl)
   have c0:=box_cell HG0.out 0 _ rfl
   have c1:=box_cell HG0.out 1 _ rfl
   have c4:=box_cell HG0.out 4 _ rfl
   have c11:=box_cell HG0.out 11 _ rfl
   clear HF
   go_upto_region 7 with fail
   go_cut [5] (fun v wx=>v=.bool (headE e)∧W1=wx)
   case first =>
    have HHd:Hid (headE e=(belowB e.author 2000 && (belowB e.seq 100000 && (belowB e.group 500 && belowB e.step 1073741825)))):=hid rfl
    cases h1:belowB e.author 2000
    ·go_wp2_with (go_at_call 81;refine (evBelow_any _ _ _).mono ?_;rintro en w' ⟨rfl,rfl⟩;try simp only [h1])
     go_meet
     exact ⟨by rw [HHd.out,h1];rfl,by first | rfl | trivial⟩
    ·cases h2:belowB e.seq 100000
     ·go_wp2_with (go_at_call 81;refine (evBelow_any _ _ _).mono ?_;rintro en w' ⟨rfl,rfl⟩;try simp only [h1,h2])
      go_meet
      exact ⟨by rw [HHd.out,h1,h2];rfl,by first | rfl | trivial⟩
     ·cases h3:belowB e.group 500
      ·go_wp2_with (go_at_call 81;refine (evBelow_any _ _ _).mono ?_;rintro en w' ⟨rfl,rfl⟩;try simp only [h1,h2,h3])
       go_meet
       exact ⟨by rw [HHd.out,h1,h2,h3];rfl,by first | rfl | trivial⟩
      ·go_wp2_with (go_at_call 81;refine (evBelow_any _ _ _).mono ?_;rintro en w' ⟨rfl,rfl⟩;try simp only [h1,h2,h3])
       go_meet
       exact ⟨by rw [HHd.out,h1,h2,h3];rfl,by first | rfl | trivial⟩
   case rest =>
    obtain ⟨rfl,rfl⟩:=hcut
    clear c0 c1 c4 c11
    obtain ⟨cs,hcs⟩:∃ cs,cs=(e.cs cA cc fA fc).toList:=⟨_,rfl⟩
    have hv:e.v cA cc fA fc=.agg cs.toArray:=by rw [hcs]
    have hi:(Tryz.prog.info? 40).map (·.size)=some cs.length:=by rw [hcs];kernel_rfl
    have hu:=Tryz.underlying40
    have hra:W1.rangeAt w.heap.size 0 cs:=range_block HG0.out hcs.symm
    have HRS:=hid (show ∀ w',Below W1.heap.size W1 w'→w'.rangeAt w.heap.size 0 cs from fun w' h j v hj=>(h.cell (p:=⟨_,_,none⟩) (by show w.heap.size < _;omega)).trans (hra j v hj))
    have HC2:=hid (show ∀ w',Below W1.heap.size W1 w'→w'.cell? ⟨w.heap.size,2,none⟩=some (.slice cA e.causes.length cc) from fun w' h=>(h.cell (p:=⟨_,_,none⟩) (by show w.heap.size < _;omega)).trans (box_cell HG0.out 2 _ rfl))
    have HC9:=hid (show ∀ w',Below W1.heap.size W1 w'→w'.cell? ⟨w.heap.size,9,none⟩=some (.string e.text) from fun w' h=>(h.cell (p:=⟨_,_,none⟩) (by show w.heap.size < _;omega)).trans (box_cell HG0.out 9 _ rfl))
    have HC10:=hid (show ∀ w',Below W1.heap.size W1 w'→w'.cell? ⟨w.heap.size,10,none⟩=some (.slice fA e.files.length fc) from fun w' h=>(h.cell (p:=⟨_,_,none⟩) (by show w.heap.size < _;omega)).trans (box_cell HG0.out 10 _ rfl))
    have kFields:=fun w=>hid (hv ▸ evFields_any e cA cc fA fc w)
    have kFiles:=hid (fun w' (h:Below W1.heap.size W1 w')=>evFiles_any e.files fA e.files.length fc w' rfl (H0.out.now h).fi H0.out.fl hcap)
    have kSpare:=fun w=>hid (hv ▸ evSpare_any e cA cc fA fc w)
    have kSame:=hid (fun gA gc w' (h:Below W1.heap.size W1 w') (hg:(spareE e).files=[]∨((spareE e).files=e.files∧gA=fA))=>hv ▸ evSame_any e (spareE e) cA cc fA fc cA cc gA gc w' (H0.out.now h) (spare_ok (H0.out.now h) hg))
    clear hv hcs hra c2
    cases hh:headE e
    ·go_wp2_with fail
     go_quiet (fail)
     go_wp2
     go_ret
     exact ⟨ret_bool (by rw [HR1.out,hh];rfl),below_drewN HB.out _⟩
    ·by_cases h8:e.causes.length≤8
     ·have d8:decide (e.causes.length≤8)=true:=decide_eq_true h8
      have d82:decide ((e.causes.length:Int)≤8)=true:=decide_eq_true (by omega)
      cases hfd:fieldsB e
      ·skip
       go_wp2_with fail
       refine wp_region_held_drew (S:=fun w'=>Below W1.heap.size W1 w') (by kernel_rfl) ((Below.refl _ _).drew) (fun hHeld=>?_)
       refine wpAnyH_take (i:=0) (v:=?_) rfl (by kernel_rfl) (by kernel_rfl) (by kernel_rfl) (fun _ _ _ h=>h) (Or.inl ⟨by rfl,?_⟩) (by assumption) ?_
       rotate_left
       ·intro wq hSw
        go_simp
        try with_reducible rfl
       simp only [Act.put,List.setIfInBounds_toArray,List.set_cons_zero,List.set_cons_succ,List.getElem_toArray,List.getElem_cons_zero]
       refine wpAnyH_take (i:=1) (v:=?_) rfl (by kernel_rfl) (by kernel_rfl) (by kernel_rfl) (fun _ _ _ h=>h) (Or.inl ⟨by rfl,?_⟩) (by assumption) ?_
       rotate_left
       ·intro wq hSw
        have hq2:=HC2.out _ hSw
        have hq9:=HC9.out _ hSw
        have hq10:=HC10.out _ hSw
        go_simp
        try with_reducible rfl
       simp only [Act.put,sA,sB,sC,sD,sE,sF]
       refine wpAnyH_take (i:=2) (v:=?_) rfl (by kernel_rfl) (by kernel_rfl) (by kernel_rfl) (fun _ _ _ h=>h) (Or.inl ⟨by rfl,?_⟩) (by assumption) ?_
       rotate_left
       ·intro wq hSw
        have hq2:=HC2.out _ hSw
        have hq9:=HC9.out _ hSw
        have hq10:=HC10.out _ hSw
        go_simp
        try with_reducible rfl
       simp only [Act.put,sA,sB,sC,sD,sE,sF]
       refine wpAnyH_take (i:=3) (v:=?_) rfl (by kernel_rfl) (by kernel_rfl) (by kernel_rfl) (fun _ _ _ h=>h) (Or.inl ⟨by rfl,?_⟩) (by assumption) ?_
       rotate_left
       ·intro wq hSw
        have hq2:=HC2.out _ hSw
        have hq9:=HC9.out _ hSw
        have hq10:=HC10.out _ hSw
        go_simp
        try with_reducible rfl
       simp only [Act.put,sA,sB,sC,sD,sE,sF]
       refine wpAnyH_take (i:=4) (v:=?_) rfl (by kernel_rfl) (by kernel_rfl) (by kernel_rfl) (fun _ _ _ h=>h) (Or.inl ⟨by rfl,?_⟩) (by assumption) ?_
       rotate_left
       ·intro wq hSw
        have hq2:=HC2.out _ hSw
        have hq9:=HC9.out _ hSw
        have hq10:=HC10.out _ hSw
        go_simp
        try with_reducible rfl
       simp only [Act.put,sA,sB,sC,sD,sE,sF]
       refine wpAnyH_take (i:=5) (v:=?_) rfl (by kernel_rfl) (by kernel_rfl) (by kernel_rfl) (fun _ _ _ h=>h) (Or.inl ⟨by rfl,?_⟩) (by assumption) ?_
       rotate_left
       ·intro wq hSw
        have hq2:=HC2.out _ hSw
        have hq9:=HC9.out _ hSw
        have hq10:=HC10.out _ hSw
        go_simp
        try with_reducible rfl
       simp only [Act.put,sA,sB,sC,sD,sE,sF]
       refine wpAnyH_take (i:=6) (v:=?_) rfl (by kernel_rfl) (by kernel_rfl) (by kernel_rfl) (fun _ _ _ h=>h) (Or.inl ⟨by rfl,?_⟩) (by assumption) ?_
       rotate_left
       ·intro wq hSw
        have hq2:=HC2.out _ hSw
        have hq9:=HC9.out _ hSw
        have hq10:=HC10.out _ hSw
        go_simp
        try with_reducible rfl
       simp only [Act.put,sA,sB,sC,sD,sE,sF]
       refine wpAnyH_take (i:=7) (v:=?_) rfl (by kernel_rfl) (by kernel_rfl) (by kernel_rfl) (fun _ _ _ h=>h) (Or.inl ⟨by rfl,?_⟩) (by assumption) ?_
       rotate_left
       ·intro wq hSw
        have hq2:=HC2.out _ hSw
        have hq9:=HC9.out _ hSw
        have hq10:=HC10.out _ hSw
        go_simp
        try with_reducible rfl
       simp only [Act.put,sA,sB,sC,sD,sE,sF]
       refine' wpAnyH_take (i:=8) rfl (by kernel_rfl) (by kernel_rfl) (by kernel_rfl) (fun _ _ _ h=>h) (yieldsIf_load_mid (by rfl) _ _ rfl _ _ rfl _ _ HRS.out hu rfl hi) (by assumption) ?_
       simp only [Act.put,sA,sB,sC,sD,sE,sF]
       refine wpAnyH_ready (rs:=[9]) (by kernel_rfl) (by simp) ?_
       refine AllReadyH.cons rfl (fun K hK=>?_) AllReadyH.nil
       go_simp
       refine ((kFields _).out).mono ?_
       rintro en w' ⟨rfl,hb'⟩
       try simp only [hfd,hsm]
       go_wp2_with fail
       refine hK.out _ _ (hHeld.trans (hb'.mono hHeld.size)) ?_
       clear hK K hHeld hb'
       intro hHeld
       refine wpAnyH_take (i:=10) (v:=?_) rfl (by kernel_rfl) (by kernel_rfl) (by kernel_rfl) (fun _ _ _ h=>h) (Or.inl ⟨by rfl,?_⟩) (by assumption) ?_
       rotate_left
       ·intro wq hSw
        have hq2:=HC2.out _ hSw
        have hq9:=HC9.out _ hSw
        have hq10:=HC10.out _ hSw
        go_simp
        try with_reducible rfl
       simp only [Act.put,sA,sB,sC,sD,sE,sF]
       refine wpAnyH_take (i:=11) (v:=?_) rfl (by kernel_rfl) (by kernel_rfl) (by kernel_rfl) (fun _ _ _ h=>h) (Or.inl ⟨by rfl,?_⟩) (by assumption) ?_
       rotate_left
       ·intro wq hSw
        have hq2:=HC2.out _ hSw
        have hq9:=HC9.out _ hSw
        have hq10:=HC10.out _ hSw
        go_simp
        try with_reducible rfl
       simp only [Act.put,sA,sB,sC,sD,sE,sF]
       refine wpAnyH_take (i:=12) (v:=undef) rfl (by kernel_rfl) (by kernel_rfl) (by kernel_rfl) (fun _ _ _ h=>h) (Or.inr ⟨by rfl,rfl⟩) (by assumption) ?_
       simp only [Act.put,sA,sB,sC,sD,sE,sF]
       refine wpAnyH_take (i:=13) (v:=undef) rfl (by kernel_rfl) (by kernel_rfl) (by kernel_rfl) (fun _ _ _ h=>h) (Or.inr ⟨by rfl,rfl⟩) (by assumption) ?_
       simp only [Act.put,sA,sB,sC,sD,sE,sF]
       refine wpAnyH_take (i:=14) (v:=undef) rfl (by kernel_rfl) (by kernel_rfl) (by kernel_rfl) (fun _ _ _ h=>h) (Or.inr ⟨by rfl,rfl⟩) (by assumption) ?_
       simp only [Act.put,sA,sB,sC,sD,sE,sF]
       refine wpAnyH_take (i:=15) (v:=undef) rfl (by kernel_rfl) (by kernel_rfl) (by kernel_rfl) (fun _ _ _ h=>h) (Or.inr ⟨by rfl,rfl⟩) (by assumption) ?_
       simp only [Act.put,sA,sB,sC,sD,sE,sF]
       refine wpAnyH_take (i:=16) (v:=?_) rfl (by kernel_rfl) (by kernel_rfl) (by kernel_rfl) (fun _ _ _ h=>h) (Or.inl ⟨by rfl,?_⟩) (by assumption) ?_
       rotate_left
       ·intro wq hSw
        have hq2:=HC2.out _ hSw
        have hq9:=HC9.out _ hSw
        have hq10:=HC10.out _ hSw
        go_simp
        try with_reducible rfl
       simp only [Act.put,sA,sB,sC,sD,sE,sF]
       refine wpAnyH_take (i:=17) (v:=?_) rfl (by kernel_rfl) (by kernel_rfl) (by kernel_rfl) (fun _ _ _ h=>h) (Or.inl ⟨by rfl,?_⟩) (by assumption) ?_
       rotate_left
       ·intro wq hSw
        have hq2:=HC2.out _ hSw
        have hq9:=HC9.out _ hSw
        have hq10:=HC10.out _ hSw
        go_simp
        try with_reducible rfl
       simp only [Act.put,sA,sB,sC,sD,sE,sF]
       refine wpAnyH_take (i:=18) (v:=undef) rfl (by kernel_rfl) (by kernel_rfl) (by kernel_rfl) (fun _ _ _ h=>h) (Or.inr ⟨by rfl,rfl⟩) (by assumption) ?_
       simp only [Act.put,sA,sB,sC,sD,sE,sF]
       refine wpAnyH_take (i:=19) (v:=undef) rfl (by kernel_rfl) (by kernel_rfl) (by kernel_rfl) (fun _ _ _ h=>h) (Or.inr ⟨by rfl,rfl⟩) (by assumption) ?_
       simp only [Act.put,sA,sB,sC,sD,sE,sF]
       refine wpAnyH_ready (rs:=[20]) (by kernel_rfl) (by simp) ?_
       refine AllReadyH.cons rfl (fun K hK=>?_) AllReadyH.nil
       rw [if_neg (by rw [show Region.wanted _ _=false from rfl];exact Bool.false_ne_true)]
       refine hK.out _ _ hHeld ?_
       clear hK K hHeld
       intro hHeld
       simp only [Act.put,sA,sB,sC,sD,sE,sF]
       refine wpAnyH_take (i:=21) (v:=?_) rfl (by kernel_rfl) (by kernel_rfl) (by kernel_rfl) (fun _ _ _ h=>h) (Or.inl ⟨by rfl,?_⟩) (by assumption) ?_
       rotate_left
       ·intro wq hSw
        have hq2:=HC2.out _ hSw
        have hq9:=HC9.out _ hSw
        have hq10:=HC10.out _ hSw
        go_simp
        try with_reducible rfl
       simp only [Act.put,sA,sB,sC,sD,sE,sF]
       refine wpAnyH_take (i:=22) (v:=?_) rfl (by kernel_rfl) (by kernel_rfl) (by kernel_rfl) (fun _ _ _ h=>h) (Or.inl ⟨by rfl,?_⟩) (by assumption) ?_
       rotate_left
       ·intro wq hSw
        have hq2:=HC2.out _ hSw
        have hq9:=HC9.out _ hSw
        have hq10:=HC10.out _ hSw
        go_simp
        try with_reducible rfl
       simp only [Act.put,sA,sB,sC,sD,sE,sF]
       refine wpAnyH_take (i:=23) (v:=undef) rfl (by kernel_rfl) (by kernel_rfl) (by kernel_rfl) (fun _ _ _ h=>h) (Or.inr ⟨by rfl,rfl⟩) (by assumption) ?_
       simp only [Act.put,sA,sB,sC,sD,sE,sF]
       refine wpAnyH_take (i:=24) (v:=undef) rfl (by kernel_rfl) (by kernel_rfl) (by kernel_rfl) (fun _ _ _ h=>h) (Or.inr ⟨by rfl,rfl⟩) (by assumption) ?_
       simp only [Act.put,sA,sB,sC,sD,sE,sF]
       refine wpAnyH_ready (rs:=[25]) (by kernel_rfl) (by simp) ?_
       refine AllReadyH.cons rfl (fun K hK=>?_) AllReadyH.nil
       rw [if_neg (by rw [show Region.wanted _ _=false from rfl];exact Bool.false_ne_true)]
       refine hK.out _ _ hHeld ?_
       clear hK K hHeld
       intro hHeld
       simp only [Act.put,sA,sB,sC,sD,sE,sF]
       refine wpAnyH_ready (rs:=[26]) (by kernel_rfl) (by simp) ?_
       refine AllReadyH.cons rfl (fun K hK=>?_) AllReadyH.nil
       rw [if_neg (by rw [show Region.wanted _ _=false from rfl];exact Bool.false_ne_true)]
       refine hK.out _ _ hHeld ?_
       clear hK K hHeld
       intro hHeld
       simp only [Act.put,sA,sB,sC,sD,sE,sF]
       refine wpAnyH_take (i:=27) (v:=?_) rfl (by kernel_rfl) (by kernel_rfl) (by kernel_rfl) (fun _ _ _ h=>h) (Or.inl ⟨by rfl,?_⟩) (by assumption) ?_
       rotate_left
       ·intro wq hSw
        have hq2:=HC2.out _ hSw
        have hq9:=HC9.out _ hSw
        have hq10:=HC10.out _ hSw
        go_simp
        try with_reducible rfl
       simp only [Act.put,sA,sB,sC,sD,sE,sF]
       refine wpAnyH_take (i:=28) (v:=?_) rfl (by kernel_rfl) (by kernel_rfl) (by kernel_rfl) (fun _ _ _ h=>h) (Or.inl ⟨by rfl,?_⟩) (by assumption) ?_
       rotate_left
       ·intro wq hSw
        have hq2:=HC2.out _ hSw
        have hq9:=HC9.out _ hSw
        have hq10:=HC10.out _ hSw
        go_simp
        try with_reducible rfl
       simp only [Act.put,sA,sB,sC,sD,sE,sF]
       refine wpAnyH_done (by kernel_rfl) ?_ _
       go_wp2
       go_ret
       exact ⟨ret_bool (by rw [HR1.out,hh,d8,hfd];rfl),HB.out.trans (hHeld.mono (by omega))⟩
      ·by_cases ht:e.text.size≤4000
       ·have dt:decide (e.text.size≤4000)=true:=decide_eq_true ht
        have dt2:decide ((e.text.size:Int)≤4000)=true:=decide_eq_true (by omega)
        cases hfi:filesB e.files
        ·skip
         go_wp2_with fail
         refine wp_region_held_drew (S:=fun w'=>Below W1.heap.size W1 w') (by kernel_rfl) ((Below.refl _ _).drew) (fun hHeld=>?_)
         refine wpAnyH_take (i:=0) (v:=?_) rfl (by kernel_rfl) (by kernel_rfl) (by kernel_rfl) (fun _ _ _ h=>h) (Or.inl ⟨by rfl,?_⟩) (by assumption) ?_
         rotate_left
         ·intro wq hSw
          go_simp
          try with_reducible rfl
         simp only [Act.put,List.setIfInBounds_toArray,List.set_cons_zero,List.set_cons_succ,List.getElem_toArray,List.getElem_cons_zero]
         refine wpAnyH_take (i:=1) (v:=?_) rfl (by kernel_rfl) (by kernel_rfl) (by kernel_rfl) (fun _ _ _ h=>h) (Or.inl ⟨by rfl,?_⟩) (by assumption) ?_
         rotate_left
         ·intro wq hSw
          have hq2:=HC2.out _ hSw
          have hq9:=HC9.out _ hSw
          have hq10:=HC10.out _ hSw
          go_simp
          try with_reducible rfl
         simp only [Act.put,sA,sB,sC,sD,sE,sF]
         refine wpAnyH_take (i:=2) (v:=?_) rfl (by kernel_rfl) (by kernel_rfl) (by kernel_rfl) (fun _ _ _ h=>h) (Or.inl ⟨by rfl,?_⟩) (by assumption) ?_
         rotate_left
         ·intro wq hSw
          have hq2:=HC2.out _ hSw
          have hq9:=HC9.out _ hSw
          have hq10:=HC10.out _ hSw
          go_simp
          try with_reducible rfl
         simp only [Act.put,sA,sB,sC,sD,sE,sF]
         refine wpAnyH_take (i:=3) (v:=?_) rfl (by kernel_rfl) (by kernel_rfl) (by kernel_rfl) (fun _ _ _ h=>h) (Or.inl ⟨by rfl,?_⟩) (by assumption) ?_
         rotate_left
         ·intro wq hSw
          have hq2:=HC2.out _ hSw
          have hq9:=HC9.out _ hSw
          have hq10:=HC10.out _ hSw
          go_simp
          try with_reducible rfl
         simp only [Act.put,sA,sB,sC,sD,sE,sF]
         refine wpAnyH_take (i:=4) (v:=?_) rfl (by kernel_rfl) (by kernel_rfl) (by kernel_rfl) (fun _ _ _ h=>h) (Or.inl ⟨by rfl,?_⟩) (by assumption) ?_
         rotate_left
         ·intro wq hSw
          have hq2:=HC2.out _ hSw
          have hq9:=HC9.out _ hSw
          have hq10:=HC10.out _ hSw
          go_simp
          try with_reducible rfl
         simp only [Act.put,sA,sB,sC,sD,sE,sF]
         refine wpAnyH_take (i:=5) (v:=?_) rfl (by kernel_rfl) (by kernel_rfl) (by kernel_rfl) (fun _ _ _ h=>h) (Or.inl ⟨by rfl,?_⟩) (by assumption) ?_
         rotate_left
         ·intro wq hSw
          have hq2:=HC2.out _ hSw
          have hq9:=HC9.out _ hSw
          have hq10:=HC10.out _ hSw
          go_simp
          try with_reducible rfl
         simp only [Act.put,sA,sB,sC,sD,sE,sF]
         refine wpAnyH_take (i:=6) (v:=?_) rfl (by kernel_rfl) (by kernel_rfl) (by kernel_rfl) (fun _ _ _ h=>h) (Or.inl ⟨by rfl,?_⟩) (by assumption) ?_
         rotate_left
         ·intro wq hSw
          have hq2:=HC2.out _ hSw
          have hq9:=HC9.out _ hSw
          have hq10:=HC10.out _ hSw
          go_simp
          try with_reducible rfl
         simp only [Act.put,sA,sB,sC,sD,sE,sF]
         refine wpAnyH_take (i:=7) (v:=?_) rfl (by kernel_rfl) (by kernel_rfl) (by kernel_rfl) (fun _ _ _ h=>h) (Or.inl ⟨by rfl,?_⟩) (by assumption) ?_
         rotate_left
         ·intro wq hSw
          have hq2:=HC2.out _ hSw
          have hq9:=HC9.out _ hSw
          have hq10:=HC10.out _ hSw
          go_simp
          try with_reducible rfl
         simp only [Act.put,sA,sB,sC,sD,sE,sF]
         refine' wpAnyH_take (i:=8) rfl (by kernel_rfl) (by kernel_rfl) (by kernel_rfl) (fun _ _ _ h=>h) (yieldsIf_load_mid (by rfl) _ _ rfl _ _ rfl _ _ HRS.out hu rfl hi) (by assumption) ?_
         simp only [Act.put,sA,sB,sC,sD,sE,sF]
         refine wpAnyH_ready (rs:=[9]) (by kernel_rfl) (by simp) ?_
         refine AllReadyH.cons rfl (fun K hK=>?_) AllReadyH.nil
         go_simp
         refine ((kFields _).out).mono ?_
         rintro en w' ⟨rfl,hb'⟩
         try simp only [hfd,hsm]
         go_wp2_with fail
         refine hK.out _ _ (hHeld.trans (hb'.mono hHeld.size)) ?_
         clear hK K hHeld hb'
         intro hHeld
         refine wpAnyH_take (i:=10) (v:=?_) rfl (by kernel_rfl) (by kernel_rfl) (by kernel_rfl) (fun _ _ _ h=>h) (Or.inl ⟨by rfl,?_⟩) (by assumption) ?_
         rotate_left
         ·intro wq hSw
          have hq2:=HC2.out _ hSw
          have hq9:=HC9.out _ hSw
          have hq10:=HC10.out _ hSw
          go_simp
          try with_reducible rfl
         simp only [Act.put,sA,sB,sC,sD,sE,sF]
         refine wpAnyH_take (i:=11) (v:=?_) rfl (by kernel_rfl) (by kernel_rfl) (by kernel_rfl) (fun _ _ _ h=>h) (Or.inl ⟨by rfl,?_⟩) (by assumption) ?_
         rotate_left
         ·intro wq hSw
          have hq2:=HC2.out _ hSw
          have hq9:=HC9.out _ hSw
          have hq10:=HC10.out _ hSw
          go_simp
          try with_reducible rfl
         simp only [Act.put,sA,sB,sC,sD,sE,sF]
         refine wpAnyH_take (i:=12) (v:=?_) rfl (by kernel_rfl) (by kernel_rfl) (by kernel_rfl) (fun _ _ _ h=>h) (Or.inl ⟨by rfl,?_⟩) (by assumption) ?_
         rotate_left
         ·intro wq hSw
          have hq2:=HC2.out _ hSw
          have hq9:=HC9.out _ hSw
          have hq10:=HC10.out _ hSw
          go_simp
          try with_reducible rfl
         simp only [Act.put,sA,sB,sC,sD,sE,sF]
         refine wpAnyH_take (i:=13) (v:=?_) rfl (by kernel_rfl) (by kernel_rfl) (by kernel_rfl) (fun _ _ _ h=>h) (Or.inl ⟨by rfl,?_⟩) (by assumption) ?_
         rotate_left
         ·intro wq hSw
          have hq2:=HC2.out _ hSw
          have hq9:=HC9.out _ hSw
          have hq10:=HC10.out _ hSw
          go_simp
          try with_reducible rfl
         simp only [Act.put,sA,sB,sC,sD,sE,sF]
         refine wpAnyH_take (i:=14) (v:=?_) rfl (by kernel_rfl) (by kernel_rfl) (by kernel_rfl) (fun _ _ _ h=>h) (Or.inl ⟨by rfl,?_⟩) (by assumption) ?_
         rotate_left
         ·intro wq hSw
          have hq2:=HC2.out _ hSw
          have hq9:=HC9.out _ hSw
          have hq10:=HC10.out _ hSw
          go_simp
          try with_reducible rfl
         simp only [Act.put,sA,sB,sC,sD,sE,sF]
         refine wpAnyH_take (i:=15) (v:=?_) rfl (by kernel_rfl) (by kernel_rfl) (by kernel_rfl) (fun _ _ _ h=>h) (Or.inl ⟨by rfl,?_⟩) (by assumption) ?_
         rotate_left
         ·intro wq hSw
          have hq2:=HC2.out _ hSw
          have hq9:=HC9.out _ hSw
          have hq10:=HC10.out _ hSw
          go_simp
          try with_reducible rfl
         simp only [Act.put,sA,sB,sC,sD,sE,sF]
         refine wpAnyH_take (i:=16) (v:=?_) rfl (by kernel_rfl) (by kernel_rfl) (by kernel_rfl) (fun _ _ _ h=>h) (Or.inl ⟨by rfl,?_⟩) (by assumption) ?_
         rotate_left
         ·intro wq hSw
          have hq2:=HC2.out _ hSw
          have hq9:=HC9.out _ hSw
          have hq10:=HC10.out _ hSw
          go_simp
          try with_reducible rfl
         simp only [Act.put,sA,sB,sC,sD,sE,sF]
         refine wpAnyH_take (i:=17) (v:=?_) rfl (by kernel_rfl) (by kernel_rfl) (by kernel_rfl) (fun _ _ _ h=>h) (Or.inl ⟨by rfl,?_⟩) (by assumption) ?_
         rotate_left
         ·intro wq hSw
          have hq2:=HC2.out _ hSw
          have hq9:=HC9.out _ hSw
          have hq10:=HC10.out _ hSw
          go_simp
          try with_reducible rfl
         simp only [Act.put,sA,sB,sC,sD,sE,sF]
         refine wpAnyH_take (i:=18) (v:=?_) rfl (by kernel_rfl) (by kernel_rfl) (by kernel_rfl) (fun _ _ _ h=>h) (Or.inl ⟨by rfl,?_⟩) (by assumption) ?_
         rotate_left
         ·intro wq hSw
          have hq2:=HC2.out _ hSw
          have hq9:=HC9.out _ hSw
          have hq10:=HC10.out _ hSw
          go_simp
          try with_reducible rfl
         simp only [Act.put,sA,sB,sC,sD,sE,sF]
         refine wpAnyH_take (i:=19) (v:=?_) rfl (by kernel_rfl) (by kernel_rfl) (by kernel_rfl) (fun _ _ _ h=>h) (Or.inl ⟨by rfl,?_⟩) (by assumption) ?_
         rotate_left
         ·intro wq hSw
          have hq2:=HC2.out _ hSw
          have hq9:=HC9.out _ hSw
          have hq10:=HC10.out _ hSw
          go_simp
          try with_reducible rfl
         simp only [Act.put,sA,sB,sC,sD,sE,sF]
         refine wpAnyH_ready (rs:=[20]) (by kernel_rfl) (by simp) ?_
         refine AllReadyH.cons rfl (fun K hK=>?_) AllReadyH.nil
         go_simp
         refine ((kFiles.out _ hHeld)).mono ?_
         rintro en w' ⟨rfl,hw'⟩
         obtain rfl:=hw'
         try simp only [hfi]
         go_wp2_with fail
         refine hK.out _ _ hHeld ?_
         clear hK K hHeld
         intro hHeld
         refine wpAnyH_take (i:=21) (v:=?_) rfl (by kernel_rfl) (by kernel_rfl) (by kernel_rfl) (fun _ _ _ h=>h) (Or.inl ⟨by rfl,?_⟩) (by assumption) ?_
         rotate_left
         ·intro wq hSw
          have hq2:=HC2.out _ hSw
          have hq9:=HC9.out _ hSw
          have hq10:=HC10.out _ hSw
          go_simp
          try with_reducible rfl
         simp only [Act.put,sA,sB,sC,sD,sE,sF]
         refine wpAnyH_take (i:=22) (v:=?_) rfl (by kernel_rfl) (by kernel_rfl) (by kernel_rfl) (fun _ _ _ h=>h) (Or.inl ⟨by rfl,?_⟩) (by assumption) ?_
         rotate_left
         ·intro wq hSw
          have hq2:=HC2.out _ hSw
          have hq9:=HC9.out _ hSw
          have hq10:=HC10.out _ hSw
          go_simp
          try with_reducible rfl
         simp only [Act.put,sA,sB,sC,sD,sE,sF]
         refine wpAnyH_take (i:=23) (v:=undef) rfl (by kernel_rfl) (by kernel_rfl) (by kernel_rfl) (fun _ _ _ h=>h) (Or.inr ⟨by rfl,rfl⟩) (by assumption) ?_
         simp only [Act.put,sA,sB,sC,sD,sE,sF]
         refine wpAnyH_take (i:=24) (v:=undef) rfl (by kernel_rfl) (by kernel_rfl) (by kernel_rfl) (fun _ _ _ h=>h) (Or.inr ⟨by rfl,rfl⟩) (by assumption) ?_
         simp only [Act.put,sA,sB,sC,sD,sE,sF]
         refine wpAnyH_ready (rs:=[25]) (by kernel_rfl) (by simp) ?_
         refine AllReadyH.cons rfl (fun K hK=>?_) AllReadyH.nil
         rw [if_neg (by rw [show Region.wanted _ _=false from rfl];exact Bool.false_ne_true)]
         refine hK.out _ _ hHeld ?_
         clear hK K hHeld
         intro hHeld
         simp only [Act.put,sA,sB,sC,sD,sE,sF]
         refine wpAnyH_ready (rs:=[26]) (by kernel_rfl) (by simp) ?_
         refine AllReadyH.cons rfl (fun K hK=>?_) AllReadyH.nil
         rw [if_neg (by rw [show Region.wanted _ _=false from rfl];exact Bool.false_ne_true)]
         refine hK.out _ _ hHeld ?_
         clear hK K hHeld
         intro hHeld
         simp only [Act.put,sA,sB,sC,sD,sE,sF]
         refine wpAnyH_take (i:=27) (v:=?_) rfl (by kernel_rfl) (by kernel_rfl) (by kernel_rfl) (fun _ _ _ h=>h) (Or.inl ⟨by rfl,?_⟩) (by assumption) ?_
         rotate_left
         ·intro wq hSw
          have hq2:=HC2.out _ hSw
          have hq9:=HC9.out _ hSw
          have hq10:=HC10.out _ hSw
          go_simp
          try with_reducible rfl
         simp only [Act.put,sA,sB,sC,sD,sE,sF]
         refine wpAnyH_take (i:=28) (v:=?_) rfl (by kernel_rfl) (by kernel_rfl) (by kernel_rfl) (fun _ _ _ h=>h) (Or.inl ⟨by rfl,?_⟩) (by assumption) ?_
         rotate_left
         ·intro wq hSw
          have hq2:=HC2.out _ hSw
          have hq9:=HC9.out _ hSw
          have hq10:=HC10.out _ hSw
          go_simp
          try with_reducible rfl
         simp only [Act.put,sA,sB,sC,sD,sE,sF]
         refine wpAnyH_done (by kernel_rfl) ?_ _
         go_wp2
         go_ret
         exact ⟨ret_bool (by rw [HR1.out,hh,d8,hfd,dt,hfi];rfl),HB.out.trans (hHeld.mono (by omega))⟩
        ·cases hsm:sameE e (spareE e)
         ·skip
          go_wp2_with fail
          refine wp_region_held_drew (S:=fun w'=>Below W1.heap.size W1 w') (by kernel_rfl) ((Below.refl _ _).drew) (fun hHeld=>?_)
          refine wpAnyH_take (i:=0) (v:=?_) rfl (by kernel_rfl) (by kernel_rfl) (by kernel_rfl) (fun _ _ _ h=>h) (Or.inl ⟨by rfl,?_⟩) (by assumption) ?_
          rotate_left
          ·intro wq hSw
           go_simp
           try with_reducible rfl
          simp only [Act.put,List.setIfInBounds_toArray,List.set_cons_zero,List.set_cons_succ,List.getElem_toArray,List.getElem_cons_zero]
          refine wpAnyH_take (i:=1) (v:=?_) rfl (by kernel_rfl) (by kernel_rfl) (by kernel_rfl) (fun _ _ _ h=>h) (Or.inl ⟨by rfl,?_⟩) (by assumption) ?_
          rotate_left
          ·intro wq hSw
           have hq2:=HC2.out _ hSw
           have hq9:=HC9.out _ hSw
           have hq10:=HC10.out _ hSw
           go_simp
           try with_reducible rfl
          simp only [Act.put,sA,sB,sC,sD,sE,sF]
          refine wpAnyH_take (i:=2) (v:=?_) rfl (by kernel_rfl) (by kernel_rfl) (by kernel_rfl) (fun _ _ _ h=>h) (Or.inl ⟨by rfl,?_⟩) (by assumption) ?_
          rotate_left
          ·intro wq hSw
           have hq2:=HC2.out _ hSw
           have hq9:=HC9.out _ hSw
           have hq10:=HC10.out _ hSw
           go_simp
           try with_reducible rfl
          simp only [Act.put,sA,sB,sC,sD,sE,sF]
          refine wpAnyH_take (i:=3) (v:=?_) rfl (by kernel_rfl) (by kernel_rfl) (by kernel_rfl) (fun _ _ _ h=>h) (Or.inl ⟨by rfl,?_⟩) (by assumption) ?_
          rotate_left
          ·intro wq hSw
           have hq2:=HC2.out _ hSw
           have hq9:=HC9.out _ hSw
           have hq10:=HC10.out _ hSw
           go_simp
           try with_reducible rfl
          simp only [Act.put,sA,sB,sC,sD,sE,sF]
          refine wpAnyH_take (i:=4) (v:=?_) rfl (by kernel_rfl) (by kernel_rfl) (by kernel_rfl) (fun _ _ _ h=>h) (Or.inl ⟨by rfl,?_⟩) (by assumption) ?_
          rotate_left
          ·intro wq hSw
           have hq2:=HC2.out _ hSw
           have hq9:=HC9.out _ hSw
           have hq10:=HC10.out _ hSw
           go_simp
           try with_reducible rfl
          simp only [Act.put,sA,sB,sC,sD,sE,sF]
          refine wpAnyH_take (i:=5) (v:=?_) rfl (by kernel_rfl) (by kernel_rfl) (by kernel_rfl) (fun _ _ _ h=>h) (Or.inl ⟨by rfl,?_⟩) (by assumption) ?_
          rotate_left
          ·intro wq hSw
           have hq2:=HC2.out _ hSw
           have hq9:=HC9.out _ hSw
           have hq10:=HC10.out _ hSw
           go_simp
           try with_reducible rfl
          simp only [Act.put,sA,sB,sC,sD,sE,sF]
          refine wpAnyH_take (i:=6) (v:=?_) rfl (by kernel_rfl) (by kernel_rfl) (by kernel_rfl) (fun _ _ _ h=>h) (Or.inl ⟨by rfl,?_⟩) (by assumption) ?_
          rotate_left
          ·intro wq hSw
           have hq2:=HC2.out _ hSw
           have hq9:=HC9.out _ hSw
           have hq10:=HC10.out _ hSw
           go_simp
           try with_reducible rfl
          simp only [Act.put,sA,sB,sC,sD,sE,sF]
          refine wpAnyH_take (i:=7) (v:=?_) rfl (by kernel_rfl) (by kernel_rfl) (by kernel_rfl) (fun _ _ _ h=>h) (Or.inl ⟨by rfl,?_⟩) (by assumption) ?_
          rotate_left
          ·intro wq hSw
           have hq2:=HC2.out _ hSw
           have hq9:=HC9.out _ hSw
           have hq10:=HC10.out _ hSw
           go_simp
           try with_reducible rfl
          simp only [Act.put,sA,sB,sC,sD,sE,sF]
          refine' wpAnyH_take (i:=8) rfl (by kernel_rfl) (by kernel_rfl) (by kernel_rfl) (fun _ _ _ h=>h) (yieldsIf_load_mid (by rfl) _ _ rfl _ _ rfl _ _ HRS.out hu rfl hi) (by assumption) ?_
          simp only [Act.put,sA,sB,sC,sD,sE,sF]
          refine wpAnyH_ready (rs:=[9]) (by kernel_rfl) (by simp) ?_
          refine AllReadyH.cons rfl (fun K hK=>?_) AllReadyH.nil
          go_simp
          refine ((kFields _).out).mono ?_
          rintro en w' ⟨rfl,hb'⟩
          try simp only [hfd,hsm]
          go_wp2_with fail
          refine hK.out _ _ (hHeld.trans (hb'.mono hHeld.size)) ?_
          clear hK K hHeld hb'
          intro hHeld
          refine wpAnyH_take (i:=10) (v:=?_) rfl (by kernel_rfl) (by kernel_rfl) (by kernel_rfl) (fun _ _ _ h=>h) (Or.inl ⟨by rfl,?_⟩) (by assumption) ?_
          rotate_left
          ·intro wq hSw
           have hq2:=HC2.out _ hSw
           have hq9:=HC9.out _ hSw
           have hq10:=HC10.out _ hSw
           go_simp
           try with_reducible rfl
          simp only [Act.put,sA,sB,sC,sD,sE,sF]
          refine wpAnyH_take (i:=11) (v:=?_) rfl (by kernel_rfl) (by kernel_rfl) (by kernel_rfl) (fun _ _ _ h=>h) (Or.inl ⟨by rfl,?_⟩) (by assumption) ?_
          rotate_left
          ·intro wq hSw
           have hq2:=HC2.out _ hSw
           have hq9:=HC9.out _ hSw
           have hq10:=HC10.out _ hSw
           go_simp
           try with_reducible rfl
          simp only [Act.put,sA,sB,sC,sD,sE,sF]
          refine wpAnyH_take (i:=12) (v:=?_) rfl (by kernel_rfl) (by kernel_rfl) (by kernel_rfl) (fun _ _ _ h=>h) (Or.inl ⟨by rfl,?_⟩) (by assumption) ?_
          rotate_left
          ·intro wq hSw
           have hq2:=HC2.out _ hSw
           have hq9:=HC9.out _ hSw
           have hq10:=HC10.out _ hSw
           go_simp
           try with_reducible rfl
          simp only [Act.put,sA,sB,sC,sD,sE,sF]
          refine wpAnyH_take (i:=13) (v:=?_) rfl (by kernel_rfl) (by kernel_rfl) (by kernel_rfl) (fun _ _ _ h=>h) (Or.inl ⟨by rfl,?_⟩) (by assumption) ?_
          rotate_left
          ·intro wq hSw
           have hq2:=HC2.out _ hSw
           have hq9:=HC9.out _ hSw
           have hq10:=HC10.out _ hSw
           go_simp
           try with_reducible rfl
          simp only [Act.put,sA,sB,sC,sD,sE,sF]
          refine wpAnyH_take (i:=14) (v:=?_) rfl (by kernel_rfl) (by kernel_rfl) (by kernel_rfl) (fun _ _ _ h=>h) (Or.inl ⟨by rfl,?_⟩) (by assumption) ?_
          rotate_left
          ·intro wq hSw
           have hq2:=HC2.out _ hSw
           have hq9:=HC9.out _ hSw
           have hq10:=HC10.out _ hSw
           go_simp
           try with_reducible rfl
          simp only [Act.put,sA,sB,sC,sD,sE,sF]
          refine wpAnyH_take (i:=15) (v:=?_) rfl (by kernel_rfl) (by kernel_rfl) (by kernel_rfl) (fun _ _ _ h=>h) (Or.inl ⟨by rfl,?_⟩) (by assumption) ?_
          rotate_left
          ·intro wq hSw
           have hq2:=HC2.out _ hSw
           have hq9:=HC9.out _ hSw
           have hq10:=HC10.out _ hSw
           go_simp
           try with_reducible rfl
          simp only [Act.put,sA,sB,sC,sD,sE,sF]
          refine wpAnyH_take (i:=16) (v:=?_) rfl (by kernel_rfl) (by kernel_rfl) (by kernel_rfl) (fun _ _ _ h=>h) (Or.inl ⟨by rfl,?_⟩) (by assumption) ?_
          rotate_left
          ·intro wq hSw
           have hq2:=HC2.out _ hSw
           have hq9:=HC9.out _ hSw
           have hq10:=HC10.out _ hSw
           go_simp
           try with_reducible rfl
          simp only [Act.put,sA,sB,sC,sD,sE,sF]
          refine wpAnyH_take (i:=17) (v:=?_) rfl (by kernel_rfl) (by kernel_rfl) (by kernel_rfl) (fun _ _ _ h=>h) (Or.inl ⟨by rfl,?_⟩) (by assumption) ?_
          rotate_left
          ·intro wq hSw
           have hq2:=HC2.out _ hSw
           have hq9:=HC9.out _ hSw
           have hq10:=HC10.out _ hSw
           go_simp
           try with_reducible rfl
          simp only [Act.put,sA,sB,sC,sD,sE,sF]
          refine wpAnyH_take (i:=18) (v:=?_) rfl (by kernel_rfl) (by kernel_rfl) (by kernel_rfl) (fun _ _ _ h=>h) (Or.inl ⟨by rfl,?_⟩) (by assumption) ?_
          rotate_left
          ·intro wq hSw
           have hq2:=HC2.out _ hSw
           have hq9:=HC9.out _ hSw
           have hq10:=HC10.out _ hSw
           go_simp
           try with_reducible rfl
          simp only [Act.put,sA,sB,sC,sD,sE,sF]
          refine wpAnyH_take (i:=19) (v:=?_) rfl (by kernel_rfl) (by kernel_rfl) (by kernel_rfl) (fun _ _ _ h=>h) (Or.inl ⟨by rfl,?_⟩) (by assumption) ?_
          rotate_left
          ·intro wq hSw
           have hq2:=HC2.out _ hSw
           have hq9:=HC9.out _ hSw
           have hq10:=HC10.out _ hSw
           go_simp
           try with_reducible rfl
          simp only [Act.put,sA,sB,sC,sD,sE,sF]
          refine wpAnyH_ready (rs:=[20]) (by kernel_rfl) (by simp) ?_
          refine AllReadyH.cons rfl (fun K hK=>?_) AllReadyH.nil
          go_simp
          refine ((kFiles.out _ hHeld)).mono ?_
          rintro en w' ⟨rfl,hw'⟩
          obtain rfl:=hw'
          try simp only [hfi]
          go_wp2_with fail
          refine hK.out _ _ hHeld ?_
          clear hK K hHeld
          intro hHeld
          refine wpAnyH_take (i:=21) (v:=?_) rfl (by kernel_rfl) (by kernel_rfl) (by kernel_rfl) (fun _ _ _ h=>h) (Or.inl ⟨by rfl,?_⟩) (by assumption) ?_
          rotate_left
          ·intro wq hSw
           have hq2:=HC2.out _ hSw
           have hq9:=HC9.out _ hSw
           have hq10:=HC10.out _ hSw
           go_simp
           try with_reducible rfl
          simp only [Act.put,sA,sB,sC,sD,sE,sF]
          refine wpAnyH_take (i:=22) (v:=?_) rfl (by kernel_rfl) (by kernel_rfl) (by kernel_rfl) (fun _ _ _ h=>h) (Or.inl ⟨by rfl,?_⟩) (by assumption) ?_
          rotate_left
          ·intro wq hSw
           have hq2:=HC2.out _ hSw
           have hq9:=HC9.out _ hSw
           have hq10:=HC10.out _ hSw
           go_simp
           try with_reducible rfl
          simp only [Act.put,sA,sB,sC,sD,sE,sF]
          refine' wpAnyH_take (i:=23) rfl (by kernel_rfl) (by kernel_rfl) (by kernel_rfl) (fun _ _ _ h=>h) (yieldsIf_load_mid (by rfl) _ _ rfl _ _ rfl _ _ HRS.out hu rfl hi) (by assumption) ?_
          simp only [Act.put,sA,sB,sC,sD,sE,sF]
          refine' wpAnyH_take (i:=24) rfl (by kernel_rfl) (by kernel_rfl) (by kernel_rfl) (fun _ _ _ h=>h) (yieldsIf_load_mid (by rfl) _ _ rfl _ _ rfl _ _ HRS.out hu rfl hi) (by assumption) ?_
          simp only [Act.put,sA,sB,sC,sD,sE,sF]
          refine wpAnyH_ready (rs:=[25]) (by kernel_rfl) (by simp) ?_
          refine AllReadyH.cons rfl (fun K hK=>?_) AllReadyH.nil
          go_simp
          refine (kSpare _).out.mono ?_
          rintro en w' ⟨hb',gA,gc,rfl,hg2⟩
          go_wp2_with fail
          refine hK.out _ _ (hHeld.trans (hb'.mono hHeld.size)) ?_
          clear hK K hHeld hb'
          intro hHeld
          refine wpAnyH_ready (rs:=[26]) (by kernel_rfl) (by simp) ?_
          refine AllReadyH.cons rfl (fun K hK=>?_) AllReadyH.nil
          go_simp
          refine ((kSame.out _ _ _ hHeld hg2)).mono ?_
          rintro en w' ⟨rfl,hb'⟩
          try simp only [hfd,hsm]
          go_wp2_with fail
          refine hK.out _ _ (hHeld.trans (hb'.mono hHeld.size)) ?_
          clear hK K hHeld hb'
          intro hHeld
          refine wpAnyH_take (i:=27) (v:=?_) rfl (by kernel_rfl) (by kernel_rfl) (by kernel_rfl) (fun _ _ _ h=>h) (Or.inl ⟨by rfl,?_⟩) (by assumption) ?_
          rotate_left
          ·intro wq hSw
           have hq2:=HC2.out _ hSw
           have hq9:=HC9.out _ hSw
           have hq10:=HC10.out _ hSw
           go_simp
           try with_reducible rfl
          simp only [Act.put,sA,sB,sC,sD,sE,sF]
          refine wpAnyH_take (i:=28) (v:=?_) rfl (by kernel_rfl) (by kernel_rfl) (by kernel_rfl) (fun _ _ _ h=>h) (Or.inl ⟨by rfl,?_⟩) (by assumption) ?_
          rotate_left
          ·intro wq hSw
           have hq2:=HC2.out _ hSw
           have hq9:=HC9.out _ hSw
           have hq10:=HC10.out _ hSw
           go_simp
           try with_reducible rfl
          simp only [Act.put,sA,sB,sC,sD,sE,sF]
          refine wpAnyH_done (by kernel_rfl) ?_ _
          go_wp2
          go_ret
          exact ⟨ret_bool (by rw [HR1.out,hh,d8,hfd,dt,hfi,hsm];rfl),HB.out.trans (hHeld.mono (by omega))⟩
         ·skip
          go_wp2_with fail
          refine wp_region_held_drew (S:=fun w'=>Below W1.heap.size W1 w') (by kernel_rfl) ((Below.refl _ _).drew) (fun hHeld=>?_)
          refine wpAnyH_take (i:=0) (v:=?_) rfl (by kernel_rfl) (by kernel_rfl) (by kernel_rfl) (fun _ _ _ h=>h) (Or.inl ⟨by rfl,?_⟩) (by assumption) ?_
          rotate_left
          ·intro wq hSw
           go_simp
           try with_reducible rfl
          simp only [Act.put,List.setIfInBounds_toArray,List.set_cons_zero,List.set_cons_succ,List.getElem_toArray,List.getElem_cons_zero]
          refine wpAnyH_take (i:=1) (v:=?_) rfl (by kernel_rfl) (by kernel_rfl) (by kernel_rfl) (fun _ _ _ h=>h) (Or.inl ⟨by rfl,?_⟩) (by assumption) ?_
          rotate_left
          ·intro wq hSw
           have hq2:=HC2.out _ hSw
           have hq9:=HC9.out _ hSw
           have hq10:=HC10.out _ hSw
           go_simp
           try with_reducible rfl
          simp only [Act.put,sA,sB,sC,sD,sE,sF]
          refine wpAnyH_take (i:=2) (v:=?_) rfl (by kernel_rfl) (by kernel_rfl) (by kernel_rfl) (fun _ _ _ h=>h) (Or.inl ⟨by rfl,?_⟩) (by assumption) ?_
          rotate_left
          ·intro wq hSw
           have hq2:=HC2.out _ hSw
           have hq9:=HC9.out _ hSw
           have hq10:=HC10.out _ hSw
           go_simp
           try with_reducible rfl
          simp only [Act.put,sA,sB,sC,sD,sE,sF]
          refine wpAnyH_take (i:=3) (v:=?_) rfl (by kernel_rfl) (by kernel_rfl) (by kernel_rfl) (fun _ _ _ h=>h) (Or.inl ⟨by rfl,?_⟩) (by assumption) ?_
          rotate_left
          ·intro wq hSw
           have hq2:=HC2.out _ hSw
           have hq9:=HC9.out _ hSw
           have hq10:=HC10.out _ hSw
           go_simp
           try with_reducible rfl
          simp only [Act.put,sA,sB,sC,sD,sE,sF]
          refine wpAnyH_take (i:=4) (v:=?_) rfl (by kernel_rfl) (by kernel_rfl) (by kernel_rfl) (fun _ _ _ h=>h) (Or.inl ⟨by rfl,?_⟩) (by assumption) ?_
          rotate_left
          ·intro wq hSw
           have hq2:=HC2.out _ hSw
           have hq9:=HC9.out _ hSw
           have hq10:=HC10.out _ hSw
           go_simp
           try with_reducible rfl
          simp only [Act.put,sA,sB,sC,sD,sE,sF]
          refine wpAnyH_take (i:=5) (v:=?_) rfl (by kernel_rfl) (by kernel_rfl) (by kernel_rfl) (fun _ _ _ h=>h) (Or.inl ⟨by rfl,?_⟩) (by assumption) ?_
          rotate_left
          ·intro wq hSw
           have hq2:=HC2.out _ hSw
           have hq9:=HC9.out _ hSw
           have hq10:=HC10.out _ hSw
           go_simp
           try with_reducible rfl
          simp only [Act.put,sA,sB,sC,sD,sE,sF]
          refine wpAnyH_take (i:=6) (v:=?_) rfl (by kernel_rfl) (by kernel_rfl) (by kernel_rfl) (fun _ _ _ h=>h) (Or.inl ⟨by rfl,?_⟩) (by assumption) ?_
          rotate_left
          ·intro wq hSw
           have hq2:=HC2.out _ hSw
           have hq9:=HC9.out _ hSw
           have hq10:=HC10.out _ hSw
           go_simp
           try with_reducible rfl
          simp only [Act.put,sA,sB,sC,sD,sE,sF]
          refine wpAnyH_take (i:=7) (v:=?_) rfl (by kernel_rfl) (by kernel_rfl) (by kernel_rfl) (fun _ _ _ h=>h) (Or.inl ⟨by rfl,?_⟩) (by assumption) ?_
          rotate_left
          ·intro wq hSw
           have hq2:=HC2.out _ hSw
           have hq9:=HC9.out _ hSw
           have hq10:=HC10.out _ hSw
           go_simp
           try with_reducible rfl
          simp only [Act.put,sA,sB,sC,sD,sE,sF]
          refine' wpAnyH_take (i:=8) rfl (by kernel_rfl) (by kernel_rfl) (by kernel_rfl) (fun _ _ _ h=>h) (yieldsIf_load_mid (by rfl) _ _ rfl _ _ rfl _ _ HRS.out hu rfl hi) (by assumption) ?_
          simp only [Act.put,sA,sB,sC,sD,sE,sF]
          refine wpAnyH_ready (rs:=[9]) (by kernel_rfl) (by simp) ?_
          refine AllReadyH.cons rfl (fun K hK=>?_) AllReadyH.nil
          go_simp
          refine ((kFields _).out).mono ?_
          rintro en w' ⟨rfl,hb'⟩
          try simp only [hfd,hsm]
          go_wp2_with fail
          refine hK.out _ _ (hHeld.trans (hb'.mono hHeld.size)) ?_
          clear hK K hHeld hb'
          intro hHeld
          refine wpAnyH_take (i:=10) (v:=?_) rfl (by kernel_rfl) (by kernel_rfl) (by kernel_rfl) (fun _ _ _ h=>h) (Or.inl ⟨by rfl,?_⟩) (by assumption) ?_
          rotate_left
          ·intro wq hSw
           have hq2:=HC2.out _ hSw
           have hq9:=HC9.out _ hSw
           have hq10:=HC10.out _ hSw
           go_simp
           try with_reducible rfl
          simp only [Act.put,sA,sB,sC,sD,sE,sF]
          refine wpAnyH_take (i:=11) (v:=?_) rfl (by kernel_rfl) (by kernel_rfl) (by kernel_rfl) (fun _ _ _ h=>h) (Or.inl ⟨by rfl,?_⟩) (by assumption) ?_
          rotate_left
          ·intro wq hSw
           have hq2:=HC2.out _ hSw
           have hq9:=HC9.out _ hSw
           have hq10:=HC10.out _ hSw
           go_simp
           try with_reducible rfl
          simp only [Act.put,sA,sB,sC,sD,sE,sF]
          refine wpAnyH_take (i:=12) (v:=?_) rfl (by kernel_rfl) (by kernel_rfl) (by kernel_rfl) (fun _ _ _ h=>h) (Or.inl ⟨by rfl,?_⟩) (by assumption) ?_
          rotate_left
          ·intro wq hSw
           have hq2:=HC2.out _ hSw
           have hq9:=HC9.out _ hSw
           have hq10:=HC10.out _ hSw
           go_simp
           try with_reducible rfl
          simp only [Act.put,sA,sB,sC,sD,sE,sF]
          refine wpAnyH_take (i:=13) (v:=?_) rfl (by kernel_rfl) (by kernel_rfl) (by kernel_rfl) (fun _ _ _ h=>h) (Or.inl ⟨by rfl,?_⟩) (by assumption) ?_
          rotate_left
          ·intro wq hSw
           have hq2:=HC2.out _ hSw
           have hq9:=HC9.out _ hSw
           have hq10:=HC10.out _ hSw
           go_simp
           try with_reducible rfl
          simp only [Act.put,sA,sB,sC,sD,sE,sF]
          refine wpAnyH_take (i:=14) (v:=?_) rfl (by kernel_rfl) (by kernel_rfl) (by kernel_rfl) (fun _ _ _ h=>h) (Or.inl ⟨by rfl,?_⟩) (by assumption) ?_
          rotate_left
          ·intro wq hSw
           have hq2:=HC2.out _ hSw
           have hq9:=HC9.out _ hSw
           have hq10:=HC10.out _ hSw
           go_simp
           try with_reducible rfl
          simp only [Act.put,sA,sB,sC,sD,sE,sF]
          refine wpAnyH_take (i:=15) (v:=?_) rfl (by kernel_rfl) (by kernel_rfl) (by kernel_rfl) (fun _ _ _ h=>h) (Or.inl ⟨by rfl,?_⟩) (by assumption) ?_
          rotate_left
          ·intro wq hSw
           have hq2:=HC2.out _ hSw
           have hq9:=HC9.out _ hSw
           have hq10:=HC10.out _ hSw
           go_simp
           try with_reducible rfl
          simp only [Act.put,sA,sB,sC,sD,sE,sF]
          refine wpAnyH_take (i:=16) (v:=?_) rfl (by kernel_rfl) (by kernel_rfl) (by kernel_rfl) (fun _ _ _ h=>h) (Or.inl ⟨by rfl,?_⟩) (by assumption) ?_
          rotate_left
          ·intro wq hSw
           have hq2:=HC2.out _ hSw
           have hq9:=HC9.out _ hSw
           have hq10:=HC10.out _ hSw
           go_simp
           try with_reducible rfl
          simp only [Act.put,sA,sB,sC,sD,sE,sF]
          refine wpAnyH_take (i:=17) (v:=?_) rfl (by kernel_rfl) (by kernel_rfl) (by kernel_rfl) (fun _ _ _ h=>h) (Or.inl ⟨by rfl,?_⟩) (by assumption) ?_
          rotate_left
          ·intro wq hSw
           have hq2:=HC2.out _ hSw
           have hq9:=HC9.out _ hSw
           have hq10:=HC10.out _ hSw
           go_simp
           try with_reducible rfl
          simp only [Act.put,sA,sB,sC,sD,sE,sF]
          refine wpAnyH_take (i:=18) (v:=?_) rfl (by kernel_rfl) (by kernel_rfl) (by kernel_rfl) (fun _ _ _ h=>h) (Or.inl ⟨by rfl,?_⟩) (by assumption) ?_
          rotate_left
          ·intro wq hSw
           have hq2:=HC2.out _ hSw
           have hq9:=HC9.out _ hSw
           have hq10:=HC10.out _ hSw
           go_simp
           try with_reducible rfl
          simp only [Act.put,sA,sB,sC,sD,sE,sF]
          refine wpAnyH_take (i:=19) (v:=?_) rfl (by kernel_rfl) (by kernel_rfl) (by kernel_rfl) (fun _ _ _ h=>h) (Or.inl ⟨by rfl,?_⟩) (by assumption) ?_
          rotate_left
          ·intro wq hSw
           have hq2:=HC2.out _ hSw
           have hq9:=HC9.out _ hSw
           have hq10:=HC10.out _ hSw
           go_simp
           try with_reducible rfl
          simp only [Act.put,sA,sB,sC,sD,sE,sF]
          refine wpAnyH_ready (rs:=[20]) (by kernel_rfl) (by simp) ?_
          refine AllReadyH.cons rfl (fun K hK=>?_) AllReadyH.nil
          go_simp
          refine ((kFiles.out _ hHeld)).mono ?_
          rintro en w' ⟨rfl,hw'⟩
          obtain rfl:=hw'
          try simp only [hfi]
          go_wp2_with fail
          refine hK.out _ _ hHeld ?_
          clear hK K hHeld
          intro hHeld
          refine wpAnyH_take (i:=21) (v:=?_) rfl (by kernel_rfl) (by kernel_rfl) (by kernel_rfl) (fun _ _ _ h=>h) (Or.inl ⟨by rfl,?_⟩) (by assumption) ?_
          rotate_left
          ·intro wq hSw
           have hq2:=HC2.out _ hSw
           have hq9:=HC9.out _ hSw
           have hq10:=HC10.out _ hSw
           go_simp
           try with_reducible rfl
          simp only [Act.put,sA,sB,sC,sD,sE,sF]
          refine wpAnyH_take (i:=22) (v:=?_) rfl (by kernel_rfl) (by kernel_rfl) (by kernel_rfl) (fun _ _ _ h=>h) (Or.inl ⟨by rfl,?_⟩) (by assumption) ?_
          rotate_left
          ·intro wq hSw
           have hq2:=HC2.out _ hSw
           have hq9:=HC9.out _ hSw
           have hq10:=HC10.out _ hSw
           go_simp
           try with_reducible rfl
          simp only [Act.put,sA,sB,sC,sD,sE,sF]
          refine' wpAnyH_take (i:=23) rfl (by kernel_rfl) (by kernel_rfl) (by kernel_rfl) (fun _ _ _ h=>h) (yieldsIf_load_mid (by rfl) _ _ rfl _ _ rfl _ _ HRS.out hu rfl hi) (by assumption) ?_
          simp only [Act.put,sA,sB,sC,sD,sE,sF]
          refine' wpAnyH_take (i:=24) rfl (by kernel_rfl) (by kernel_rfl) (by kernel_rfl) (fun _ _ _ h=>h) (yieldsIf_load_mid (by rfl) _ _ rfl _ _ rfl _ _ HRS.out hu rfl hi) (by assumption) ?_
          simp only [Act.put,sA,sB,sC,sD,sE,sF]
          refine wpAnyH_ready (rs:=[25]) (by kernel_rfl) (by simp) ?_
          refine AllReadyH.cons rfl (fun K hK=>?_) AllReadyH.nil
          go_simp
          refine (kSpare _).out.mono ?_
          rintro en w' ⟨hb',gA,gc,rfl,hg2⟩
          go_wp2_with fail
          refine hK.out _ _ (hHeld.trans (hb'.mono hHeld.size)) ?_
          clear hK K hHeld hb'
          intro hHeld
          refine wpAnyH_ready (rs:=[26]) (by kernel_rfl) (by simp) ?_
          refine AllReadyH.cons rfl (fun K hK=>?_) AllReadyH.nil
          go_simp
          refine ((kSame.out _ _ _ hHeld hg2)).mono ?_
          rintro en w' ⟨rfl,hb'⟩
          try simp only [hfd,hsm]
          go_wp2_with fail
          refine hK.out _ _ (hHeld.trans (hb'.mono hHeld.size)) ?_
          clear hK K hHeld hb'
          intro hHeld
          refine wpAnyH_take (i:=27) (v:=?_) rfl (by kernel_rfl) (by kernel_rfl) (by kernel_rfl) (fun _ _ _ h=>h) (Or.inl ⟨by rfl,?_⟩) (by assumption) ?_
          rotate_left
          ·intro wq hSw
           have hq2:=HC2.out _ hSw
           have hq9:=HC9.out _ hSw
           have hq10:=HC10.out _ hSw
           go_simp
           try with_reducible rfl
          simp only [Act.put,sA,sB,sC,sD,sE,sF]
          refine wpAnyH_take (i:=28) (v:=?_) rfl (by kernel_rfl) (by kernel_rfl) (by kernel_rfl) (fun _ _ _ h=>h) (Or.inl ⟨by rfl,?_⟩) (by assumption) ?_
          rotate_left
          ·intro wq hSw
           have hq2:=HC2.out _ hSw
           have hq9:=HC9.out _ hSw
           have hq10:=HC10.out _ hSw
           go_simp
           try with_reducible rfl
          simp only [Act.put,sA,sB,sC,sD,sE,sF]
          refine wpAnyH_done (by kernel_rfl) ?_ _
          go_wp2
          go_ret
          exact ⟨ret_bool (by rw [HR1.out,hh,d8,hfd,dt,hfi,hsm];rfl),HB.out.trans (hHeld.mono (by omega))⟩
       ·have dt:decide (e.text.size≤4000)=false:=decide_eq_false ht
        have dt2:decide ((e.text.size:Int)≤4000)=false:=decide_eq_false (by omega)
        go_wp2_with fail
        refine wp_region_held_drew (S:=fun w'=>Below W1.heap.size W1 w') (by kernel_rfl) ((Below.refl _ _).drew) (fun hHeld=>?_)
        refine wpAnyH_take (i:=0) (v:=?_) rfl (by kernel_rfl) (by kernel_rfl) (by kernel_rfl) (fun _ _ _ h=>h) (Or.inl ⟨by rfl,?_⟩) (by assumption) ?_
        rotate_left
        ·intro wq hSw
         go_simp
         try with_reducible rfl
        simp only [Act.put,List.setIfInBounds_toArray,List.set_cons_zero,List.set_cons_succ,List.getElem_toArray,List.getElem_cons_zero]
        refine wpAnyH_take (i:=1) (v:=?_) rfl (by kernel_rfl) (by kernel_rfl) (by kernel_rfl) (fun _ _ _ h=>h) (Or.inl ⟨by rfl,?_⟩) (by assumption) ?_
        rotate_left
        ·intro wq hSw
         have hq2:=HC2.out _ hSw
         have hq9:=HC9.out _ hSw
         have hq10:=HC10.out _ hSw
         go_simp
         try with_reducible rfl
        simp only [Act.put,sA,sB,sC,sD,sE,sF]
        refine wpAnyH_take (i:=2) (v:=?_) rfl (by kernel_rfl) (by kernel_rfl) (by kernel_rfl) (fun _ _ _ h=>h) (Or.inl ⟨by rfl,?_⟩) (by assumption) ?_
        rotate_left
        ·intro wq hSw
         have hq2:=HC2.out _ hSw
         have hq9:=HC9.out _ hSw
         have hq10:=HC10.out _ hSw
         go_simp
         try with_reducible rfl
        simp only [Act.put,sA,sB,sC,sD,sE,sF]
        refine wpAnyH_take (i:=3) (v:=?_) rfl (by kernel_rfl) (by kernel_rfl) (by kernel_rfl) (fun _ _ _ h=>h) (Or.inl ⟨by rfl,?_⟩) (by assumption) ?_
        rotate_left
        ·intro wq hSw
         have hq2:=HC2.out _ hSw
         have hq9:=HC9.out _ hSw
         have hq10:=HC10.out _ hSw
         go_simp
         try with_reducible rfl
        simp only [Act.put,sA,sB,sC,sD,sE,sF]
        refine wpAnyH_take (i:=4) (v:=?_) rfl (by kernel_rfl) (by kernel_rfl) (by kernel_rfl) (fun _ _ _ h=>h) (Or.inl ⟨by rfl,?_⟩) (by assumption) ?_
        rotate_left
        ·intro wq hSw
         have hq2:=HC2.out _ hSw
         have hq9:=HC9.out _ hSw
         have hq10:=HC10.out _ hSw
         go_simp
         try with_reducible rfl
        simp only [Act.put,sA,sB,sC,sD,sE,sF]
        refine wpAnyH_take (i:=5) (v:=?_) rfl (by kernel_rfl) (by kernel_rfl) (by kernel_rfl) (fun _ _ _ h=>h) (Or.inl ⟨by rfl,?_⟩) (by assumption) ?_
        rotate_left
        ·intro wq hSw
         have hq2:=HC2.out _ hSw
         have hq9:=HC9.out _ hSw
         have hq10:=HC10.out _ hSw
         go_simp
         try with_reducible rfl
        simp only [Act.put,sA,sB,sC,sD,sE,sF]
        refine wpAnyH_take (i:=6) (v:=?_) rfl (by kernel_rfl) (by kernel_rfl) (by kernel_rfl) (fun _ _ _ h=>h) (Or.inl ⟨by rfl,?_⟩) (by assumption) ?_
        rotate_left
        ·intro wq hSw
         have hq2:=HC2.out _ hSw
         have hq9:=HC9.out _ hSw
         have hq10:=HC10.out _ hSw
         go_simp
         try with_reducible rfl
        simp only [Act.put,sA,sB,sC,sD,sE,sF]
        refine wpAnyH_take (i:=7) (v:=?_) rfl (by kernel_rfl) (by kernel_rfl) (by kernel_rfl) (fun _ _ _ h=>h) (Or.inl ⟨by rfl,?_⟩) (by assumption) ?_
        rotate_left
        ·intro wq hSw
         have hq2:=HC2.out _ hSw
         have hq9:=HC9.out _ hSw
         have hq10:=HC10.out _ hSw
         go_simp
         try with_reducible rfl
        simp only [Act.put,sA,sB,sC,sD,sE,sF]
        refine' wpAnyH_take (i:=8) rfl (by kernel_rfl) (by kernel_rfl) (by kernel_rfl) (fun _ _ _ h=>h) (yieldsIf_load_mid (by rfl) _ _ rfl _ _ rfl _ _ HRS.out hu rfl hi) (by assumption) ?_
        simp only [Act.put,sA,sB,sC,sD,sE,sF]
        refine wpAnyH_ready (rs:=[9]) (by kernel_rfl) (by simp) ?_
        refine AllReadyH.cons rfl (fun K hK=>?_) AllReadyH.nil
        go_simp
        refine ((kFields _).out).mono ?_
        rintro en w' ⟨rfl,hb'⟩
        try simp only [hfd,hsm]
        go_wp2_with fail
        refine hK.out _ _ (hHeld.trans (hb'.mono hHeld.size)) ?_
        clear hK K hHeld hb'
        intro hHeld
        refine wpAnyH_take (i:=10) (v:=?_) rfl (by kernel_rfl) (by kernel_rfl) (by kernel_rfl) (fun _ _ _ h=>h) (Or.inl ⟨by rfl,?_⟩) (by assumption) ?_
        rotate_left
        ·intro wq hSw
         have hq2:=HC2.out _ hSw
         have hq9:=HC9.out _ hSw
         have hq10:=HC10.out _ hSw
         go_simp
         try with_reducible rfl
        simp only [Act.put,sA,sB,sC,sD,sE,sF]
        refine wpAnyH_take (i:=11) (v:=?_) rfl (by kernel_rfl) (by kernel_rfl) (by kernel_rfl) (fun _ _ _ h=>h) (Or.inl ⟨by rfl,?_⟩) (by assumption) ?_
        rotate_left
        ·intro wq hSw
         have hq2:=HC2.out _ hSw
         have hq9:=HC9.out _ hSw
         have hq10:=HC10.out _ hSw
         go_simp
         try with_reducible rfl
        simp only [Act.put,sA,sB,sC,sD,sE,sF]
        refine wpAnyH_take (i:=12) (v:=?_) rfl (by kernel_rfl) (by kernel_rfl) (by kernel_rfl) (fun _ _ _ h=>h) (Or.inl ⟨by rfl,?_⟩) (by assumption) ?_
        rotate_left
        ·intro wq hSw
         have hq2:=HC2.out _ hSw
         have hq9:=HC9.out _ hSw
         have hq10:=HC10.out _ hSw
         go_simp
         try with_reducible rfl
        simp only [Act.put,sA,sB,sC,sD,sE,sF]
        refine wpAnyH_take (i:=13) (v:=?_) rfl (by kernel_rfl) (by kernel_rfl) (by kernel_rfl) (fun _ _ _ h=>h) (Or.inl ⟨by rfl,?_⟩) (by assumption) ?_
        rotate_left
        ·intro wq hSw
         have hq2:=HC2.out _ hSw
         have hq9:=HC9.out _ hSw
         have hq10:=HC10.out _ hSw
         go_simp
         try with_reducible rfl
        simp only [Act.put,sA,sB,sC,sD,sE,sF]
        refine wpAnyH_take (i:=14) (v:=?_) rfl (by kernel_rfl) (by kernel_rfl) (by kernel_rfl) (fun _ _ _ h=>h) (Or.inl ⟨by rfl,?_⟩) (by assumption) ?_
        rotate_left
        ·intro wq hSw
         have hq2:=HC2.out _ hSw
         have hq9:=HC9.out _ hSw
         have hq10:=HC10.out _ hSw
         go_simp
         try with_reducible rfl
        simp only [Act.put,sA,sB,sC,sD,sE,sF]
        refine wpAnyH_take (i:=15) (v:=?_) rfl (by kernel_rfl) (by kernel_rfl) (by kernel_rfl) (fun _ _ _ h=>h) (Or.inl ⟨by rfl,?_⟩) (by assumption) ?_
        rotate_left
        ·intro wq hSw
         have hq2:=HC2.out _ hSw
         have hq9:=HC9.out _ hSw
         have hq10:=HC10.out _ hSw
         go_simp
         try with_reducible rfl
        simp only [Act.put,sA,sB,sC,sD,sE,sF]
        refine wpAnyH_take (i:=16) (v:=?_) rfl (by kernel_rfl) (by kernel_rfl) (by kernel_rfl) (fun _ _ _ h=>h) (Or.inl ⟨by rfl,?_⟩) (by assumption) ?_
        rotate_left
        ·intro wq hSw
         have hq2:=HC2.out _ hSw
         have hq9:=HC9.out _ hSw
         have hq10:=HC10.out _ hSw
         go_simp
         try with_reducible rfl
        simp only [Act.put,sA,sB,sC,sD,sE,sF]
        refine wpAnyH_take (i:=17) (v:=?_) rfl (by kernel_rfl) (by kernel_rfl) (by kernel_rfl) (fun _ _ _ h=>h) (Or.inl ⟨by rfl,?_⟩) (by assumption) ?_
        rotate_left
        ·intro wq hSw
         have hq2:=HC2.out _ hSw
         have hq9:=HC9.out _ hSw
         have hq10:=HC10.out _ hSw
         go_simp
         try with_reducible rfl
        simp only [Act.put,sA,sB,sC,sD,sE,sF]
        refine wpAnyH_take (i:=18) (v:=undef) rfl (by kernel_rfl) (by kernel_rfl) (by kernel_rfl) (fun _ _ _ h=>h) (Or.inr ⟨by rfl,rfl⟩) (by assumption) ?_
        simp only [Act.put,sA,sB,sC,sD,sE,sF]
        refine wpAnyH_take (i:=19) (v:=undef) rfl (by kernel_rfl) (by kernel_rfl) (by kernel_rfl) (fun _ _ _ h=>h) (Or.inr ⟨by rfl,rfl⟩) (by assumption) ?_
        simp only [Act.put,sA,sB,sC,sD,sE,sF]
        refine wpAnyH_ready (rs:=[20]) (by kernel_rfl) (by simp) ?_
        refine AllReadyH.cons rfl (fun K hK=>?_) AllReadyH.nil
        rw [if_neg (by rw [show Region.wanted _ _=false from rfl];exact Bool.false_ne_true)]
        refine hK.out _ _ hHeld ?_
        clear hK K hHeld
        intro hHeld
        simp only [Act.put,sA,sB,sC,sD,sE,sF]
        refine wpAnyH_take (i:=21) (v:=?_) rfl (by kernel_rfl) (by kernel_rfl) (by kernel_rfl) (fun _ _ _ h=>h) (Or.inl ⟨by rfl,?_⟩) (by assumption) ?_
        rotate_left
        ·intro wq hSw
         have hq2:=HC2.out _ hSw
         have hq9:=HC9.out _ hSw
         have hq10:=HC10.out _ hSw
         go_simp
         try with_reducible rfl
        simp only [Act.put,sA,sB,sC,sD,sE,sF]
        refine wpAnyH_take (i:=22) (v:=?_) rfl (by kernel_rfl) (by kernel_rfl) (by kernel_rfl) (fun _ _ _ h=>h) (Or.inl ⟨by rfl,?_⟩) (by assumption) ?_
        rotate_left
        ·intro wq hSw
         have hq2:=HC2.out _ hSw
         have hq9:=HC9.out _ hSw
         have hq10:=HC10.out _ hSw
         go_simp
         try with_reducible rfl
        simp only [Act.put,sA,sB,sC,sD,sE,sF]
        refine wpAnyH_take (i:=23) (v:=undef) rfl (by kernel_rfl) (by kernel_rfl) (by kernel_rfl) (fun _ _ _ h=>h) (Or.inr ⟨by rfl,rfl⟩) (by assumption) ?_
        simp only [Act.put,sA,sB,sC,sD,sE,sF]
        refine wpAnyH_take (i:=24) (v:=undef) rfl (by kernel_rfl) (by kernel_rfl) (by kernel_rfl) (fun _ _ _ h=>h) (Or.inr ⟨by rfl,rfl⟩) (by assumption) ?_
        simp only [Act.put,sA,sB,sC,sD,sE,sF]
        refine wpAnyH_ready (rs:=[25]) (by kernel_rfl) (by simp) ?_
        refine AllReadyH.cons rfl (fun K hK=>?_) AllReadyH.nil
        rw [if_neg (by rw [show Region.wanted _ _=false from rfl];exact Bool.false_ne_true)]
        refine hK.out _ _ hHeld ?_
        clear hK K hHeld
        intro hHeld
        simp only [Act.put,sA,sB,sC,sD,sE,sF]
        refine wpAnyH_ready (rs:=[26]) (by kernel_rfl) (by simp) ?_
        refine AllReadyH.cons rfl (fun K hK=>?_) AllReadyH.nil
        rw [if_neg (by rw [show Region.wanted _ _=false from rfl];exact Bool.false_ne_true)]
        refine hK.out _ _ hHeld ?_
        clear hK K hHeld
        intro hHeld
        simp only [Act.put,sA,sB,sC,sD,sE,sF]
        refine wpAnyH_take (i:=27) (v:=?_) rfl (by kernel_rfl) (by kernel_rfl) (by kernel_rfl) (fun _ _ _ h=>h) (Or.inl ⟨by rfl,?_⟩) (by assumption) ?_
        rotate_left
        ·intro wq hSw
         have hq2:=HC2.out _ hSw
         have hq9:=HC9.out _ hSw
         have hq10:=HC10.out _ hSw
         go_simp
         try with_reducible rfl
        simp only [Act.put,sA,sB,sC,sD,sE,sF]
        refine wpAnyH_take (i:=28) (v:=?_) rfl (by kernel_rfl) (by kernel_rfl) (by kernel_rfl) (fun _ _ _ h=>h) (Or.inl ⟨by rfl,?_⟩) (by assumption) ?_
        rotate_left
        ·intro wq hSw
         have hq2:=HC2.out _ hSw
         have hq9:=HC9.out _ hSw
         have hq10:=HC10.out _ hSw
         go_simp
         try with_reducible rfl
        simp only [Act.put,sA,sB,sC,sD,sE,sF]
        refine wpAnyH_done (by kernel_rfl) ?_ _
        go_wp2
        go_ret
        exact ⟨ret_bool (by rw [HR1.out,hh,d8,hfd,dt];rfl),HB.out.trans (hHeld.mono (by omega))⟩
     ·have d8:decide (e.causes.length≤8)=false:=decide_eq_false h8
      have d82:decide ((e.causes.length:Int)≤8)=false:=decide_eq_false (by omega)
      have c2:=box_cell HG0.out 2 _ rfl
      go_wp2_with fail
      go_quiet (fail)
      go_wp2
      go_ret
      exact ⟨ret_bool (by rw [HR1.out,hh,d8];rfl),below_drewN HB.out _⟩
end Go.Proofs.YtlnnjdibkbabiaaGreatDoor
