/- Contracts and plain laws, joined: WrE, WrF, WrG, WrP. -/
import Derived.Test.YthlpehhlhebhbaaGreatDoorQau
import Derived.Test.YthlpehhlhebhbaaGreatDoorQaf
import Derived.Lib.AtoiAll
import Derived.Deep.RegionHeld3
import Derived.Deep.RegionLaw
import Derived.Deep.DeepCutAuto
import Derived.Deep.CutBlock
import Derived.Test.YthlpehhlhebhbaaGreatDoorQaa
/- Contracts of package wire: the reader. -/
set_option linter.unusedSimpArgs false
set_option linter.unusedVariables false
namespace Go.Proofs.YthlpehhlhebhbaaGreatDoor
set_option maxHeartbeats 1000000
open Lib (hid)
open Go.RowKit
structure RS where
 rest:List UInt8
 bad:Bool
def RS.fail:RS:=⟨[],true⟩
def RdAt (b:Nat) (s:RS) (w:World):Prop:=w.heap[b]?=some (.cells #[.string (bs s.rest),.bool s.bad] 190 (0,0))
section
variable {b:Nat} {s s':RS} {w w':World}
theorem RdAt.lt (h:RdAt b s w):b<w.heap.size:=box_lt h
theorem RdAt.c0 (h:RdAt b s w):w.cell? ⟨b,0,none⟩=some (.string (bs s.rest)):=box_cell h 0 _ rfl
theorem RdAt.c1 (h:RdAt b s w):w.cell? ⟨b,1,none⟩=some (.bool s.bad):=box_cell h 1 _ rfl
theorem RdAt.free (h:RdAt b s w) (j:Nat):w.frozen? ⟨b,j,none⟩=false:=box_free h j
theorem RdAt.now (h:RdAt b s w) (hb:Below w.heap.size w w'):RdAt b s w':=(hb.block b h.lt).trans h
theorem RdAt.drew (h:RdAt b s w):RdAt b s w.drew:=h
theorem RdAt.set0 (h:RdAt b s w) (l:List UInt8):RdAt b ⟨l,s.bad⟩ (w.setCell ⟨b,0,none⟩ (.string (bs l))):=by
 unfold RdAt at *
 simp [World.setCell,Array.getElem?_modify,h]
theorem RdAt.set1 (h:RdAt b s w) (x:Bool):RdAt b ⟨s.rest,x⟩ (w.setCell ⟨b,1,none⟩ (.bool x)):=by
 unfold RdAt at *
 simp [World.setCell,Array.getElem?_modify,h]
end
abbrev One (b:Nat) (i:Nat):Prop:=i=b
theorem turn_below {B b:Nat} {w w':World} (h:Turn (One b) w w') (hB:B≤w.heap.size) (hb:B≤b):Below B w w' :=
 h.to_below hB (fun i hi=>by cases hi;exact hb)
theorem fail_any (b:Nat) (s:RS) (w:World) (h:RdAt b s w) :
  Calls Tryz.prog 162 #[.pointer (some ⟨b,0,none⟩)] w fun e w'=>e=.returned (.tuple #[])∧RdAt b .fail w'∧Turn (One b) w w':=by
 have c0:=h.c0
 have c1:=h.c1
 have f0:=h.free 0
 have f1:=h.free 1
 go_enter Tryz.func162,Tryz.ntmps162
 go_wp2_with fail
 go_end0
 exact ⟨rfl,(h.set0 []).set1 true,((Turn.refl (One b) w).set b 0 _ (.inl rfl)).set b 1 _ (.inl rfl)⟩
theorem atoi_any {B:Nat} (l:List UInt8) (w:World) (hV:Vs B w) (hl:l.length≤1000000000000) :
  Calls Tryz.prog 222 #[.string (bs l)] w fun e w'=>((∃ n,Lib.atoiAll l=.ok n∧InInt n∧e=.returned (.tuple #[.int .i64 n,.nilIface])) ∨
   ((∀ n,Lib.atoiAll l≠.ok n)∧∃ m tp N,e=.returned (.tuple #[.int .i64 m,.iface tp (.pointer (some ⟨N,0,none⟩))])))∧Below w.heap.size w w':=by
 have hsz:(bs l).size=l.length:=bs_size l
 rcases hA:Lib.atoiAll l with n | _ | _
 ·refine (Tryz.strconv_Atoi_ok (bs l) (by omega) n hA w).mono ?_
  rintro e w' ⟨rfl,hw⟩
  refine ⟨.inl ⟨n,rfl,Lib.atoiAll_bounds hA,rfl⟩,?_⟩
  rcases hw with rfl | ⟨t,rfl⟩
  ·exact Below.refl _ _
  ·exact Lib.bytesWorld_below _ _ _
 ·obtain ⟨tp,pv,hvar⟩:=hV.here.2.1 (by kernel_rfl)
  refine (Tryz.strconv_Atoi_syntax_var (bs l) (by omega) hA tp pv _ hvar).mono ?_
  rintro e w' ⟨N,rfl,_,_,hb⟩
  exact ⟨.inr ⟨(fun n h=>nomatch h),_,_,N,rfl⟩,hb⟩
 ·obtain ⟨tp,pv,hvar⟩:=hV.here.2.2 (by kernel_rfl)
  refine (Tryz.strconv_Atoi_range_var (bs l) (by omega) hA tp pv _ hvar).mono ?_
  rintro e w' ⟨N,rfl,_,_,hb⟩
  exact ⟨.inr ⟨(fun n h=>nomatch h),_,_,N,rfl⟩,hb⟩
def rNum (e:UInt8) (least:Int) (s:RS):Int × RS :=
 let head:=s.rest.take 21
 let at_:=Lib.indexByte head e
 if at_<0 then (0,.fail) else
 match Lib.atoiAll (head.take at_.toNat) with
 | .ok n=>if Lib.itoa n=head.take at_.toNat∧least≤n then (n,⟨s.rest.drop (at_.toNat+1),s.bad⟩) else (0,.fail)
 | _=>(0,.fail)
set_option maxRecDepth 100000 in
theorem number_any {B:Nat} (b:Nat) (s:RS) (e:UInt8) (least:Int) (w:World) (hV:Vs B w) (hb:B≤b) (h:RdAt b s w) (hl:s.rest.length≤1000000000000) (hm:InInt least) :
  Calls Tryz.prog 158 #[.pointer (some ⟨b,0,none⟩),.int .u8 e.toNat,.int .i64 least] w fun x w'=>x=.returned (.int .i64 (rNum e least s).1)∧RdAt b (rNum e least s).2 w'∧Turn (One b) w w':=by
 have c0:=h.c0
 have c1:=h.c1
 have f0:=h.free 0
 have f1:=h.free 1
 go_enter Tryz.func158,Tryz.ntmps158
 go_wp2_with fail
 go_quiet (fail)
 have hx:(bs s.rest).extract 0 (min ((bs s.rest).size:Int) 21).toNat=bs (s.rest.take 21):=by
  rw [bs_extract,bs_size,List.drop_zero]
  congr 1
  rw [show (min (s.rest.length:Int) 21).toNat=min s.rest.length 21 by omega]
  rcases Nat.le_total s.rest.length 21 with h1 | h1
  ·rw [Nat.min_eq_left h1,List.take_of_length_le (Nat.le_refl _),List.take_of_length_le h1]
  ·rw [Nat.min_eq_right h1]
 rw [hx]
 clear hx
 have hle:(s.rest.take 21).length≤21:=by simp;omega
 have hdef:Hid (∀ head,head=s.rest.take 21→rNum e least s=(let at_:=Lib.indexByte head e
  if at_<0 then (0,.fail) else
  match Lib.atoiAll (head.take at_.toNat) with
  | .ok n=>if Lib.itoa n=head.take at_.toNat∧least≤n then (n,⟨s.rest.drop (at_.toNat+1),s.bad⟩) else (0,.fail)
  | _=>(0,.fail))):=hid fun _ h=>by rw [h];rfl
 obtain ⟨head,hh⟩:∃ x,x=s.rest.take 21:=⟨_,rfl⟩
 have hD:=hdef.out head hh
 rw [← hh] at hle ⊢
 have HH:=hid hh
 clear hh
 have HD:=hid hD
 have hix:=Lib.indexByte_ge head e
 have hixl:=indexByte_in head e
 clear hdef hD
 have H1:RdAt b s (w.drewN nq):=h
 have T1:Turn (One b) w (w.drewN nq):=(Turn.refl _ _).drewN nq
 have V1:Vs B (w.drewN nq):=hV.now (below_drewN (Below.refl _ _) nq)
 generalize w.drewN nq=w1 at *
 clear hV h c0 c1 f0 f1
 go_wp2_with fail
 refine (Tryz.strings_IndexByte (bs head) e.toNat _).mono ?_
 rintro x w2 ⟨rfl,rfl⟩
 rw [show ((e.toNat:Int).toNat.toUInt8)=e by simp,bs_data]
 generalize Lib.indexByte head e=at_ at *
 have c0:=H1.c0
 have c1:=H1.c1
 have f0:=H1.free 0
 have f1:=H1.free 1
 by_cases hneg:at_<0
 ·have HF:=hid (fail_any b s w2 H1)
  go_wp2_with fail
  refine HF.out.mono ?_
  rintro x w3 ⟨rfl,hr3,ht3⟩
  go_wp2_with fail
  go_ret
  have hD:=HD.out
  simp only [hneg,if_true] at hD
  exact ⟨by rw [hD];rfl,by rw [hD];exact hr3,T1.trans ht3 (fun i hi=>.inl hi)⟩
 ·have hle2:at_≤((bs head).size:Int):=by have:=hixl (by omega);rw [bs_size];omega
  go_wp2_with fail
  have hx2:(bs head).extract 0 at_.toNat=bs (head.take at_.toNat):=by rw [bs_extract,List.drop_zero]
  rw [hx2]
  have HX2:=hid hx2
  have hD:=HD.out
  rw [if_neg (by omega)] at hD
  have HD:=hid hD
  clear hD hx2
  have hl2:(head.take at_.toNat).length≤21:=by simp;omega
  have hle1:=hixl (by omega)
  obtain ⟨h',hh'⟩:∃ x,x=head.take at_.toNat:=⟨_,rfl⟩
  rw [← hh'] at hl2 HX2 ⊢
  have hD:=HD.out
  rw [← hh'] at hD
  have HD:=hid hD
  have HH':=hid hh'
  clear hD hh'
  refine (atoi_any h' _ V1 (by omega)).mono ?_
  rintro x w3 ⟨hr,hb3⟩
  have H3:=hid (H1.now hb3)
  have T3:=hid (T1.trans (Turn.below (F:=One b) hb3) (fun i hi=>.inl hi))
  have V3:=hid (V1.now hb3)
  clear hb3 H1 T1 V1
  have c0:=H3.out.c0
  have c1:=H3.out.c1
  have f0:=H3.out.free 0
  have f1:=H3.out.free 1
  rcases hr with ⟨n,hA,hin,rfl⟩ | ⟨hA,m,tp,N,rfl⟩
  ·have hD:=HD.out
   rw [hA] at hD
   have HD:=hid hD
   clear hA hD
   have hIt:=Lib.itoa_length_le n hin.1 hin.2
   have hx2:=HX2.out
   have V3':=V3.out
   have hlt3:=H3.out.lt
   go_wp2_with fail
   go_cut [50] (fun v wx=>v=.bool (!(decide (Lib.itoa n=h') && decide (least≤n)))∧Below w3.heap.size w3 wx)
   case first =>
    by_cases hq:Lib.itoa n=h'
    ·have hq1:((bs (Lib.itoa n)).toList==(bs h').toList)=true:=by rw [bs_beq,hq];simp
     have HQ:=hid hq
     clear hq
     by_cases hq2:n<least
     ·have HQ3:=hid (show ¬ least≤n by omega)
      refine wp_region_det (S:=Below w3.heap.size w3) (by kernel_rfl) (by kernel_rfl) ((Below.refl _ _).drew) ?_
      rw [List.toList_toArray]
      repeat (first
        | ((with_reducible show Det _ _ _ _ (Oper.mk _ (Op.call (Call.mk (Callee.value (Operand.func 212)) _ _)) _ _ _ _::_) _);refine Det.step (.string (bs (Lib.itoa n))) (by rfl) (fun wq hSq K hK=>?_) ?_;(· (go_simp;refine (itoa_any n _ (V3'.now hSq) hin).mono ?_;rintro e4 w4 ⟨rfl,hb4⟩;go_wp2_with fail;refine hK.out _ _ (hSq.trans (hb4.mono hSq.size)) ?_;first | rfl | (simp [Act.put];done)));simp only [Act.put,sA,sB,sC,sD,sE,sF])
        | (refine Det.skip (by rfl) ?_;simp only [Act.put,sA,sB,sC,sD,sE,sF])
        | (refine Det.read (v:=?_) (by rfl) ?_ ?_;rotate_left;(· (intro wq hSq;skip;go_simp;try with_reducible rfl));simp only [Act.put,sA,sB,sC,sD,sE,sF])
        | fail)
      refine Det.done fun wz hz=>?_
      all_goals go_wp2
      all_goals go_meet
      all_goals exact ⟨by simp [HQ3.out],hz⟩
     ·have HQ3:=hid (show least≤n by omega)
      refine wp_region_det (S:=Below w3.heap.size w3) (by kernel_rfl) (by kernel_rfl) ((Below.refl _ _).drew) ?_
      rw [List.toList_toArray]
      repeat (first
        | ((with_reducible show Det _ _ _ _ (Oper.mk _ (Op.call (Call.mk (Callee.value (Operand.func 212)) _ _)) _ _ _ _::_) _);refine Det.step (.string (bs (Lib.itoa n))) (by rfl) (fun wq hSq K hK=>?_) ?_;(· (go_simp;refine (itoa_any n _ (V3'.now hSq) hin).mono ?_;rintro e4 w4 ⟨rfl,hb4⟩;go_wp2_with fail;refine hK.out _ _ (hSq.trans (hb4.mono hSq.size)) ?_;first | rfl | (simp [Act.put];done)));simp only [Act.put,sA,sB,sC,sD,sE,sF])
        | (refine Det.skip (by rfl) ?_;simp only [Act.put,sA,sB,sC,sD,sE,sF])
        | (refine Det.read (v:=?_) (by rfl) ?_ ?_;rotate_left;(· (intro wq hSq;skip;go_simp;try with_reducible rfl));simp only [Act.put,sA,sB,sC,sD,sE,sF])
        | fail)
      refine Det.done fun wz hz=>?_
      all_goals go_wp2
      all_goals go_meet
      all_goals exact ⟨by simp [HQ3.out,HQ.out],hz⟩
    ·have hq1:((bs (Lib.itoa n)).toList==(bs h').toList)=false:=by rw [bs_beq];simpa using hq
     have hq3:((bs (Lib.itoa n)).toList != (bs h').toList)=true:=by rw [bne,hq1];rfl
     have HQ:=hid hq
     clear hq
     refine wp_region_det (S:=Below w3.heap.size w3) (by kernel_rfl) (by kernel_rfl) ((Below.refl _ _).drew) ?_
     rw [List.toList_toArray]
     repeat (first
       | ((with_reducible show Det _ _ _ _ (Oper.mk _ (Op.call (Call.mk (Callee.value (Operand.func 212)) _ _)) _ _ _ _::_) _);refine Det.step (.string (bs (Lib.itoa n))) (by rfl) (fun wq hSq K hK=>?_) ?_;(· (go_simp;refine (itoa_any n _ (V3'.now hSq) hin).mono ?_;rintro e4 w4 ⟨rfl,hb4⟩;go_wp2_with fail;refine hK.out _ _ (hSq.trans (hb4.mono hSq.size)) ?_;first | rfl | (simp [Act.put];done)));simp only [Act.put,sA,sB,sC,sD,sE,sF])
       | (refine Det.skip (by rfl) ?_;simp only [Act.put,sA,sB,sC,sD,sE,sF])
       | (refine Det.read (v:=?_) (by rfl) ?_ ?_;rotate_left;(· (intro wq hSq;skip;go_simp;try with_reducible rfl));simp only [Act.put,sA,sB,sC,sD,sE,sF])
       | fail)
     refine Det.done fun wz hz=>?_
     all_goals go_wp2
     all_goals go_meet
     all_goals exact ⟨by simp [HQ.out],hz⟩
   case rest =>
    obtain ⟨rfl,hbc⟩:=hcut
    have H4:=hid (H3.out.now hbc)
    have T4:=hid (T3.out.trans (Turn.below (F:=One b) hbc) (fun i hi=>.inl hi))
    clear hbc H3 T3 V3 V3' hlt3 hx2 c0 c1 f0 f1
    have c0:=H4.out.c0
    have c1:=H4.out.c1
    have f0:=H4.out.free 0
    have f1:=H4.out.free 1
    by_cases hq:Lib.itoa n=h'∧least≤n
    ·have e1:(!(decide (Lib.itoa n=h') && decide (least≤n)))=false:=by simp [hq.1,hq.2]
     rw [e1]
     have hD:=HD.out
     simp only [hq,and_self,if_true] at hD
     have HD:=hid hD
     have HQ:=hid hq
     clear hD hq e1
     have hlen:at_+1≤s.rest.length:=by
      have h1:=hixl (by omega);have hh:=HH.out;have:head.length≤s.rest.length:=by rw [hh];simp;omega
      omega
     have hlen0:0≤at_+1:=by omega
     have hsl:(bs s.rest).size=s.rest.length:=bs_size _
     have hbd:=bs_drop s.rest (at_+1).toNat
     go_wp2_with fail
     go_ret
     have hD:=HD.out
     rw [hD]
     have e2:(at_+1).toNat=at_.toNat+1:=by omega
     rw [e2]
     exact ⟨rfl,H4.out.set0 _,T4.out.set b 0 _ (.inl rfl)⟩
    ·have e1:(!(decide (Lib.itoa n=h') && decide (least≤n)))=true:=by
      rcases Classical.not_and_iff_not_or_not.1 hq with h | h <;> simp [h]
     rw [e1]
     have hD:=HD.out
     simp only [hq,if_false] at hD
     have HD:=hid hD
     clear hD hq e1
     go_wp2_with fail
     refine (fail_any b s _ H4.out).mono ?_
     rintro x w5 ⟨rfl,hr5,ht5⟩
     go_wp2_with fail
     go_ret
     have hD:=HD.out
     exact ⟨by rw [hD];rfl,by rw [hD];exact hr5,T4.out.trans ht5 (fun i hi=>.inl hi)⟩
  ·have hD:rNum e least s=(0,.fail):=by
    rw [HD.out]
    rcases hA2:Lib.atoiAll h' with n | _ | _
    ·exact absurd hA2 (hA n)
    ·rfl
    ·rfl
   have HD:=hid hD
   clear hA hD
   go_wp2_with fail
   go_quiet (fail)
   have H4:=hid (show RdAt b s (w3.drewN nq) from H3.out)
   have T4:=hid (T3.out.drewN nq)
   clear H3 T3 V3 c0 c1 f0 f1
   generalize w3.drewN nq=w4 at *
   go_wp2_with fail
   refine (fail_any b s w4 H4.out).mono ?_
   rintro x w5 ⟨rfl,hr5,ht5⟩
   go_wp2_with fail
   go_ret
   have hD:=HD.out
   exact ⟨by rw [hD];rfl,by rw [hD];exact hr5,T4.out.trans ht5 (fun i hi=>.inl hi)⟩
/- Contracts of package wire: the reader's methods. -/
def rClose (c:UInt8) (s:RS):RS:=if Lib.hasPrefix s.rest [c] then ⟨s.rest.tail,s.bad⟩ else .fail
set_option maxRecDepth 100000 in
theorem close_any (b:Nat) (s:RS) (c:UInt8) (w:World) (h:RdAt b s w) :
  Calls Tryz.prog 163 #[.pointer (some ⟨b,0,none⟩),.string (bs [c])] w fun x w'=>x=.returned (.tuple #[])∧RdAt b (rClose c s) w'∧Turn (One b) w w':=by
 have c0:=h.c0
 have f0:=h.free 0
 go_enter Tryz.func163,Tryz.ntmps163
 go_wp2_with fail
 refine (Tryz.strings_CutPrefix (bs s.rest) (bs [c]) _).mono ?_
 rintro x w2 ⟨rfl,rfl⟩
 rw [bs_data,bs_data]
 have htr:Hid (∀ p,Lib.hasPrefix s.rest [c]=p→Lib.trimPrefix s.rest [c]=if p then s.rest.tail else s.rest):=hid fun p hp=>by
  unfold Lib.trimPrefix;rw [hp];cases p <;> simp
 have hcl:Hid (∀ p,Lib.hasPrefix s.rest [c]=p→rClose c s=if p then ⟨s.rest.tail,s.bad⟩ else .fail):=hid fun p hp=>by
  unfold rClose;rw [hp]
 cases hp:Lib.hasPrefix s.rest [c] with
 | true =>
  have hT:=htr.out _ hp
  have HC:=hid (hcl.out _ hp)
  rw [show (⟨(Lib.trimPrefix s.rest [c]).toArray⟩:ByteArray)=bs (s.rest.tail) by rw [hT];rfl]
  clear hT hp htr hcl
  have H1:=hid (h.set0 (s.rest.tail))
  go_wp2_with fail
  go_end0
  exact ⟨rfl,by rw [HC.out];simpa using H1.out,(Turn.refl (One b) w2).set b 0 _ (.inl rfl)⟩
 | false =>
  have hT:=htr.out _ hp
  have HC:=hid (hcl.out _ hp)
  rw [show (⟨(Lib.trimPrefix s.rest [c]).toArray⟩:ByteArray)=bs s.rest by rw [hT];rfl]
  clear hT hp htr hcl
  have H1:=hid (h.set0 s.rest)
  have T1:=hid ((Turn.refl (One b) w2).set b 0 (.string (bs s.rest)) (.inl rfl))
  clear h
  go_wp2_with fail
  refine (fail_any b _ _ H1.out).mono ?_
  rintro x w5 ⟨rfl,hr5,ht5⟩
  go_wp2_with fail
  go_end0
  exact ⟨rfl,by rw [HC.out,if_neg (by simp)];exact hr5,T1.out.trans ht5 (fun i hi=>.inl hi)⟩
theorem rdNum_any {B:Nat} (b:Nat) (s:RS) (w:World) (hV:Vs B w) (hb:B≤b) (h:RdAt b s w) (hl:s.rest.length≤1000000000000) :
  Calls Tryz.prog 27 #[.pointer (some ⟨b,0,none⟩)] w fun x w'=>x=.returned (.int .i64 (rNum 59 0 s).1)∧RdAt b (rNum 59 0 s).2 w'∧Turn (One b) w w':=by
 have HC:=hid (number_any b s 59 0 w hV hb h hl ⟨by decide,by decide⟩)
 go_enter Tryz.func27,Tryz.ntmps27
 go_wp2_with fail
 refine HC.out.mono ?_
 rintro x w2 ⟨rfl,h2,t2⟩
 go_wp2_with fail
 go_ret
 exact ⟨rfl,h2,t2⟩
theorem rdInt_any {B:Nat} (b:Nat) (s:RS) (w:World) (hV:Vs B w) (hb:B≤b) (h:RdAt b s w) (hl:s.rest.length≤1000000000000) :
  Calls Tryz.prog 49 #[.pointer (some ⟨b,0,none⟩)] w fun x w'=>x=.returned (.int .i64 (rNum 59 (-9223372036854775808) s).1)∧RdAt b (rNum 59 (-9223372036854775808) s).2 w'∧Turn (One b) w w':=by
 have HC:=hid (number_any b s 59 (-9223372036854775808) w hV hb h hl ⟨by decide,by decide⟩)
 go_enter Tryz.func49,Tryz.ntmps49
 go_wp2_with fail
 refine HC.out.mono ?_
 rintro x w2 ⟨rfl,h2,t2⟩
 go_wp2_with fail
 go_ret
 exact ⟨rfl,h2,t2⟩
theorem rNum_rest (e:UInt8) (m:Int) (s:RS):(rNum e m s).2.rest.length≤s.rest.length:=by
 unfold rNum RS.fail
 simp only
 repeat' split
 all_goals simp
theorem rNum_ge (e:UInt8) (s:RS):0≤(rNum e 0 s).1:=by
 unfold rNum
 simp only
 repeat' split
 all_goals simp_all
theorem rNum_in (e:UInt8) (m:Int) (s:RS):InInt (rNum e m s).1:=by
 unfold rNum
 simp only
 repeat' split
 all_goals first
  | exact ⟨by decide,by decide⟩
  | exact Lib.atoiAll_bounds (by assumption)
def rText (s:RS):List UInt8 × RS :=
 let r:=rNum 58 0 s
 if (r.2.rest.length:Int)<r.1 then ([],.fail) else
 let s3:=rClose 44 ⟨r.2.rest.drop r.1.toNat,r.2.bad⟩
 if s3.bad then ([],s3) else (r.2.rest.take r.1.toNat,s3)
theorem rClose_rest (c:UInt8) (s:RS):(rClose c s).rest.length≤s.rest.length:=by
 unfold rClose RS.fail
 split <;> simp
theorem rText_rest (s:RS):(rText s).2.rest.length≤s.rest.length:=by
 have h1:=rNum_rest 58 0 s
 unfold rText
 simp only
 split
 ·simp [RS.fail]
 ·have h2:=rClose_rest 44 ⟨(rNum 58 0 s).2.rest.drop (rNum 58 0 s).1.toNat,(rNum 58 0 s).2.bad⟩
  simp only [List.length_drop] at h2
  split
  ·show (rClose _ _).rest.length≤_;omega
  ·show (rClose _ _).rest.length≤_;omega
set_option maxRecDepth 100000 in
theorem rdText_any {B:Nat} (b:Nat) (s:RS) (w:World) (hV:Vs B w) (hb:B≤b) (h:RdAt b s w) (hl:s.rest.length≤1000000000000) :
  Calls Tryz.prog 32 #[.pointer (some ⟨b,0,none⟩)] w fun x w'=>x=.returned (.string (bs (rText s).1))∧RdAt b (rText s).2 w'∧Turn (One b) w w':=by
 have HC:=hid (number_any b s 58 0 w hV hb h hl ⟨by decide,by decide⟩)
 have HD:Hid (rText s=_):=hid (show rText s=(let r:=rNum 58 0 s
  if (r.2.rest.length:Int)<r.1 then ([],.fail) else
  let s3:=rClose 44 ⟨r.2.rest.drop r.1.toNat,r.2.bad⟩
  if s3.bad then ([],s3) else (r.2.rest.take r.1.toNat,s3)) from rfl)
 have HG:=hid (rNum_ge 58 s)
 have HR:=hid (rNum_rest 58 0 s)
 go_enter Tryz.func32,Tryz.ntmps32
 go_wp2_with fail
 refine HC.out.mono ?_
 rintro x w2 ⟨rfl,h2,t2⟩
 have T2:=hid t2
 have hD:=HD.out
 have hG:=HG.out
 have hR:=HR.out
 clear HC HD HG HR t2 hV
 generalize hr:rNum 58 0 s=r at *
 clear hr h
 obtain ⟨n,q⟩:=r
 simp only at hD hG h2 hR ⊢
 have c0:=h2.c0
 have c1:=h2.c1
 have f0:=h2.free 0
 have f1:=h2.free 1
 have hsl:(bs q.rest).size=q.rest.length:=bs_size _
 by_cases hc:(q.rest.length:Int)<n
 ·rw [if_pos hc] at hD
  have HD:=hid hD
  clear hD
  go_wp2_with fail
  refine (fail_any b _ _ h2).mono ?_
  rintro x w5 ⟨rfl,hr5,ht5⟩
  go_wp2_with fail
  go_ret
  exact ⟨by rw [HD.out];rfl,by rw [HD.out];exact hr5,T2.out.trans ht5 (fun i hi=>.inl hi)⟩
 ·rw [if_neg hc] at hD
  have HD:=hid hD
  clear hD
  have hc2:n≤q.rest.length:=by omega
  have ht:=bs_take q.rest n.toNat
  have hd:=bs_drop q.rest n.toNat
  have H3:=hid (h2.set0 (q.rest.drop n.toNat))
  have T3:=hid (T2.out.set b 0 (.string (bs (q.rest.drop n.toNat))) (.inl rfl))
  go_wp2_with fail
  refine (close_any b _ 44 _ H3.out).mono ?_
  rintro x w4 ⟨rfl,h4,t4⟩
  have H4:=hid h4
  have T4:=hid (T3.out.trans t4 (fun i hi=>.inl hi))
  have d1:=h4.c1
  clear h4 t4 H3 T3 T2 h2 c0 c1 f0 f1
  generalize rClose 44 ⟨q.rest.drop n.toNat,q.bad⟩=s3 at *
  cases hb3:s3.bad with
  | true =>
   rw [hb3] at d1
   have hD:=HD.out
   rw [hb3] at hD
   have HD:=hid hD
   clear hD hb3
   go_wp2_with fail
   go_ret
   exact ⟨by rw [HD.out];rfl,by rw [HD.out];exact H4.out,T4.out⟩
  | false =>
   rw [hb3] at d1
   have hD:=HD.out
   rw [hb3] at hD
   have HD:=hid hD
   clear hD hb3
   go_wp2_with fail
   go_ret
   exact ⟨by rw [HD.out];rfl,by rw [HD.out];exact H4.out,T4.out⟩
theorem left_any (b:Nat) (s:RS) (w:World) (h:RdAt b s w) :
  Calls Tryz.prog 159 #[.pointer (some ⟨b,0,none⟩)] w fun x w'=>x=.returned (.int .i64 s.rest.length)∧w=w':=by
 have c0:=h.c0
 have hsl:(bs s.rest).size=s.rest.length:=bs_size _
 go_enter Tryz.func159,Tryz.ntmps159
 go_wp2_with fail
 go_ret
 exact ⟨rfl,rfl⟩
def rDone (s:RS):Bool:=!s.bad && s.rest.isEmpty
theorem done_any (b:Nat) (s:RS) (w:World) (h:RdAt b s w) :
  Calls Tryz.prog 54 #[.pointer (some ⟨b,0,none⟩)] w fun x w'=>x=.returned (.bool (rDone s))∧w=w':=by
 have c0:=h.c0
 have c1:=h.c1
 have hq:(bs s.rest).toList.isEmpty=s.rest.isEmpty:=by rw [bs_toList]
 have HD:=hid (show rDone s=(!s.bad && s.rest.isEmpty) from rfl)
 go_enter Tryz.func54,Tryz.ntmps54
 generalize s.bad=bad at *
 cases bad
 ·go_wp2_with fail
  go_ret
  exact ⟨by rw [HD.out];simp,rfl⟩
 ·go_wp2_with fail
  go_ret
  exact ⟨by rw [HD.out];rfl,rfl⟩
theorem open_any (l:List UInt8) (w:World) :
  Calls Tryz.prog 25 #[.string (bs l)] w fun x w'=>x=.returned (.pointer (some ⟨w.heap.size,0,none⟩))∧RdAt w.heap.size ⟨l,false⟩ w'∧Below w.heap.size w w':=by
 go_enter Tryz.func25,Tryz.ntmps25
 go_wp2_with fail
 go_ret
 exact ⟨rfl,(MapKept.heap_alloc w _).1,(Below.refl _ _).alloc (Nat.le_refl _) _⟩
/- Contracts of package wire: reading lists. -/
theorem slInt:SlTy Tryz.prog 54 3 1 8:=by
 obtain ⟨i,hi,h0,h1,h2⟩:=info_parts (show (Tryz.prog.info? 3).map (fun i=>(i.zero,i.size,i.bytes))=some (some (.int .i64 0),1,8) by kernel_rfl)
 exact ⟨Tryz.underlying54,⟨i,_,hi,h0,h1,h2,rfl⟩,by decide,by decide⟩
theorem intLay:Lay 1 intE:=⟨fun _=>rfl,fun x u hu=>by simp only [intE,List.mem_singleton] at hu;subst hu;rfl⟩
theorem strLay:Lay 1 strE:=⟨fun _=>rfl,fun x u hu=>by simp only [strE,List.mem_singleton] at hu;subst hu;rfl⟩
theorem Turn.more {F:Nat→Prop} {a b c:World} (h:Turn F a b) (k:Below a.heap.size b c):Turn F a c :=
 ⟨k.os.trans h.os,k.tape.trans h.tape,k.output.trans h.output,Nat.le_trans h.size k.size,fun i hi hn=>(k.block i hi).trans (h.block i hi hn)⟩
def itLoop {T:Type} (one:RS→T × RS):Nat→RS→List T→List T × RS
 | 0,s,out=>(out,s)
 | n+1,s,out=>if s.bad then (out,s) else itLoop one n (one s).2 (out++[(one s).1])
theorem itLoop_bad {T:Type} (one:RS→T × RS) (n:Nat) (s:RS) (out:List T) (h:s.bad=true):itLoop one n s out=(out,s):=by
 cases n <;> simp [itLoop,h]
theorem itLoop_go {T:Type} (one:RS→T × RS) (n:Nat) (s:RS) (out:List T) (h:s.bad=false):itLoop one (n+1) s out=itLoop one n (one s).2 (out++[(one s).1]):=by
 simp [itLoop,h]
def rItems {T:Type} (one:RS→T × RS) (s:RS):List T × RS :=
 let r:=rNum 91 0 s
 let q:=itLoop one r.1.toNat r.2 []
 let s3:=rClose 93 q.2
 if s3.bad then ([],s3) else (q.1,s3)
def Eats {T:Type} (one:RS→T × RS):Prop:=∀ s,s.bad=false→(one s).2.rest.length+1≤s.rest.length∨((one s).2.rest.length=0∧(one s).2.bad=true)
def one1 (b:Bool):Nat:=if b then 1 else 0
set_option maxRecDepth 100000 in
theorem itemsI_any {B:Nat} (b:Nat) (s:RS) (w:World) (hV:Vs B w) (hb:B≤b) (h:RdAt b s w) (hl:s.rest.length≤1000000000000) (heat:Eats (rNum 59 (-9223372036854775808))) (hle:∀ s,((rNum 59 (-9223372036854775808)) s).2.rest.length≤s.rest.length) :
  Calls Tryz.prog 223 #[.pointer (some ⟨b,0,none⟩),.func (.func 49) #[.pointer (some ⟨b,0,none⟩)] #[]] w fun x w'=>∃ A c,x=.returned (.slice A (rItems (rNum 59 (-9223372036854775808)) s).1.length c)∧OwnL w' w.heap.size 3 1 intE A c (rItems (rNum 59 (-9223372036854775808)) s).1∧RdAt b (rItems (rNum 59 (-9223372036854775808)) s).2 w'∧Turn (One b) w w':=by
 have HC:=hid (number_any b s 91 0 w hV hb h hl ⟨by decide,by decide⟩)
 have HD:Hid (rItems (rNum 59 (-9223372036854775808)) s=_):=hid (show rItems (rNum 59 (-9223372036854775808)) s=(let q:=itLoop (rNum 59 (-9223372036854775808)) (rNum 91 0 s).1.toNat (rNum 91 0 s).2 []
  let s3:=rClose 93 q.2
  if s3.bad then ([],s3) else (q.1,s3)) from rfl)
 have HG:=hid (rNum_ge 91 s)
 have HR:=hid (rNum_rest 91 0 s)
 have HN:=hid (rNum_in 91 0 s)
 have hblt:=h.lt
 have HEat:=hid heat
 have HLe:=hid hle
 have HL:=hid hl
 have HV:=hid hV
 clear hl heat hle hV
 go_enter Tryz.func223,Tryz.ntmps223
 go_wp2_with fail
 refine HC.out.mono ?_
 rintro x w2 ⟨rfl,h2,t2⟩
 have T2:=hid t2
 have H2:=hid h2
 have hD:=HD.out
 have hG:=HG.out
 have hR:=HR.out
 have hN:=HN.out
 clear HC HD HG HR HN t2 h h2
 generalize hr:rNum 91 0 s=r at *
 clear hr
 obtain ⟨n,q⟩:=r
 simp only at hD hG H2 hR hN ⊢
 obtain ⟨m,rfl⟩:∃ m:Nat,n=m:=⟨n.toNat,by omega⟩
 rw [Int.toNat_natCast] at hD
 have HD:=hid hD
 have HL0:=hid (Nat.le_trans hR HL.out)
 have HN:=hid hN
 clear hD hG hR hN
 go_wp2_with fail
 go_loopw [5,6] (fun o i wr=>∃ (k:Nat) (s':RS) (out:List (Int)) (A:Option Addr) (c:Nat),i=.int .i64 k∧k≤m∧o=.slice A out.length c∧OwnL wr w.heap.size 3 1 intE A c out∧RdAt b s' wr∧Turn (One b) w wr∧itLoop (rNum 59 (-9223372036854775808)) m q []=itLoop (rNum 59 (-9223372036854775808)) k s' out∧out.length+s'.rest.length≤q.rest.length+one1 s'.bad) (fun _ i _=>(intOf i).toNat)
 case atStart=>exact ⟨m,q,[],none,0,rfl,Nat.le_refl _,rfl,OwnL.nil_,H2.out,T2.out,rfl,by simp⟩
 case round =>
  obtain ⟨k,s',out,A,c,rfl,hkm,rfl,hown,hrd,htu,heq,hlen⟩:=hrel
  have HO:=hid hown
  have H3:=hid hrd
  have T3:=hid htu
  have HE:=hid heq
  have HLn:=hid hlen
  have c1:=hrd.c1
  have hN:=HN.out.2
  clear hown hrd htu heq hlen H2 T2
  by_cases hk0:0<k∧s'.bad=false
  ·obtain ⟨hk,hbad⟩:=hk0
   obtain ⟨k,rfl⟩:∃ j,k=j+1:=⟨k - 1,by omega⟩
   rw [hbad] at c1
   have HB:=hid hbad
   have V3:=hid (HV.out.on (turn_below T3.out HV.out.le hb))
   clear hbad
   go_wp2_with fail
   have hL1:s'.rest.length≤1000000000000:=by have:=HLn.out;have:=HL0.out;rw [HB.out] at *;simp [one1] at *;omega
   refine (rdInt_any b s' wr V3.out hb H3.out hL1).mono ?_
   rintro x w4 ⟨rfl,hr4,ht4⟩
   have H4:=hid hr4
   have T4:=hid (T3.out.trans ht4 (fun i hi=>.inl hi))
   have HO4:=hid (HO.out.turn (w':=w4) (fun i hi hlt=>ht4.block i hlt (fun e=>by have:=(HO.out.blk_lt hi).1;unfold One at e;omega)))
   have hea:=HEat.out s' HB.out
   have HE4:=hid (HE.out.trans (itLoop_go (rNum 59 (-9223372036854775808)) k s' out HB.out))
   have hln:=HLn.out
   rw [HB.out] at hln
   have HL4:Hid ((out++[((rNum 59 (-9223372036854775808)) s').1]).length+((rNum 59 (-9223372036854775808)) s').2.rest.length≤q.rest.length+one1 ((rNum 59 (-9223372036854775808)) s').2.bad):=hid (by
    rcases hea with h | ⟨h,hb⟩
    ·have e0:one1 false=0:=rfl
     rw [e0] at hln
     simp only [List.length_append,List.length_cons,List.length_nil]
     omega
    ·have e0:one1 false=0:=rfl
     have e1:one1 true=1:=rfl
     rw [e0] at hln
     rw [hb,e1]
     simp only [List.length_append,List.length_cons,List.length_nil]
     omega)
   have HB5:Hid (out.length+1≤1000000000002):=hid (by have:=HL0.out;simp [one1] at hln;omega)
   clear hr4 ht4 HO H3 T3 HE HLn hea hln c1
   generalize (rNum 59 (-9223372036854775808)) s'=y at *
   obtain ⟨yv,ys⟩:=y
   simp only at H4 HE4 HL4 ⊢
   go_wp2_with (at_builtin;refine wp_append_l rfl (.tmp 20) (.tmp 23) rfl slInt intLay w.heap.size (xs:=out) (ys:=[yv]) rfl rfl (HO4.out.alloc _) rfl rfl (RdL.one w4 yv _ _ rfl _ rfl) (by have:=HB5.out;simp;omega) (by have:=T4.out.size;simp;omega) ?_;intro A2 c2 w6 hown hg hb2 hat;have HO2:=hid hown;have HB2:=hid (((Below.refl w.heap.size w4).alloc T4.out.size _).trans hb2);clear hown hg hb2 hat)
   go_roundw
   case rel=>exact ⟨k,ys,out++[yv],A2,c2,by go_num,by omega,by simp,HO2.out,(HB2.out.block b hblt).trans H4.out,T4.out.more HB2.out,HE4.out,HL4.out⟩
   case measure=>simp [intOf]
  ·have HE5:Hid (itLoop (rNum 59 (-9223372036854775808)) m q []=(out,s')):=hid (by
    rw [HE.out]
    by_cases hk:0<k
    ·have:s'.bad=true:=by
      cases hbb:s'.bad with
      | true=>rfl
      | false=>exact absurd ⟨hk,hbb⟩ hk0
     exact itLoop_bad _ _ _ _ this
    ·have:k=0:=by omega
     subst this;rfl)
   have hD:=HD.out
   rw [HE5.out] at hD
   have HD:=hid hD
   clear hD HE HE5
   have f0:=H3.out.free 0
   have c0:=H3.out.c0
   have hcase:(0<k∧s'.bad=true)∨k=0:=by
    by_cases hk:0<k
    ·refine .inl ⟨hk,?_⟩
     cases hbb:s'.bad with
     | true=>rfl
     | false=>exact absurd ⟨hk,hbb⟩ hk0
    ·exact .inr (by omega)
   clear hk0
   rcases hcase with ⟨hk,hbd⟩ | hk
   ·rw [hbd] at c1
    clear hbd
    go_wp2_with fail
    refine (close_any b s' 93 wr H3.out).mono ?_
    rintro x w4 ⟨rfl,hr4,ht4⟩
    have H4:=hid hr4
    have T4:=hid (T3.out.trans ht4 (fun i hi=>.inl hi))
    have HO4:=hid (HO.out.turn (w':=w4) (fun i hi hlt=>ht4.block i hlt (fun e=>by have:=(HO.out.blk_lt hi).1;unfold One at e;omega)))
    have d1:=hr4.c1
    clear hr4 ht4 HO H3 T3 c1 c0 f0
    generalize rClose 93 s'=s3 at *
    cases hb3:s3.bad with
    | true =>
     rw [hb3] at d1
     have hD:=HD.out
     rw [hb3] at hD
     have HD:=hid hD
     clear hD hb3
     go_wp2_with fail
     go_ret
     rw [HD.out]
     exact ⟨none,0,rfl,OwnL.nil_,H4.out,T4.out⟩
    | false =>
     rw [hb3] at d1
     have hD:=HD.out
     rw [hb3] at hD
     have HD:=hid hD
     clear hD hb3
     go_wp2_with fail
     go_ret
     rw [HD.out]
     exact ⟨A,c,rfl,HO4.out,H4.out,T4.out⟩
   ·subst hk
    go_wp2_with fail
    refine (close_any b s' 93 wr H3.out).mono ?_
    rintro x w4 ⟨rfl,hr4,ht4⟩
    have H4:=hid hr4
    have T4:=hid (T3.out.trans ht4 (fun i hi=>.inl hi))
    have HO4:=hid (HO.out.turn (w':=w4) (fun i hi hlt=>ht4.block i hlt (fun e=>by have:=(HO.out.blk_lt hi).1;unfold One at e;omega)))
    have d1:=hr4.c1
    clear hr4 ht4 HO H3 T3 c1 c0 f0
    generalize rClose 93 s'=s3 at *
    cases hb3:s3.bad with
    | true =>
     rw [hb3] at d1
     have hD:=HD.out
     rw [hb3] at hD
     have HD:=hid hD
     clear hD hb3
     go_wp2_with fail
     go_ret
     rw [HD.out]
     exact ⟨none,0,rfl,OwnL.nil_,H4.out,T4.out⟩
    | false =>
     rw [hb3] at d1
     have hD:=HD.out
     rw [hb3] at hD
     have HD:=hid hD
     clear hD hb3
     go_wp2_with fail
     go_ret
     rw [HD.out]
     exact ⟨A,c,rfl,HO4.out,H4.out,T4.out⟩
theorem rNum_eats (e:UInt8) (m:Int):Eats (rNum e m):=fun s hs=>by
 have h1:=indexByte_in (s.rest.take 21) e
 have h2:(s.rest.take 21).length≤s.rest.length:=by simp;omega
 unfold rNum RS.fail
 simp only
 split
 ·exact .inr ⟨rfl,rfl⟩
 ·have h3:=h1 (by omega)
  split
  ·split
   ·left
    show (s.rest.drop ((Lib.indexByte (s.rest.take 21) e).toNat+1)).length+1≤_
    rw [List.length_drop]
    omega
   ·exact .inr ⟨rfl,rfl⟩
  ·exact .inr ⟨rfl,rfl⟩
theorem rdNums_any {B:Nat} (b:Nat) (s:RS) (w:World) (hV:Vs B w) (hb:B≤b) (h:RdAt b s w) (hl:s.rest.length≤1000000000000) :
  Calls Tryz.prog 160 #[.pointer (some ⟨b,0,none⟩)] w fun x w'=>∃ A c,x=.returned (.slice A (rItems (rNum 59 (-9223372036854775808)) s).1.length c)∧OwnL w' w.heap.size 3 1 intE A c (rItems (rNum 59 (-9223372036854775808)) s).1∧RdAt b (rItems (rNum 59 (-9223372036854775808)) s).2 w'∧Turn (One b) w w':=by
 have HC:=hid (itemsI_any b s w hV hb h hl (rNum_eats _ _) (rNum_rest _ _))
 clear hV hb h hl
 go_enter Tryz.func160,Tryz.ntmps160
 go_wp2_with fail
 refine HC.out.mono ?_
 rintro x w2 ⟨A,c,rfl,ho,h2,t2⟩
 have HO:=hid ho
 have H2:=hid h2
 have T2:=hid t2
 clear HC ho h2 t2
 go_wp2_with fail
 go_ret
 exact ⟨A,c,rfl,HO.out,H2.out,T2.out⟩
/- What is written is read back;what is read was written so: plain laws. -/
theorem not_mem_itoa {e:UInt8} (he:57<e.toNat) (n:Int):e ∉ Lib.itoa n:=fun h=>by
 have:=itoa_chars n e h
 omega
theorem rNum_back {e:UInt8} (he:57<e.toNat) {n m:Int} (hn:InInt n) (hm:m≤n) (tl:List UInt8) (bad:Bool):rNum e m ⟨Lib.itoa n++e::tl,bad⟩=(n,⟨tl,bad⟩):=by
 have h20:=itoa_20 n hn.1 hn.2
 have hb:=itoa_back n hn.1 hn.2
 have hne:=not_mem_itoa he n
 generalize hd0:Lib.itoa n=d at *
 have hhead:(d++e::tl).take 21=d++e::tl.take (20 - d.length):=by
  rw [List.take_append,List.take_of_length_le (by omega)]
  rw [show 21 - d.length=(20 - d.length)+1 by omega,List.take_succ_cons]
 unfold rNum
 simp only [hhead,index_at d _ e hne]
 rw [if_neg (by omega)]
 have ht:(d++e::tl.take (20 - d.length)).take (d.length:Int).toNat=d:=by simp
 rw [ht,hb]
 simp only
 have hd:(d++e::tl).drop ((d.length:Int).toNat+1)=tl:=by
  rw [Int.toNat_natCast,List.drop_append]
  simp
 rw [hd,if_pos ⟨hd0,hm⟩]
theorem index_split (l:List UInt8) (c:UInt8) (h:0≤Lib.indexByte l c):l[(Lib.indexByte l c).toNat]?=some c:=by
 induction l with
 | nil=>simp [Lib.indexByte] at h
 | cons b l ih =>
  rw [Lib.indexByte] at h ⊢
  by_cases hb:(b==c)=true
  ·rw [if_pos hb]
   have:=eq_of_beq hb
   simp [this]
  ·rw [if_neg hb] at h ⊢
   by_cases hi:(Lib.indexByte l c==-1)=true
   ·rw [if_pos hi] at h;omega
   ·rw [if_neg hi] at h ⊢
    have h1:=Lib.indexByte_ge l c
    have h2:Lib.indexByte l c≠-1:=fun e=>hi (by simp [e])
    have h3:=ih (by omega)
    rw [show (Lib.indexByte l c+1).toNat=(Lib.indexByte l c).toNat+1 by omega]
    simpa using h3
theorem rNum_inv {e:UInt8} {m:Int} {s:RS} (h:(rNum e m s).2.bad=false) :
  s.bad=false∧s.rest=Lib.itoa (rNum e m s).1++e::(rNum e m s).2.rest∧m≤(rNum e m s).1:=by
 have hix:=index_split (s.rest.take 21) e
 have hlt:=indexByte_in (s.rest.take 21) e
 unfold rNum at h ⊢
 simp only at h ⊢
 split at h
 ·simp [RS.fail] at h
 ·rename_i h0
  rw [if_neg h0]
  split at h
  ·rename_i n hn
   split at h
   ·rename_i hq
    rw [if_pos hq]
    simp only at h ⊢
    have h1:=hix (by omega)
    have h2:=hlt (by omega)
    generalize Lib.indexByte (s.rest.take 21) e=a at *
    have h3:a.toNat<21:=by
     have:(s.rest.take 21).length≤21:=by simp;omega
     omega
    have h4:a.toNat<s.rest.length:=by
     have:(s.rest.take 21).length≤s.rest.length:=by simp;omega
     omega
    rw [List.getElem?_take_of_lt h3] at h1
    have h5:s.rest[a.toNat]=e:=by rw [List.getElem?_eq_getElem h4] at h1;exact Option.some.inj h1
    have h6:(s.rest.take 21).take a.toNat=s.rest.take a.toNat:=by rw [List.take_take,Nat.min_eq_left (by omega)]
    refine ⟨h,?_,hq.2⟩
    rw [hq.1,h6]
    conv=>lhs;rw [← List.take_append_drop a.toNat s.rest,List.drop_eq_getElem_cons h4,h5]
   ·simp [RS.fail] at h
  ·simp [RS.fail] at h
theorem rClose_back (c:UInt8) (tl:List UInt8) (bad:Bool):rClose c ⟨c::tl,bad⟩=⟨tl,bad⟩:=by simp [rClose,Lib.hasPrefix]
theorem rClose_inv {c:UInt8} {s:RS} (h:(rClose c s).bad=false):s.bad=false∧s.rest=c::(rClose c s).rest:=by
 unfold rClose at h ⊢
 split at h
 ·rename_i hp
  rw [if_pos hp]
  simp only at h ⊢
  refine ⟨h,?_⟩
  cases hr:s.rest with
  | nil=>rw [hr] at hp;simp [Lib.hasPrefix] at hp
  | cons b l =>
   rw [hr] at hp
   simp [Lib.hasPrefix] at hp
   simp [hp]
 ·simp [RS.fail] at h
theorem rText_back (l tl:List UInt8) (hl:InInt l.length):rText ⟨encT l++tl,false⟩=(l,⟨tl,false⟩):=by
 have e:encT l++tl=Lib.itoa l.length++58::(l++44::tl):=by simp [encT]
 unfold rText
 simp only [e,rNum_back (by decide:57<(58:UInt8).toNat) hl (by omega:(0:Int)≤l.length)]
 rw [if_neg (by simp;omega)]
 have hd:(l++44::tl).drop (l.length:Int).toNat=44::tl:=by simp
 have ht:(l++44::tl).take (l.length:Int).toNat=l:=by simp
 rw [hd,ht,rClose_back]
 simp
theorem itLoop_back {T:Type} (one:RS→T × RS) (enc:T→List UInt8):∀ (l:List T) (tl:List UInt8) (out:List T),(∀ x∈l,∀ tl,one ⟨enc x++tl,false⟩=(x,⟨tl,false⟩)) →
  itLoop one l.length ⟨l.flatMap enc++tl,false⟩ out=(out++l,⟨tl,false⟩)
 | [],tl,out,_=>by simp [itLoop]
 | x::l,tl,out,h=>by
  have h1:=h x (by simp) (l.flatMap enc++tl)
  have e:(x::l).flatMap enc++tl=enc x++(l.flatMap enc++tl):=by simp
  rw [List.length_cons,itLoop_go _ _ _ _ rfl,e,h1]
  simp only
  rw [itLoop_back one enc l tl _ (fun y hy=>h y (by simp [hy]))]
  simp
theorem rItems_back {T:Type} (one:RS→T × RS) (enc:T→List UInt8) (l:List T) (tl:List UInt8) (hl:InInt l.length) (h:∀ x∈l,∀ tl,one ⟨enc x++tl,false⟩=(x,⟨tl,false⟩)) :
  rItems one ⟨encL enc l++tl,false⟩=(l,⟨tl,false⟩):=by
 have e:encL enc l++tl=Lib.itoa l.length++91::(l.flatMap enc++93::tl):=by simp [encL]
 unfold rItems
 simp only [e,rNum_back (by decide:57<(91:UInt8).toNat) hl (by omega:(0:Int)≤l.length),Int.toNat_natCast,itLoop_back one enc l _ [] h,rClose_back]
 simp
theorem itLoop_inv {T:Type} (one:RS→T × RS) (enc:T→List UInt8) (hone:∀ s,(one s).2.bad=false→s.bad=false∧s.rest=enc (one s).1++(one s).2.rest):∀ (n:Nat) (s:RS) (out:List T),(itLoop one n s out).2.bad=false →
  s.bad=false∧∃ l,(itLoop one n s out).1=out++l∧l.length=n∧s.rest=l.flatMap enc++(itLoop one n s out).2.rest
 | 0,s,out,h=>⟨h,[],by simp [itLoop],rfl,by simp [itLoop]⟩
 | n+1,s,out,h=>by
  cases hb:s.bad with
  | true=>rw [itLoop_bad _ _ _ _ hb] at h;simp [hb] at h
  | false =>
   rw [itLoop_go _ _ _ _ hb] at h ⊢
   obtain ⟨h1,l,h2,h3,h4⟩:=itLoop_inv one enc hone n _ _ h
   have h5:=hone s h1
   refine ⟨rfl,(one s).1::l,by rw [h2];simp,by simp [h3],?_⟩
   rw [h5.2,h4]
   simp
theorem rItems_inv {T:Type} {one:RS→T × RS} (enc:T→List UInt8) (hone:∀ s,(one s).2.bad=false→s.bad=false∧s.rest=enc (one s).1++(one s).2.rest) {s:RS} (h:(rItems one s).2.bad=false) :
  s.bad=false∧s.rest=encL enc (rItems one s).1++(rItems one s).2.rest:=by
 unfold rItems at h ⊢
 simp only at h ⊢
 split at h
 ·rename_i hb;simp [hb] at h
 ·rename_i hb
  rw [if_neg hb]
  simp only at h ⊢
  have h1:=rClose_inv h
  obtain ⟨h2,l,h3,h4,h5⟩:=itLoop_inv one enc hone _ _ _ h1.1
  have h6:=rNum_inv h2
  have h7:=rNum_ge 91 s
  rw [List.nil_append] at h3
  rw [h3]
  refine ⟨h6.1,?_⟩
  have h8:(l.length:Int)=(rNum 91 0 s).1:=by omega
  rw [encL,h8,h6.2.1,h5,h1.2]
  simp
theorem rInt_inv {e:UInt8} {m:Int} {s:RS} (he:e=59) (h:(rNum e m s).2.bad=false):s.bad=false∧s.rest=encI (rNum e m s).1++(rNum e m s).2.rest:=by
 have h1:=rNum_inv h
 refine ⟨h1.1,?_⟩
 subst he
 rw [encI]
 simpa using h1.2.1
theorem rInt_back {n m:Int} (hn:InInt n) (hm:m≤n) (tl:List UInt8):rNum 59 m ⟨encI n++tl,false⟩=(n,⟨tl,false⟩):=by
 have e:encI n++tl=Lib.itoa n++59::tl:=by simp [encI]
 rw [e]
 exact rNum_back (by decide) hn hm tl false
theorem enc_len {T:Type} (enc:T→List UInt8) (h:∀ x,1≤(enc x).length):∀ l:List T,l.length≤(l.flatMap enc).length
 | []=>by simp
 | x::l=>by
  have h1:=h x
  have h2:=enc_len enc h l
  simp only [List.flatMap_cons,List.length_append,List.length_cons]
  omega
theorem items_bad {T:Type} {one:RS→T × RS} {s:RS} (h:(rItems one s).2.bad=true):(rItems one s).1=[]:=by
 unfold rItems at h ⊢
 simp only at h ⊢
 split at h
 ·rename_i hb;rw [if_pos hb]
 ·rename_i hb;exact absurd h hb
theorem nums_small (s:RS):(rItems (rNum 59 (-9223372036854775808)) s).1.length≤s.rest.length:=by
 cases hb:(rItems (rNum 59 (-9223372036854775808)) s).2.bad with
 | true=>rw [items_bad hb];simp
 | false =>
  have h1:=(rItems_inv (one:=rNum 59 (-9223372036854775808)) encI (fun s h=>rInt_inv rfl h) hb).2
  have h2:=enc_len encI (fun x=>by simp [encI]) (rItems (rNum 59 (-9223372036854775808)) s).1
  have h3:=congrArg List.length h1
  simp only [encL,List.length_append] at h3
  omega
theorem text_small (s:RS):(rText s).1.length≤s.rest.length:=by
 have h1:=rNum_rest 58 0 s
 unfold rText
 simp only
 split
 ·simp
 ·split
  ·simp
  ·simp;omega
end Go.Proofs.YthlpehhlhebhbaaGreatDoor
