/- Contracts and plain laws, joined: WdD, WdE, WdF, WdG, WdLine, WdH. -/
import Derived.Test.YtlnnjdibkbabiaaGreatDoorQaq
import Derived.Test.YtlnnjdibkbabiaaGreatDoorQbi
import Derived.Test.YtlnnjdibkbabiaaGreatDoorQas
/- Contracts of linguaref10: letter,Same,Ints,Few;of words: part. -/
set_option linter.unusedSimpArgs false
set_option linter.unusedVariables false
namespace Go.Proofs.YtlnnjdibkbabiaaGreatDoor
set_option maxHeartbeats 2000000
open _root_.Go.Lib (hid)
open Go.RowKit
/- Contracts of words.Words and of the reference's Words. -/
/- Contract of the reference's Words. -/
structure W2 (w wx:World) (Ao:Option Addr) (co:Nat) (out:List (List UInt8)) (An:Option Addr) (cn:Nat) (now:List UInt8):Prop where
 b:Below w.heap.size w wx
 o1:OwnL wx w.heap.size 9 1 strE Ao co out
 o2:OwnL wx w.heap.size 5 1 byteE An cn now
 nn:∀ i,slBlk Ao=some i→slBlk An≠some i
section
variable {w wx wy:World} {Ao An:Option Addr} {co cn:Nat} {out:List (List UInt8)} {now:List UInt8}
theorem W2.on (h:W2 w wx Ao co out An cn now) (hb:Below wx.heap.size wx wy):W2 w wy Ao co out An cn now :=
 ⟨h.b.trans (hb.mono h.b.size),h.o1.below hb,h.o2.below hb,h.nn⟩
end
/- Contract of the reference's Line. -/
/- Contract of words.Line. -/
def lineC (l:List UInt8):List UInt8:=l.takeWhile fun c=>c != 10
theorem lineC_le (l:List UInt8):(lineC l).length≤l.length:=(List.takeWhile_sublist (fun c=>c != (10:UInt8)) (l:=l)).length_le
theorem index_line:∀ l:List UInt8,(Lib.indexByte l 10=-1∧lineC l=l)∨∃ i:Nat,Lib.indexByte l 10=i∧i<l.length∧lineC l=l.take i
 | []=>.inl ⟨rfl,rfl⟩
 | b::r=>by
  unfold Lib.indexByte
  by_cases h:b=10
  ·right
   refine ⟨0,by simp [h],by simp,?_⟩
   simp [lineC,h]
  ·have hb:(b==10)=false:=by simpa using h
   have hl:lineC (b::r)=b::lineC r:=by
    unfold lineC
    rw [List.takeWhile_cons,if_pos (by simpa using h)]
   rw [hb,hl]
   rcases index_line r with ⟨h1,h2⟩ | ⟨i,h1,h2,h3⟩
   ·left
    rw [h1,h2]
    simp
   ·right
    refine ⟨i+1,?_,by simp;omega,?_⟩
    ·rw [h1]
     have:((i:Int)==-1)=false:=by simp
     rw [this]
     simp
    ·rw [h3,List.take_succ_cons]
theorem lcut_any (l:List UInt8) (w:World) (hl:l.length≤1000000000000) :
  Calls Tryz.prog 186 #[.string (bs l),.string ⟨#[10]⟩] w fun e w'=>∃ x b,e=.returned (.tuple #[.string (bs (lineC l)),.string (bs x),.bool b])∧Below w.heap.size w w':=by
 have hsz:(bs l).size=l.length:=bs_size l
 go_enter Tryz.func186,Tryz.ntmps186
 go_wp2_with fail
 refine (Tryz.stringslite_Index_one (bs l) 10 w).mono ?_
 rintro e w1 ⟨rfl,rfl⟩
 rw [bs_data]
 rcases index_line l with ⟨h1,h2⟩ | ⟨i,h1,h2,h3⟩
 ·rw [h1]
  have H2:=hid h2
  clear h1 h2
  go_wp2_with fail
  go_ret3
  exact ⟨[],false,by rw [H2.out];rfl,Below.refl _ _⟩
 ·rw [h1]
  have H3:=hid h3
  clear h1 h3
  have hx:(bs l).extract 0 i=bs (l.take i):=bs_take l i
  have hx2:(bs l).extract (i+1) l.length=bs (l.drop (i+1)):=bs_drop l (i+1)
  go_wp2_with fail
  go_quiet (fail)
  go_wp2
  go_ret3
  exact ⟨l.drop (i+1),true,by rw [H3.out];rfl,below_drewN (Below.refl _ _) _⟩
theorem cut_any (l:List UInt8) (w:World) (hl:l.length≤1000000000000) :
  Calls Tryz.prog 181 #[.string (bs l),.string ⟨#[10]⟩] w fun e w'=>∃ x b,e=.returned (.tuple #[.string (bs (lineC l)),.string (bs x),.bool b])∧Below w.heap.size w w':=by
 go_enter Tryz.func181,Tryz.ntmps181
 go_wp2_with fail
 refine (lcut_any l w hl).mono ?_
 rintro e w1 ⟨x,b,rfl,hb1⟩
 go_wp2_with fail
 go_ret3
 exact ⟨x,b,rfl,hb1⟩
theorem line_any (l:List UInt8) (most:Int) (w:World) (hl:l.length≤1000000000000) (hm:InInt most) :
  Calls Tryz.prog 165 #[.string (bs l),.int .i64 most] w fun e w'=>e=.returned (.string (bs (lineF l most)))∧Below w.heap.size w w':=by
 have hm1:=hm.1
 have hm2:=hm.2
 clear hm
 have HD:Hid (lineF l most=(lineC l).take most.toNat):=hid rfl
 have hle:=lineC_le l
 go_enter Tryz.func165,Tryz.ntmps165
 go_wp2_with fail
 refine (cut_any l w hl).mono ?_
 rintro e w1 ⟨x,b,rfl,hb1⟩
 generalize lineC l=m at *
 have hsz:(bs m).size=m.length:=bs_size m
 go_wp2_with fail
 go_ret
 refine ⟨?_,hb1⟩
 rw [HD.out]
 show Ending.returned (.string ((bs m).extract 0 (min (m.length:Int) (max most 0)).toNat))=_
 rw [bs_take,show m.take (min (m.length:Int) (max most 0)).toNat=m.take most.toNat from ?_]
 by_cases h:most≤m.length
 ·congr 1;omega
 ·rw [List.take_of_length_le (by omega),List.take_of_length_le (by omega)]
/- Contract of words.Parts. -/
def strSz:Value→Nat
 | .string s=>s.size
 | _=>0
set_option maxRecDepth 100000 in
theorem parts_any (l:List UInt8) (size most:Int) (w:World) (hl:l.length≤1000000) (hs:InInt size) (hm:InInt most) :
  Calls Tryz.prog 138 #[.string (bs l),.int .i64 size,.int .i64 most] w fun x w'=>∃ A c,x=.returned (.slice A (partsF l size most).length c)∧OwnL w' w.heap.size 9 1 strE A c (partsF l size most)∧Below w.heap.size w w':=by
 have hs2:=hs.2
 have hm2:=hm.2
 by_cases h0:size<2
 ·have HD:Hid (partsF l size most=[]):=hid (by rw [partsF,if_pos (.inl h0)])
  go_enter Tryz.func138,Tryz.ntmps138
  go_wp2_with fail
  go_ret
  exact ⟨none,0,by rw [HD.out];rfl,by rw [HD.out];exact OwnL.nil_,Below.refl _ _⟩
 by_cases h1:most<1
 ·have HD:Hid (partsF l size most=[]):=hid (by rw [partsF,if_pos (.inr h1)])
  have d0:decide (size<2)=false:=by simpa using h0
  go_enter Tryz.func138,Tryz.ntmps138
  go_wp2_with fail
  go_ret
  exact ⟨none,0,by rw [HD.out];rfl,by rw [HD.out];exact OwnL.nil_,Below.refl _ _⟩
 have HD:Hid (partsF l size most=partsL size.toNat (most - 1).toNat l):=hid (by rw [partsF,if_neg (by omega)])
 obtain ⟨sz,rfl⟩:∃ n:Nat,size=n:=⟨size.toNat,by omega⟩
 obtain ⟨mo,hmo⟩:∃ n:Nat,most - 1=(n:Int):=⟨(most - 1).toNat,by omega⟩
 have e1:((sz:Int)).toNat=sz:=rfl
 have e2:(most - 1).toNat=mo:=by omega
 rw [e1,e2] at HD
 have HMo:=hid hmo
 have d8:decide ((sz:Int)<2)=false:=by simp;omega
 have d9:decide (most<1)=false:=by simp;omega
 have h1':1≤most:=by omega
 have hz2:2≤sz:=by omega
 have HS2:=hid hs2
 have HM2:=hid hm2
 clear e1 e2 hs hm hs2 hm2 hmo h0 h1
 go_enter Tryz.func138,Tryz.ntmps138
 go_wp2_with fail
 go_loopw [0,7] (fun t o wr=>∃ (s:List UInt8) (out:List (List UInt8)) (A:Option Addr) (c:Nat),t=.string (bs s)∧o=.slice A out.length c∧partsL sz mo l=out++partsL sz (mo - out.length) s∧out.length≤mo∧s.length+out.length≤l.length∧OwnL wr w.heap.size 9 1 strE A c out∧Below w.heap.size w wr) (fun t _ _=>strSz t)
 case atStart=>exact ⟨l,[],none,0,rfl,rfl,by simp,by simp,by simp,OwnL.nil_,Below.refl _ _⟩
 case round =>
  obtain ⟨s,out,A,c,rfl,rfl,heq,hmo3,hsl,hown,hb⟩:=hrel
  have HE:=hid heq
  have HO:=hid hown
  have HB:=hid hb
  have hsz:(bs s).size=s.length:=bs_size s
  have hs2:=HS2.out
  have hm2:=HM2.out
  clear heq hown hb
  by_cases g1:(sz:Int)<s.length
  ·have hmo2:=HMo.out
   by_cases g2:(out.length:Int)<most - 1
   ·have HSt:=hid (partsL_step (size:=sz) (n:=mo - out.length) (s:=s) (by omega) (by omega))
    have hx1:(bs s).extract 0 sz=bs (s.take sz):=bs_take s sz
    have hx2:(bs s).extract sz s.length=bs (s.drop sz):=bs_drop s sz
    have d1:decide ((sz:Int)<s.length)=true:=by simp;omega
    have d2:decide ((out.length:Int)<most - 1)=true:=by simp;omega
    clear hmo2
    go_wp2_with (first
     | (at_builtin;refine wp_append_l rfl (.tmp 25) (.tmp 29) rfl slStr strLay w.heap.size (xs:=out) (ys:=[s.take sz]) rfl rfl (HO.out.alloc _) rfl rfl (RdL.one wr (s.take sz) _ _ rfl _ rfl) (by simp;omega) (by have:=HB.out.size;simp;omega) ?_;intro A3 c3 w6 hown3 hg3 hb3 hat3;have HO3:=hid hown3;have HB3:=hid (((Below.refl w.heap.size wr).alloc HB.out.size _).trans hb3);clear hown3 hg3 hb3 hat3)
     | fail)
    go_roundw
    case rel=>exact ⟨s.drop sz,out++[s.take sz],A3,c3,rfl,by simp,by rw [HE.out,HSt.out,List.append_assoc];simp [Nat.sub_sub],by have:=HMo.out;simp;omega,by simp;omega,HO3.out,HB.out.trans HB3.out⟩
    case measure=>simp [strSz,bs_size];omega
   ·have HEn:=hid (partsL_end (size:=sz) (n:=mo - out.length) (s:=s) (by omega))
    have HFt:Hid (fitW sz s=s.take (sz - 1)++[43]):=hid (by rw [fitW,if_pos (by omega)])
    have hx3:(bs s).extract 0 (sz - 1)=bs (s.take (sz - 1)):=bs_take s (sz - 1)
    have d1:decide ((sz:Int)<s.length)=true:=by simp;omega
    have d2:decide ((out.length:Int)<most - 1)=false:=by simp;omega
    clear hmo2
    have hlt:(s.take (sz - 1)).length≤1000000:=by simp;omega
    go_wp2_with (first
     | ((with_reducible show wpList _ _ _ (Oper.mk _ (Op.binOp .add 9 _ _ _) _ _ _ _::_) _ _);refine wp_cat rfl rfl Tryz.underlying9 rfl rfl (by first | omega | (simp;done) | (simp;omega)) ?_)
     | (at_builtin;refine wp_append_l rfl (.tmp 43) (.tmp 45) rfl slStr strLay w.heap.size (xs:=out) (ys:=[s.take (sz - 1)++[43]]) rfl rfl (HO.out.alloc _) rfl rfl (RdL.one (enc:=strE) wr (s.take (sz - 1)++[43]) _ _ rfl _ rfl) (by simp;omega) (by have:=HB.out.size;simp;omega) ?_;intro A3 c3 w6 hown3 hg3 hb3 hat3;have HO3:=hid hown3;have HB3:=hid (((Below.refl w.heap.size wr).alloc HB.out.size _).trans hb3);clear hown3 hg3 hb3 hat3)
     | fail)
    go_ret
    have hfin:partsF l sz most=out++[s.take (sz - 1)++[43]]:=by rw [HD.out,HE.out,HEn.out,HFt.out]
    exact ⟨A3,c3,by rw [hfin];simp,by rw [hfin];exact HO3.out,HB.out.trans HB3.out⟩
  ·have HEn:=hid (partsL_end (size:=sz) (n:=mo - out.length) (s:=s) (by omega))
   have HFt:Hid (fitW sz s=s):=hid (by rw [fitW,if_neg (by omega)])
   have d1:decide ((sz:Int)<s.length)=false:=by simp;omega
   go_wp2_with (first
    | (at_builtin;refine wp_append_l rfl (.tmp 43) (.tmp 45) rfl slStr strLay w.heap.size (xs:=out) (ys:=[s]) rfl rfl (HO.out.alloc _) rfl rfl (RdL.one wr s _ _ rfl _ rfl) (by simp;omega) (by have:=HB.out.size;simp;omega) ?_;intro A3 c3 w6 hown3 hg3 hb3 hat3;have HO3:=hid hown3;have HB3:=hid (((Below.refl w.heap.size wr).alloc HB.out.size _).trans hb3);clear hown3 hg3 hb3 hat3)
    | fail)
   go_ret
   have hfin:partsF l sz most=out++[s]:=by rw [HD.out,HE.out,HEn.out,HFt.out]
   exact ⟨A3,c3,by rw [hfin];simp,by rw [hfin];exact HO3.out,HB.out.trans HB3.out⟩
end Go.Proofs.YtlnnjdibkbabiaaGreatDoor
