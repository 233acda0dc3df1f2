/- Contracts and plain laws, joined: FoI, FoJ, FoK, FoL. -/
import Derived.Test.YtlnnjdibkbabiaaGreatDoorQbs
import Derived.Test.YtlnnjdibkbabiaaGreatDoorQau
import Derived.Test.YtlnnjdibkbabiaaGreatDoorQal
import Derived.Test.YtlnnjdibkbabiaaGreatDoorQaf
import Derived.Test.YtlnnjdibkbabiaaGreatDoorQah
import Derived.Test.YtlnnjdibkbabiaaGreatDoorQax
/- Contract of each of package forth (layer 21). -/
set_option linter.unusedSimpArgs false
set_option linter.unusedVariables false
namespace Go.Proofs.YtlnnjdibkbabiaaGreatDoor
set_option maxHeartbeats 4000000
open _root_.Go.Lib (hid)
open Go.RowKit
set_option maxRecDepth 100000
section
variable {P:Program} {w:World} {T:Type} {enc:T→List Value} {e:TypeId}
theorem wp_copy_front {ops:Array Oper} {rest:List Oper} {o:Oper} {a:Act} {Q:Exit→Act→World→Prop} (hgd:o.guard=none) (d s:Operand) (dT sT:TypeId)
  (ho:o.op=.call {callee:=.builtin .copy,args:=#[d,s],argTypes:=#[dT,sT]}) (elem:TypeId) (hu:P.underlying dT=some (.slice elem)) (hsz:(P.info? elem).map (·.size)=some 1)
  (L:Lay 1 enc) (h1:∀ x:T,∀ v∈enc x,v.oneCell'=true) {xs ys:List T} {A:Option Addr} {c g n:Nat} (hd:a.eval d=.slice (some ⟨g,0,none⟩) n n) (hn:n=ys.length) (hle:xs.length≤n) (hs:a.eval s=.slice A xs.length c)
  (hg:w.heap[g]?=some (.cells (ys.flatMap enc).toArray e (0,0))) {B:Nat} (hr:RdL 1 enc w B A xs) {w0:World} {b:Nat} (hb:Below b w0 w) (hbg:b≤g)
  (h:∀ w',w'.heap[g]?=some (.cells ((xs++ys.drop xs.length).flatMap enc).toArray e (0,0))→Below b w0 w'→wpList P ops Q rest (a.put o.dst (goInt xs.length)) w'):wpList P ops Q (o::rest) a w:=by
 subst hn
 have hf:=flat_len L xs
 have hy:=flat_len L ys
 refine wpList_copy_splice hgd d s dT sT ho elem hu hsz _ A ys.length ys.length xs.length c hd hs g 0 (ys.flatMap enc) e hg (xs.flatMap enc) (by rw [hf];show xs.length * 1=min _ _;omega) (fun hp=>⟨rfl,?_⟩) (by omega) (fun v hv=>?_) b w0 hb hbg (fun w' hw hb'=>?_)
 ·have h0:0<xs.length:=by omega
  obtain ⟨b,off,rfl,_,_⟩:=hr.at_ h0
  refine ⟨_,rfl,fun j v hj=>?_⟩
  obtain ⟨k,j',x,hm,hx,hv⟩:=flat_at L xs j v hj
  obtain ⟨b2,off2,e2,_,hcell⟩:=hr.at_ (List.getElem?_eq_some_iff.1 hx).1
  cases e2
  have hx2:=(List.getElem?_eq_some_iff.1 hx).2
  rw [hx2] at hcell
  have:=hcell j' v hv
  rw [hm]
  simp only [Addr.add,Nat.mul_one] at this ⊢
  simp only [Nat.add_assoc] at this
  simp
  split
  ·rename_i h
   simpa [h.1,h.2] using this
  ·exact this
 ·obtain ⟨x,_,hx⟩:=List.mem_flatMap.1 hv
  exact h1 x v hx
 ·rw [hf,Nat.mul_one]
  refine h w' ?_ hb'
  have:=hw.out
  have e2:splice (ys.flatMap enc) 0 (xs.flatMap enc)=(xs++ys.drop xs.length).flatMap enc:=by
   unfold splice
   rw [List.take_zero,List.nil_append,Nat.zero_add,List.flatMap_append,hf,Nat.mul_one]
   congr 1
   have h3:∀ (zs:List T) (m:Nat),(zs.flatMap enc).drop m=(zs.drop m).flatMap enc:=by
    intro zs
    induction zs with
    | nil=>intro m;simp
    | cons z r ih =>
     intro m
     cases m with
     | zero=>rfl
     | succ m =>
      rw [List.flatMap_cons,List.drop_succ_cons,← ih m]
      have:=L.len z
      cases hq:enc z with
      | nil=>rw [hq] at this;simp at this
      | cons u v =>
       rw [hq] at this
       have hv:v=[]:=List.eq_nil_of_length_eq_zero (by simpa using this)
       rw [hv]
       rfl
   exact h3 ys xs.length
  rwa [e2] at this
end
def aboutK (id kind on:Int) (ts:List (List UInt8)) (many k:Nat):List ItM:=(aboutP id kind on ts many).take k++(itemsP id kind (fillT many ts)).drop k
theorem aboutK_len (id kind on:Int) (ts:List (List UInt8)) (many k:Nat) (hk:k≤many):(aboutK id kind on ts many k).length=many:=by
 unfold aboutK
 rw [List.length_append,List.length_take,List.length_drop,aboutP_len,itemsP_len,fillT_len]
 omega
theorem aboutK_get {id kind on:Int} {ts:List (List UInt8)} {many k:Nat} (hk:k<many):∃ s,(aboutK id kind on ts many k)[k]?=some ⟨id,k,many,kind,-1,0,-1,-1,0,s,[]⟩∧aboutK id kind on ts many (k+1)=(aboutK id kind on ts many k).set k ⟨id,k,many,kind,on,k,-1,-1,0,s,[]⟩:=by
 have h1:k<(fillT many ts).length:=by rw [fillT_len];exact hk
 have ha:k<(aboutP id kind on ts many).length:=by rw [aboutP_len];exact hk
 have hi:k<(itemsP id kind (fillT many ts)).length:=by rw [itemsP_len,fillT_len];exact hk
 have ht:((aboutP id kind on ts many).take k).length=k:=by rw [List.length_take];omega
 have e1:(aboutP id kind on ts many)[k]=⟨id,k,many,kind,on,k,-1,-1,0,(fillT many ts)[k],[]⟩:=by simp [aboutP]
 have e2:(itemsP id kind (fillT many ts))[k]=⟨id,k,many,kind,-1,0,-1,-1,0,(fillT many ts)[k],[]⟩:=by simp [itemsP,fillT_len]
 refine ⟨(fillT many ts)[k],?_,?_⟩
 ·unfold aboutK
  rw [List.getElem?_append_right (by omega),ht,Nat.sub_self,List.getElem?_drop,Nat.add_zero,List.getElem?_eq_getElem hi,e2]
 ·unfold aboutK
  rw [List.set_append_right _ _ (by omega),ht,Nat.sub_self,List.take_succ_eq_append_getElem ha,List.drop_eq_getElem_cons hi,List.set_cons_zero,e1,List.append_assoc]
  rfl
theorem fill_drop {many:Nat} {ts:List (List UInt8)} (h:ts.length≤many):ts++(List.replicate many ([]:List UInt8)).drop ts.length=fillT many ts:=by
 unfold fillT
 rw [List.take_of_length_le h,List.drop_replicate]
theorem rep_flat (n:Nat):((List.replicate n ([]:List UInt8)).flatMap strE).toArray=Array.replicate n (.string ByteArray.empty):=by
 have:(List.replicate n ([]:List UInt8)).flatMap strE=List.replicate n (.string ByteArray.empty):=by
  induction n with
  | zero=>rfl
  | succ n ih=>rw [List.replicate_succ,List.flatMap_cons,ih,List.replicate_succ];rfl
 rw [this]
 simp
theorem foEach_any {B:Nat} (N:NetL) (k:Nat) (hk:k<N.E.length) (kind:Int) (ts:List (List UInt8)) (A:Option Addr) (n c:Nat) (w:World) (hV:Vs B w) (h:NetOk w N) (hn:n=ts.length) (hr:RdL 1 strE w w.heap.size A ts) (hm:msgB (evsL N.E) (evAt (evsL N.E) k).target k=true)
  (hle:ts.length≤manyP N.p N.W (evsL N.E) N.B k) :
  Calls Tryz.prog 137 #[N.v,.int .i64 k,.int .i64 kind,.slice A n c] w (ItsB (aboutP k kind (evAt (evsL N.E) k).target ts (manyP N.p N.W (evsL N.E) N.B k)) w):=by
 subst hn
 have hma:=msgB_at hm
 have he:=ev_at hk
 rw [he] at hma hm ⊢
 have HMd:Hid (manyP N.p N.W (evsL N.E) N.B k=(firstP N.p N.W (evsL N.E) N.B N.E[k].ev.target.toNat).length):=hid (by unfold manyP;rw [he])
 have hmpos:0<manyP N.p N.W (evsL N.E) N.B k:=manyP_pos (by have:=check_bounds N.p h.ck;omega) (by have:=check_bounds N.p h.ck;omega)
 have hmle:((manyP N.p N.W (evsL N.E) N.B k:Nat):Int)≤20:=by
  have h1:=check_bounds N.p h.ck
  have h2:=partsF_le (s:=sayP N.p N.W (evsL N.E) N.B (evAt (evsL N.E) k).target.toNat (tx (evAt (evsL N.E) (evAt (evsL N.E) k).target.toNat)) (evAt (evsL N.E) (evAt (evsL N.E) k).target.toNat).files) (size:=N.p.size) (most:=N.p.parts) (by omega)
  unfold manyP firstP
  rw [headM_len,itemsP_len]
  omega
 generalize manyP N.p N.W (evsL N.E) N.B k=many at *
 obtain ⟨ti,hti⟩:∃ t,t=N.E[k].ev.target:=⟨_,rfl⟩
 obtain ⟨j,hj⟩:∃ j:Nat,ti=j:=⟨ti.toNat,by rw [← hti] at hma;omega⟩
 have hjl:j<N.E.length:=by have:=hma.2.2.1;rw [← hti,hj] at this;simp at this;omega
 have HV:=hid hV
 have HR:=hid hr
 have HN:=hid (NB.start h)
 obtain ⟨eg,eoff,hA,_,_,hcc,_⟩:=HN.out.ev hk
 have z5:=hcc 5 (.int .i64 j) (by rw [← hj,hti];rfl)
 have z23:=HN.out.cell 23 (.slice N.eA N.E.length N.ec) rfl
 rw [hA] at z23
 rw [← hti,hj,Int.toNat_natCast] at HMd
 rw [← hti,hj]
 clear hcc hA he hma hm hti hj h hr hV
 have HFs:=hid (foFirst_any N j hjl (w.alloc (.cells N.cs 86)) (HV.out.now HN.out.hb) HN.out.ok)
 rw [← HMd.out] at HFs
 go_enter Tryz.func137,Tryz.ntmps137
 have HRg:=hid HN.out.rng
 go_wp2_with (first
  | ((with_reducible show wpList _ _ _ (Oper.mk _ (Op.load 86 _) _ _ _ _::_) _ _);refine wpList_load_g rfl 86 (.tmp 4) rfl _ 0 rfl (NetL.cs N).toList _ (HRg.out) Tryz.underlying86 rfl (by kernel_rfl) ?_)
  | fail)
 refine HFs.out.mono ?_
 rintro e w1 ⟨g1,c1,xs1,rfl,-,hb1⟩
 obtain ⟨inf,hi,h0,h1,h2⟩:=info_parts (show (Tryz.prog.info? 9).map (fun i=>(i.zero,i.size,i.bytes))=some (some (.string ByteArray.empty),1,16) by kernel_rfl)
 have HI:=hid (And.intro hi (And.intro h0 (And.intro h1 h2)))
 have HSz:Hid ((Tryz.prog.info? 9).map (·.size)=some 1):=hid (by kernel_rfl)
 have HW1:Hid (Below w.heap.size w w1):=hid (HN.out.hb.trans (hb1.mono HN.out.hb.size))
 have HR:=hid (HR.out.now HW1.out)
 clear hi h0 h1 h2 hb1 z23 z5 HRg HFs HV
 have hle2:(ts.length:Int)≤many:=by omega
 go_wp2_with (first
  | (refine wp_make_1 rfl _ _ rfl Tryz.underlying22 HI.out.1 HI.out.2.1 HI.out.2.2.1 (by rw [HI.out.2.2.2];decide) rfl (n:=many) rfl rfl (by omega) ?_)
  | (refine wp_copy_front rfl (.tmp 26) (.tmp 27) 22 22 rfl 9 Tryz.underlying22 HSz.out strLay (by simp [strE,Value.oneCell']) (ys:=List.replicate many []) (xs:=ts) rfl (by simp) hle rfl (by rw [rep_flat];exact heap_alloc_new _ _) ((HR.out.now ((Below.refl _ _).alloc (Nat.le_refl _) _))) (((Below.refl w1.heap.size w1).alloc (Nat.le_refl _) _)) (Nat.le_refl _) ?_;intro w2 hg hb;have HG:=hid hg;have HB2:=hid hb;clear hg hb)
  | fail)
 rw [fill_drop hle] at HG
 have hmx:(1000:Nat)≤maxLen:=by decide
 have hfm:(fillT many ts).length≤maxLen:=by rw [fillT_len];omega
 have HFl0:=OwnL.of_block (base:=w1.heap.size) strLay HG.out (Nat.le_refl _) hfm
 have HFl:=hid HFl0
 clear HFl0 hfm hmx
 have HIt:=hid (foItems_any k kind (fillT many ts) (some ⟨w1.heap.size,0,none⟩) many many w2 (fillT_len _ _).symm (HFl.out.rd strLay) (by rw [fillT_len];omega))
 refine HIt.out.mono ?_
 rintro e w3 ⟨A2,c2,rfl,ho,hb3⟩
 have HIl:Hid ((itemsP k kind (fillT many ts)).length=many):=hid (by rw [itemsP_len,fillT_len])
 rw [HIl.out]
 obtain ⟨g,hg,hg1,hg2⟩:=ho.some_ (fun hq=>by have h9:=congrArg List.length hq;rw [List.length_map,HIl.out] at h9;simp at h9;omega)
 subst hg
 have HW3:=hid (HW1.out.trans ((HB2.out.trans (hb3.mono HB2.out.size)).mono HW1.out.size))
 have HSg:Hid (w.heap.size≤w2.heap.size):=hid (Nat.le_trans HW1.out.size HB2.out.size)
 have HO:=hid ho
 have HGg:=hid hg1
 clear ho hb3 hg1 hg2 HIt HFl HG HR
 go_wp2_with fail
 go_loopw [13,35] (fun _ i wx=>∃ m:Nat,m≤many∧i=.int .i64 m∧OwnL wx w2.heap.size 46 11 ItL.cs (some ⟨g,0,none⟩) c2 ((aboutK k kind j ts many m).map mkIt)∧Below w.heap.size w wx) (fun _ i _=>many - (intOf i).toNat)
 case atStart=>exact ⟨0,Nat.zero_le _,rfl,by simpa [aboutK] using HO.out,HW3.out⟩
 case round =>
  obtain ⟨m,hm,rfl,hown,hbw⟩:=hrel
  have HO:=hid hown
  have HB:=hid hbw
  clear hown hbw
  have HAl:Hid (((aboutK k kind j ts many m).map mkIt).length=many):=hid (by rw [List.length_map];exact aboutK_len _ _ _ _ _ _ hm)
  by_cases hlt:m<many
  ·obtain ⟨s,hs1,hs2⟩:=aboutK_get (id:=k) (kind:=kind) (on:=j) (ts:=ts) hlt
   have hml:m<((aboutK k kind j ts many m).map mkIt).length:=by rw [HAl.out];exact hlt
   have hmg:((aboutK k kind j ts many m).map mkIt)[m]=mkIt ⟨k,m,many,kind,-1,0,-1,-1,0,s,[]⟩:=by
    have:=List.getElem?_eq_getElem hml
    rw [List.getElem?_map,hs1] at this
    exact (Option.some.inj this).symm
   have HS2:=hid hs2
   have z4:=HO.out.cellc layIt m 4 hml (.int .i64 (-1)) (by rw [hmg];rfl)
   have z5:=HO.out.cellc layIt m 5 hml (.int .i64 0) (by rw [hmg];rfl)
   have fz:=HO.out.freec
   have ho1:=HO.out.setc layIt m 4 hml (by decide) (.int .i64 j) (mkIt ⟨k,m,many,kind,j,0,-1,-1,0,s,[]⟩) (by rw [hmg];rfl)
   have ho2:=ho1.setc layIt m 5 (by rw [List.length_set];exact hml) (by decide) (.int .i64 m) (mkIt ⟨k,m,many,kind,j,m,-1,-1,0,s,[]⟩) (by rw [List.getElem_set_self];rfl)
   rw [List.set_set] at ho2
   have HO2:=hid ho2
   have HGw:Hid (w.heap.size≤g):=hid (Nat.le_trans HSg.out HGg.out)
   clear ho1 ho2 hmg hs1 hs2 hml
   go_wp2_with fail
   go_roundw
   case rel=>exact ⟨m+1,by omega,by go_num,by rw [HS2.out,List.map_set];exact HO2.out,(HB.out.setCell (p:=⟨g,m * 11+4,none⟩) HGw.out _).setCell (p:=⟨g,m * 11+5,none⟩) HGw.out _⟩
   case measure=>simp [intOf];omega
  ·have hme:m=many:=by omega
   have d1:decide (m<many)=false:=decide_eq_false (by omega)
   have HAe:Hid ((aboutK k kind j ts many m)=aboutP k kind j ts many):=hid (by
    unfold aboutK
    rw [hme,List.take_of_length_le (by rw [aboutP_len];exact Nat.le_refl _),List.drop_of_length_le (by rw [itemsP_len,fillT_len];exact Nat.le_refl _),List.append_nil])
   clear hme hlt
   go_wp2_with fail
   go_ret
   exact ⟨g,c2,by rw [aboutP_len];rfl,by have:=HO.out.mono HSg.out;rwa [HAe.out] at this,HB.out⟩
/- Contracts of react and remove of package forth (layer 21). -/
theorem itsB_out {L:List ItM} {w w':World} {e:Ending} (hf:∀ y∈L,y.files=[]) (h:ItsB L w e w'):ItsOut L w e w':=by
 obtain ⟨g,c,he,ho,hb⟩:=h
 refine ⟨some ⟨g,0,none⟩,c,L.map mkIt,he,⟨ho,?_,?_,?_⟩,hb⟩
 ·simp only [itsL,List.map_map]
  exact List.map_id L
 ·intro x hx
  obtain ⟨z,hz,rfl⟩:=List.mem_map.1 hx
  have hz2:=hf z hz
  refine ⟨?_,?_⟩
  ·show RdI _ _ none z.files
   rw [hz2]
   exact RdL.nil_
  ·show z.files.length≤0
   rw [hz2]
   exact Nat.le_refl 0
 ·intro x hx i hi
  obtain ⟨z,hz,rfl⟩:=List.mem_map.1 hx
  cases hi
theorem cell_set_other {w:World} {b g:Nat} (o:Nat) (v:Value) {j:Nat} (h:b≠g):(w.setCell ⟨g,o,none⟩ v).cell? ⟨b,j,none⟩=w.cell? ⟨b,j,none⟩:=by
 unfold World.cell?
 rw [heap_setCell_other w ⟨g,o,none⟩ b v h]
theorem postP_files {p:Prof} {id:Nat} {s:List UInt8} {on:Int}:∀ y∈postP p id s on,y.files=[]:=fun y hy=>by
 unfold postP at hy
 have hf:=itemsP_files (id:=id) (kind:=0) (ts:=partsF s p.size p.parts)
 cases hq:itemsP (id:Int) 0 (partsF s p.size p.parts) with
 | nil=>rw [hq] at hy;cases hy
 | cons a r =>
  rw [hq] at hy hf
  rcases List.mem_cons.1 hy with rfl | hy
  ·exact hf a (List.mem_cons_self ..)
  ·exact hf y (List.mem_cons_of_mem _ hy)
theorem aboutP_files {id kind on:Int} {ts:List (List UInt8)} {many:Nat}:∀ y∈aboutP id kind on ts many,y.files=[]:=fun y hy=>by
 unfold aboutP at hy
 rw [List.mem_mapIdx] at hy
 obtain ⟨i,hi,rfl⟩:=hy
 rfl
theorem foReact_any {B:Nat} (N:NetL) (k:Nat) (hk:k<N.E.length) (w:World) (hV:Vs B w) (h:NetOk w N) (hkd:(evAt (evsL N.E) k).kind=3∨(evAt (evsL N.E) k).kind=4) :
  Calls Tryz.prog 78 #[N.v,.int .i64 k] w (ItsOut (reactP N.p N.W (evsL N.E) k) w):=by
 have HV:=hid hV
 have HKd:=hid hkd
 clear hV hkd
 have hx:=List.getElem_mem hk
 have HK:Hid (evAt (evsL N.E) k=N.E[k].ev):=hid (ev_at hk)
 have HN0:=NB.start h
 obtain ⟨eg,eoff,hA,_,hrg,_,_⟩:=HN0.ev hk
 have z23:=HN0.cell 23 (.slice N.eA N.E.length N.ec) rfl
 rw [hA] at z23
 have HRg:=hid hrg
 clear hrg hA HN0
 generalize hxe:N.E[k]=x at *
 clear hxe
 have HF:=hid (FB.start h hx)
 go_enter Tryz.func78,Tryz.ntmps78
 go_upto_region 2 with (first
  | ((with_reducible show wpList _ _ _ (Oper.mk _ (Op.load 40 _) _ _ _ _::_) _ _);refine wpList_load_g rfl 40 _ rfl eg (eoff+k * 12) rfl (x.ev.cs x.cA x.cc x.fA x.fc).toList _ HRg.out Tryz.underlying40 rfl (by kernel_rfl) ?_)
  | fail)
 change Code.wp _ _ _ _ ((w.alloc (.cells N.cs 86)).alloc (.cells (x.ev.cs x.cA x.cc x.fA x.fc) 40))
 obtain ⟨b,hb⟩:∃ b,b=w.heap.size:=⟨_,rfl⟩
 rw [← hb] at HF ⊢
 clear z23 HRg hb
 generalize (w.alloc (.cells N.cs 86)).alloc (.cells (x.ev.cs x.cA x.cc x.fA x.fc) 40)=wr at *
 have HV:=hid (HV.out.now HF.out.n.hb)
 rw [HK.out] at HKd
 have hrn:=right_nums (HF.out.n.ok.rt x hx)
 have hin:InInt x.ev.n:=⟨by omega,by omega⟩
 have y8:=HF.out.cell 8 (.int .i64 x.ev.n) rfl
 have HTx:Hid (reactText x.ev=[114,101,97,99,116,105,111,110,32]++Lib.itoa x.ev.n++(if x.ev.kind=4 then [32,116,97,107,101,110,32,98,97,99,107] else [])):=hid rfl
 have hle:(Lib.itoa x.ev.n).length≤30:=by
  have:=encI_len x.ev.n hin
  unfold encI at this
  simp at this
  omega
 have HQ:Hid (reactP N.p N.W (evsL N.E) k=if sameW N.W 4=true then [⟨k,0,1,if x.ev.kind=4 then 4 else 3,x.ev.target,0,-1,-1,x.ev.n,[],[]⟩] else postP N.p k (reactText x.ev) (placeP N.p (evsL N.E) x.ev.target)):=hid (by unfold reactP;rw [HK.out])
 go_wp2_with fail
 refine (itoa_any x.ev.n _ HV.out hin).mono ?_
 rintro e w1 ⟨rfl,hb1⟩
 generalize Lib.itoa x.ev.n=d at *
 have HF1:=hid (HF.out.now hb1)
 clear HF HV y8 hb1 hrn
 have HF:=HF1
 clear HF1
 clear wr
 obtain ⟨wr,hwr⟩:∃ x,x=w1:=⟨_,rfl⟩
 subst hwr
 have y3:=HF.out.cell 3 (.int .i64 x.ev.kind) rfl
 go_upto_region 3 with (first
  | ((with_reducible show wpList _ _ _ (Oper.mk _ (Op.binOp .add 9 _ _ _) _ _ _ _::_) _ _);refine wp_cat rfl rfl Tryz.underlying9 rfl rfl (by first | omega | (simp;done) | (simp;omega)) ?_)
  | fail)
 go_upto_if 20 with fail
 go_cut [6,7] (fun a s wx=>a=.int .i64 (if x.ev.kind=4 then 4 else 3)∧s=.string (bs (reactText x.ev))∧wx=wr)
 case first=>as_aux_lemma =>
  by_cases h4:x.ev.kind=4
  ·have HR2:Hid (reactText x.ev=[114,101,97,99,116,105,111,110,32]++d++[32,116,97,107,101,110,32,98,97,99,107]):=hid (by rw [HTx.out,if_pos h4])
   have h4b:(x.ev.kind==4)=true:=by simpa using h4
   go_wp2_with (first
    | ((with_reducible show wpList _ _ _ (Oper.mk _ (Op.binOp .add 9 _ _ _) _ _ _ _::_) _ _);refine wp_cat rfl rfl Tryz.underlying9 rfl rfl (by first | omega | (simp;done) | (simp;omega)) ?_)
    | fail)
   go_meet
   exact ⟨by rw [if_pos h4],by rw [HR2.out];simp,rfl⟩
  ·have HR2:Hid (reactText x.ev=[114,101,97,99,116,105,111,110,32]++d):=hid (by rw [HTx.out,if_neg h4,List.append_nil])
   have h4b:(x.ev.kind==4)=false:=by simpa using h4
   go_wp2_with fail
   go_meet
   exact ⟨by rw [if_neg h4],by rw [HR2.out];simp,rfl⟩
 case rest =>
  obtain ⟨rfl,rfl,rfl⟩:=hcut
  have hTl:(reactText x.ev).length≤60:=by
   rw [HTx.out]
   simp only [List.length_append]
   split <;> simp <;> omega
  clear HTx y3 hle hin
  obtain ⟨rt,hrt⟩:∃ r,reactText x.ev=r:=⟨_,rfl⟩
  obtain ⟨kv,hkv⟩:∃ r,(if x.ev.kind=4 then (4:Int) else 3)=r:=⟨_,rfl⟩
  rw [hrt,hkv] at HQ ⊢
  rw [hrt] at hTl
  clear hrt hkv
  obtain ⟨wr,hwr⟩:∃ x,x=wc:=⟨_,rfl⟩
  subst hwr
  cases hs:sameW N.W 4
  ·have HQ2:Hid (reactP N.p N.W (evsL N.E) k=postP N.p k rt (placeP N.p (evsL N.E) x.ev.target)):=hid (by rw [HQ.out,hs];rfl)
   go_wp2_with (first
    | ((with_reducible show wpList _ _ _ (Oper.mk _ (Op.load 86 _) _ _ _ _::_) _ _);refine wpList_load_g rfl 86 (.tmp 2) rfl _ 0 rfl (NetL.cs N).toList _ (HF.out.n.rng) Tryz.underlying86 rfl (by kernel_rfl) ?_)
    | fail)
   refine (foSame_any N 4 (by decide) _ HF.out.n.ok).mono ?_
   rw [hs]
   rintro e w1 ⟨rfl,hb1⟩
   have HF1:=hid (HF.out.now hb1)
   clear HF hb1 HQ hs
   have HF:=HF1
   clear HF1
   clear wr
   obtain ⟨wr,hwr⟩:∃ x,x=w1:=⟨_,rfl⟩
   subst hwr
   have HPl:Hid (∀ wq,Below wr.heap.size wr wq→Calls Tryz.prog 130 #[N.v,.int .i64 x.ev.target] wq fun e w'=>e=.returned (.int .i64 (placeP N.p (evsL N.E) x.ev.target))∧Below wq.heap.size wq w'):=hid (fun wq hq=>foPlace_any N x.ev.target wq (HF.out.now hq).n.ok)
   generalize placeP N.p (evsL N.E) x.ev.target=pl at *
   have HPo:Hid (∀ wq,Below wr.heap.size wr wq→Calls Tryz.prog 131 #[N.v,.int .i64 k,.string (bs rt),.int .i64 pl] wq (ItsB (postP N.p k rt pl) wq)):=hid (fun wq hq=>foPost_any N k rt pl wq (HF.out.now hq).n.ok (by omega))
   go_upto_region 6 with fail
   refine wp_region_below [(6,fun _=>.int .i64 pl,fun (_:Option Addr × Nat) _=>True),(7,fun g=>.slice g.1 (postP N.p k rt pl).length g.2,fun g w'=>ItsG wr.heap.size (postP N.p k rt pl) g w')] (by kernel_rfl) (by kernel_rfl) (by repeat (first | exact trivial | refine ⟨fun g wa wb hs hs' ht h=>by first | exact trivial | exact h.now ht | exact h.below ht | exact ht.cell h | exact h,?_⟩)) ?_
   rw [List.toList_toArray]
   refine DetE.load (by rfl) (by rfl) 86 _ rfl b 0 rfl (NetL.cs N).toList _ (fun wq hSq _=>(HF.out.now hSq).n.rng) Tryz.underlying86 rfl (by kernel_rfl) ?_
   simp only [Act.put,sA,sB,sC]
   repeat (first
    | (refine DetE.skip (by rfl) ?_;simp only [Act.put,sA,sB,sC])
    | (refine DetE.read (v:=?_) (by rfl) (by rfl) ?_ ?_;rotate_left;(· (intro wq hSq hkq;skip;go_simp;try with_reducible rfl));simp only [Act.put,sA,sB,sC])
    | fail)
   refine DetE.load (by rfl) (by rfl) 86 _ rfl b 0 rfl (NetL.cs N).toList _ (fun wq hSq _=>(HF.out.now hSq).n.rng) Tryz.underlying86 rfl (by kernel_rfl) ?_
   simp only [Act.put,sA,sB,sC]
   repeat (first
    | (refine DetE.skip (by rfl) ?_;simp only [Act.put,sA,sB,sC])
    | (refine DetE.read (v:=?_) (by rfl) (by rfl) ?_ ?_;rotate_left;(· (intro wq hSq hkq;have y5:=(HF.out.now hSq).cell 5 (.int .i64 x.ev.target) rfl;go_simp;try with_reducible rfl));simp only [Act.put,sA,sB,sC])
    | fail)
   refine DetE.eff _ _ (by rfl) (by rfl) (fun wq hSq hkq K hK=>?_) (fun g1=>?_)
   ·go_simp
    refine (HPl.out wq hSq).mono ?_
    rintro e4 w4 ⟨rfl,hb4⟩
    go_wp2_with fail
    exact hK.out ((none,0)) _ (hSq.trans (hb4.mono hSq.size)) hb4 (trivial) _ rfl
   simp only [Act.put,sA,sB,sC]
   repeat (first
    | (refine DetE.skip (by rfl) ?_;simp only [Act.put,sA,sB,sC])
    | (refine DetE.read (v:=?_) (by rfl) (by rfl) ?_ ?_;rotate_left;(· (intro wq hSq hkq;skip;go_simp;try with_reducible rfl));simp only [Act.put,sA,sB,sC])
    | fail)
   refine DetE.eff _ _ (by rfl) (by rfl) (fun wq hSq hkq K hK=>?_) (fun g2=>?_)
   ·go_simp
    refine (HPo.out wq hSq).mono ?_
    rintro e4 w4 ⟨q4,c4,rfl,ho4,hb4⟩
    go_wp2_with fail
    exact hK.out ((some ⟨q4,0,none⟩,c4)) _ (hSq.trans (hb4.mono hSq.size)) hb4 (⟨q4,rfl,ho4.mono hSq.size⟩) _ rfl
   simp only [Act.put,sA,sB,sC]
   repeat (first
    | (refine DetE.skip (by rfl) ?_;simp only [Act.put,sA,sB,sC])
    | (refine DetE.read (v:=?_) (by rfl) (by rfl) ?_ ?_;rotate_left;(· (intro wq hSq hkq;skip;go_simp;try with_reducible rfl));simp only [Act.put,sA,sB,sC])
    | fail)
   refine DetE.done fun wz hz hkz=>?_
   obtain ⟨q,hq1,ho⟩:=hkz 7 _ rfl
   obtain ⟨gA,gc⟩:=g2
   simp only at hq1 ho
   subst hq1
   have HO:=hid (ho.mono HF.out.n.hb.size)
   have HB:=hid (HF.out.n.hb.trans (hz.mono HF.out.n.hb.size))
   clear hkz hz ho HPl HPo HF
   go_wp2_with fail
   go_ret
   exact itsB_out (by rw [HQ2.out];exact postP_files) ⟨q,gc,by rw [HQ2.out];rfl,by rw [HQ2.out];exact HO.out,HB.out⟩
  ·have HQ2:Hid (reactP N.p N.W (evsL N.E) k=[⟨k,0,1,kv,x.ev.target,0,-1,-1,x.ev.n,[],[]⟩]):=hid (by rw [HQ.out,hs];rfl)
   go_wp2_with (first
    | ((with_reducible show wpList _ _ _ (Oper.mk _ (Op.load 86 _) _ _ _ _::_) _ _);refine wpList_load_g rfl 86 (.tmp 2) rfl _ 0 rfl (NetL.cs N).toList _ (HF.out.n.rng) Tryz.underlying86 rfl (by kernel_rfl) ?_)
    | fail)
   refine (foSame_any N 4 (by decide) _ HF.out.n.ok).mono ?_
   rw [hs]
   rintro e w1 ⟨rfl,hb1⟩
   have HF1:=hid (HF.out.now hb1)
   clear HF hb1 HQ hs
   have HF:=HF1
   clear HF1
   clear wr
   obtain ⟨wr,hwr⟩:∃ x,x=w1:=⟨_,rfl⟩
   subst hwr
   have hba:Below wr.heap.size wr (wr.alloc (.cells #[.string ⟨#[]⟩] 9)):=(Below.refl _ _).alloc (Nat.le_refl _) _
   have HIt:=hid (foItems_any k kv [[]] (some ⟨wr.heap.size,0,none⟩) 1 1 (wr.alloc (.cells #[.string ⟨#[]⟩] 9)) rfl ((RdL.one (enc:=strE) wr ([]:List UInt8) #[.string ⟨#[]⟩] 9 rfl _ rfl).more (by simp)) (by simp))
   have HBa:=hid hba
   clear hba
   go_wp2_with fail
   refine HIt.out.mono ?_
   rintro e w2 ⟨A2,c2,rfl,ho,hb2⟩
   have hl1:(itemsP (k:Int) kv [[]])=[itemAt k kv [[]] 0 []]:=rfl
   rw [hl1] at ho ⊢
   obtain ⟨g,hg,hg1,hg2⟩:=ho.some_ (by simp)
   subst hg
   have HFB:=HF
   have HB:=hid (HBa.out.trans (hb2.mono HBa.out.size))
   have HF:=hid (HFB.out.now HB.out)
   have z4:=ho.cellc layIt 0 4 (by simp) (.int .i64 (-1)) rfl
   have z8:=ho.cellc layIt 0 8 (by simp) (.int .i64 0) rfl
   have fz:=ho.freec
   have ho1:=ho.setc layIt 0 4 (by simp) (by decide) (.int .i64 x.ev.target) (mkIt ⟨k,0,1,kv,x.ev.target,0,-1,-1,0,[],[]⟩) rfl
   have ho2:=ho1.setc layIt 0 8 (by simp) (by decide) (.int .i64 x.ev.n) (mkIt ⟨k,0,1,kv,x.ev.target,0,-1,-1,x.ev.n,[],[]⟩) rfl
   have HO2:=hid ho2
   have HGr:Hid (wr.heap.size≤g):=hid (by have:=HBa.out.size;omega)
   have y5:=HF.out.cell 5 (.int .i64 x.ev.target) rfl
   have y8:=HF.out.cell 8 (.int .i64 x.ev.n) rfl
   have hgb:b+1≠g:=by have h1:=box_lt HFB.out.e;have h2:=HGr.out;omega
   clear ho ho1 ho2 hl1 HIt hg1 hg2 hb2
   go_upto_region 8 with fail
   refine wp_region_J (S:=fun w'=>w'.cell? ⟨b+1,5,none⟩=some (.int .i64 x.ev.target)∧w'.cell? ⟨b+1,8,none⟩=some (.int .i64 x.ev.n)) (fun i=>[11].contains i) (by kernel_rfl) (⟨y5,y8⟩) (fun hHeld=>?_)
   refine wpAnyJ_pure (i:=0) (v:=?_) rfl (by kernel_rfl) (by kernel_rfl) (by kernel_rfl) (fun _ _ _ h=>h) (Or.inl ⟨by rfl,?_⟩) ?_
   rotate_left
   ·intro wq _
    go_simp
    try with_reducible rfl
   simp only [Act.put,sA,sB,sC]
   refine wpAnyJ_pure (i:=1) (v:=?_) rfl (by kernel_rfl) (by kernel_rfl) (by kernel_rfl) (fun _ _ _ h=>h) (Or.inl ⟨by rfl,?_⟩) ?_
   rotate_left
   ·intro wq _
    go_simp
    try with_reducible rfl
   simp only [Act.put,sA,sB,sC]
   refine wpAnyJ_pure (i:=2) (v:=?_) rfl (by kernel_rfl) (by kernel_rfl) (by kernel_rfl) (fun _ _ _ h=>h) (Or.inl ⟨by rfl,?_⟩) ?_
   rotate_left
   ·intro wq _
    go_simp
    try with_reducible rfl
   simp only [Act.put,sA,sB,sC]
   refine wpAnyJ_take (i:=3) (v:=?_) rfl (by kernel_rfl) (by kernel_rfl) (by kernel_rfl) (by kernel_rfl) (fun _ _ _ h=>h) (Or.inl ⟨by rfl,?_⟩) hHeld ?_
   rotate_left
   ·intro wq hSq
    obtain ⟨h2,h3⟩:=hSq
    go_simp
    try with_reducible rfl
   simp only [Act.put,sA,sB,sC]
   refine wpAnyJ_pure (i:=4) (v:=?_) rfl (by kernel_rfl) (by kernel_rfl) (by kernel_rfl) (fun _ _ _ h=>h) (Or.inl ⟨by rfl,?_⟩) ?_
   rotate_left
   ·intro wq _
    go_simp
    try with_reducible rfl
   simp only [Act.put,sA,sB,sC]
   refine wpAnyJ_take (i:=5) (v:=?_) rfl (by kernel_rfl) (by kernel_rfl) (by kernel_rfl) (by kernel_rfl) (fun _ _ _ h=>h) (Or.inl ⟨by rfl,?_⟩) hHeld ?_
   rotate_left
   ·intro wq hSq
    obtain ⟨h2,h3⟩:=hSq
    go_simp
    try with_reducible rfl
   simp only [Act.put,sA,sB,sC]
   refine wpAnyJ_pure (i:=6) (v:=?_) rfl (by kernel_rfl) (by kernel_rfl) (by kernel_rfl) (fun _ _ _ h=>h) (Or.inl ⟨by rfl,?_⟩) ?_
   rotate_left
   ·intro wq _
    go_simp
    try with_reducible rfl
   simp only [Act.put,sA,sB,sC]
   refine wpAnyJ_pure (i:=7) (v:=?_) rfl (by kernel_rfl) (by kernel_rfl) (by kernel_rfl) (fun _ _ _ h=>h) (Or.inl ⟨by rfl,?_⟩) ?_
   rotate_left
   ·intro wq _
    go_simp
    try with_reducible rfl
   simp only [Act.put,sA,sB,sC]
   refine wpAnyJ_one (i:=8) rfl (by kernel_rfl) (fun K hK=>?_)
   go_simp
   refine hK.out _ _ (fun _ h=>⟨(cell_set_other _ _ hgb).trans h.1,(cell_set_other _ _ hgb).trans h.2⟩) ?_
   clear hK K
   refine wpAnyJ_pure (i:=9) (v:=?_) rfl (by kernel_rfl) (by kernel_rfl) (by kernel_rfl) (fun _ _ _ h=>h) (Or.inl ⟨by rfl,?_⟩) ?_
   rotate_left
   ·intro wq _
    go_simp
    try with_reducible rfl
   simp only [Act.put,sA,sB,sC]
   refine wpAnyJ_pure (i:=10) (v:=?_) rfl (by kernel_rfl) (by kernel_rfl) (by kernel_rfl) (fun _ _ _ h=>h) (Or.inl ⟨by rfl,?_⟩) ?_
   rotate_left
   ·intro wq _
    go_simp
    try with_reducible rfl
   simp only [Act.put,sA,sB,sC]
   refine wpAnyJ_one (i:=11) rfl (by kernel_rfl) (fun K hK=>?_)
   go_simp
   refine hK.out _ _ (fun h=>nomatch h) ?_
   clear hK K
   refine wpAnyJ_done (by kernel_rfl) ?_ _
   have HBf:=hid ((HB.out.setCell (p:=⟨g,4,none⟩) HGr.out (.int .i64 x.ev.target)).setCell (p:=⟨g,8,none⟩) HGr.out (.int .i64 x.ev.n))
   have HW0:=hid HFB.out.n.hb
   clear HF HFB hgb
   go_wp2_with fail
   go_ret
   have hsz:w.heap.size≤(wr.alloc (.cells #[.string ⟨#[]⟩] 9)).heap.size:=Nat.le_trans HW0.out.size HBa.out.size
   refine itsB_out (by rw [HQ2.out];intro y hy;rw [List.mem_singleton.1 hy]) ⟨g,c2,by rw [HQ2.out];rfl,?_,(HW0.out.trans (HBf.out.mono HW0.out.size)).drew⟩
   rw [HQ2.out]
   exact (HO2.out.mono hsz).drew
theorem foRemove_any {B:Nat} (N:NetL) (k:Nat) (hk:k<N.E.length) (w:World) (hV:Vs B w) (h:NetOk w N) (hm:msgB (evsL N.E) (evAt (evsL N.E) k).target k=true) :
  Calls Tryz.prog 77 #[N.v,.int .i64 k] w (ItsOut (removeP N.p N.W (evsL N.E) N.B k) w):=by
 have HV:=hid hV
 have HMg:=hid hm
 have HN:=NB.start h
 obtain ⟨g,off,hA,hz,hk3⟩:=way_at2 HN (c:=3) (by decide)
 have z22:=HN.cell 22 (.slice N.wA N.W.length N.wc) rfl
 rw [hA] at z22
 have HE0:=hid (ev_at hk)
 have hmp:0<manyP N.p N.W (evsL N.E) N.B k:=manyP_pos (by have:=check_bounds N.p h.ck;omega) (by have:=check_bounds N.p h.ck;omega)
 have HN:=hid HN
 have HQ:Hid (removeP N.p N.W (evsL N.E) N.B k=if (N.W.getD 3 (0,0)).1=0 then aboutP k 2 (evAt (evsL N.E) k).target [] (manyP N.p N.W (evsL N.E) N.B k) else if (N.W.getD 3 (0,0)).1=2 then aboutP k 1 (evAt (evsL N.E) k).target [[40,100,101,108,101,116,101,100,41]] (manyP N.p N.W (evsL N.E) N.B k) else postP N.p k sGone (placeP N.p (evsL N.E) (evAt (evsL N.E) k).target)):=hid rfl
 have HV1:=hid (HV.out.now HN.out.hb)
 have HMp:=hid hmp
 clear hA h hV hm HV hmp
 generalize (N.W.getD 3 (0,0)).1=hw at *
 go_enter Tryz.func77,Tryz.ntmps77
 go_upto_region 2 with fail
 obtain ⟨b,hb⟩:∃ b,b=w.heap.size:=⟨_,rfl⟩
 rw [← hb] at HN z22 ⊢
 clear hb
 obtain ⟨wr,hwr⟩:∃ x,x=w.alloc (.cells N.cs 86):=⟨_,rfl⟩
 rw [← hwr] at HV1 HN z22 hz ⊢
 clear hwr z22 hz
 by_cases h0:hw=0
 ·have HQ2:=hid (HQ.out.trans (if_pos h0))
  subst h0
  have HRg:=hid HN.out.rng
  have HEa:=hid (foEach_any N k hk 2 [] none 0 0 _ HV1.out HN.out.ok rfl RdL.nil_ HMg.out (Nat.zero_le _))
  go_wp2_with (first
   | ((with_reducible show wpList _ _ _ (Oper.mk _ (Op.load 86 _) _ _ _ _::_) _ _);refine wpList_load_g rfl 86 (.tmp 2) rfl _ 0 rfl (NetL.cs N).toList _ (HRg.out) Tryz.underlying86 rfl (by kernel_rfl) ?_)
   | fail)
  refine HEa.out.mono ?_
  rintro e w1 ⟨g1,c1,rfl,ho,hb1⟩
  have HO:=hid (ho.mono HN.out.hb.size)
  have HB:=hid (HN.out.hb.trans (hb1.mono HN.out.hb.size))
  clear ho hb1
  go_wp2_with fail
  go_ret
  exact itsB_out (by rw [HQ2.out];exact aboutP_files) ⟨g1,c1,by rw [HQ2.out];rfl,by rw [HQ2.out];exact HO.out,HB.out⟩
 by_cases h2:hw=2
 ·have HQ2:=hid ((HQ.out.trans (if_neg h0)).trans (if_pos h2))
  subst h2
  have HRg:=hid HN.out.rng
  have hba:Below wr.heap.size wr (wr.alloc (.cells #[.string ⟨#[40,100,101,108,101,116,101,100,41]⟩] 9)):=(Below.refl _ _).alloc (Nat.le_refl _) _
  have HEa:=hid (foEach_any N k hk 1 [[40,100,101,108,101,116,101,100,41]] (some ⟨wr.heap.size,0,none⟩) 1 1 _ (HV1.out.now hba) (HN.out.ok.now hba) rfl ((RdL.one (enc:=strE) wr ([40,100,101,108,101,116,101,100,41]:List UInt8) #[.string ⟨#[40,100,101,108,101,116,101,100,41]⟩] 9 rfl _ rfl).more (by simp)) HMg.out HMp.out)
  have HBa:=hid (HN.out.hb.trans (hba.mono HN.out.hb.size))
  clear hba
  go_wp2_with (first
   | ((with_reducible show wpList _ _ _ (Oper.mk _ (Op.load 86 _) _ _ _ _::_) _ _);refine wpList_load_g rfl 86 (.tmp 2) rfl _ 0 rfl (NetL.cs N).toList _ (HRg.out) Tryz.underlying86 rfl (by kernel_rfl) ?_)
   | fail)
  refine HEa.out.mono ?_
  rintro e w1 ⟨g1,c1,rfl,ho,hb1⟩
  have HO:=hid (ho.mono HBa.out.size)
  have HB:=hid (HBa.out.trans (hb1.mono HBa.out.size))
  clear ho hb1
  go_wp2_with fail
  go_ret
  exact itsB_out (by rw [HQ2.out];exact aboutP_files) ⟨g1,c1,by rw [HQ2.out];rfl,by rw [HQ2.out];exact HO.out,HB.out⟩
 ·have HQ2:=hid ((HQ.out.trans (if_neg h0)).trans (if_neg h2))
  obtain ⟨ti,hti⟩:∃ t,t=(evAt (evsL N.E) k).target:=⟨_,rfl⟩
  rw [← hti] at HQ2
  obtain ⟨eg,eo,hA,_,_,_,_⟩:=HN.out.ev hk
  have HE:Hid (∀ wq,Below wr.heap.size wr wq→wq.cell? ⟨eg,eo+k * 12+5,none⟩=some (.int .i64 ti)∧wq.cell? ⟨b,23,none⟩=some (.slice (some ⟨eg,eo,none⟩) N.E.length N.ec)):=hid (fun wq hq=>by
   obtain ⟨g,off,hA2,_,_,hc,_⟩:=(HN.out.now hq).ev hk
   have h23:=(HN.out.now hq).cell 23 (.slice N.eA N.E.length N.ec) rfl
   rw [hA] at hA2 h23
   injection hA2 with hA2
   injection hA2 with e1 e2
   subst e1 e2
   exact ⟨hc 5 _ (by rw [hti,HE0.out];rfl),h23⟩)
  clear hA hti
  have HPl:Hid (∀ wq,Below wr.heap.size wr wq→Calls Tryz.prog 130 #[N.v,.int .i64 ti] wq fun e w'=>e=.returned (.int .i64 (placeP N.p (evsL N.E) ti))∧Below wq.heap.size wq w'):=hid (fun wq hq=>foPlace_any N ti wq (HN.out.now hq).ok)
  generalize placeP N.p (evsL N.E) ti=pl at *
  have HPo:Hid (∀ wq,Below wr.heap.size wr wq→Calls Tryz.prog 131 #[N.v,.int .i64 k,.string ⟨#[97,32,109,101,115,115,97,103,101,32,119,97,115,32,100,101,108,101,116,101,100]⟩,.int .i64 pl] wq (ItsB (postP N.p k sGone pl) wq)):=hid (fun wq hq=>foPost_any N k sGone pl wq (HN.out.now hq).ok (by decide))
  have b0:(hw==0)=false:=by simpa using h0
  have b2:(hw==2)=false:=by simpa using h2
  clear h0 h2 HQ
  go_upto_region 6 with fail
  refine wp_region_below [(9,fun _=>.int .i64 pl,fun (_:Option Addr × Nat) _=>True),(10,fun g=>.slice g.1 (postP N.p k sGone pl).length g.2,fun g w'=>ItsG wr.heap.size (postP N.p k sGone pl) g w')] (by kernel_rfl) (by kernel_rfl) (by repeat (first | exact trivial | refine ⟨fun g wa wb hs hs' ht h=>by first | exact trivial | exact h.now ht | exact h.below ht | exact ht.cell h | exact h,?_⟩)) ?_
  rw [List.toList_toArray]
  refine DetE.load (by rfl) (by rfl) 86 _ rfl b 0 rfl (NetL.cs N).toList _ (fun wq hSq _=>(HN.out.now hSq).rng) Tryz.underlying86 rfl (by kernel_rfl) ?_
  simp only [Act.put,sA,sB,sC]
  repeat (first
   | (refine DetE.skip (by rfl) ?_;simp only [Act.put,sA,sB,sC])
   | (refine DetE.read (v:=?_) (by rfl) (by rfl) ?_ ?_;rotate_left;(· (intro wq hSq hkq;skip;go_simp;try with_reducible rfl));simp only [Act.put,sA,sB,sC])
   | fail)
  refine DetE.load (by rfl) (by rfl) 86 _ rfl b 0 rfl (NetL.cs N).toList _ (fun wq hSq _=>(HN.out.now hSq).rng) Tryz.underlying86 rfl (by kernel_rfl) ?_
  simp only [Act.put,sA,sB,sC]
  repeat (first
   | (refine DetE.skip (by rfl) ?_;simp only [Act.put,sA,sB,sC])
   | (refine DetE.read (v:=?_) (by rfl) (by rfl) ?_ ?_;rotate_left;(· (intro wq hSq hkq;obtain ⟨h5,h23⟩:=HE.out wq hSq;go_simp;try with_reducible rfl));simp only [Act.put,sA,sB,sC])
   | fail)
  refine DetE.eff _ _ (by rfl) (by rfl) (fun wq hSq hkq K hK=>?_) (fun g1=>?_)
  ·go_simp
   refine (HPl.out wq hSq).mono ?_
   rintro e4 w4 ⟨rfl,hb4⟩
   go_wp2_with fail
   exact hK.out ((none,0)) _ (hSq.trans (hb4.mono hSq.size)) hb4 (trivial) _ rfl
  simp only [Act.put,sA,sB,sC]
  repeat (first
   | (refine DetE.skip (by rfl) ?_;simp only [Act.put,sA,sB,sC])
   | (refine DetE.read (v:=?_) (by rfl) (by rfl) ?_ ?_;rotate_left;(· (intro wq hSq hkq;skip;go_simp;try with_reducible rfl));simp only [Act.put,sA,sB,sC])
   | fail)
  refine DetE.eff _ _ (by rfl) (by rfl) (fun wq hSq hkq K hK=>?_) (fun g2=>?_)
  ·go_simp
   refine (HPo.out wq hSq).mono ?_
   rintro e4 w4 ⟨q4,c4,rfl,ho4,hb4⟩
   go_wp2_with fail
   exact hK.out ((some ⟨q4,0,none⟩,c4)) _ (hSq.trans (hb4.mono hSq.size)) hb4 (⟨q4,rfl,ho4.mono hSq.size⟩) _ rfl
  simp only [Act.put,sA,sB,sC]
  repeat (first
   | (refine DetE.skip (by rfl) ?_;simp only [Act.put,sA,sB,sC])
   | (refine DetE.read (v:=?_) (by rfl) (by rfl) ?_ ?_;rotate_left;(· (intro wq hSq hkq;skip;go_simp;try with_reducible rfl));simp only [Act.put,sA,sB,sC])
   | fail)
  refine DetE.done fun wz hz hkz=>?_
  obtain ⟨q,hq1,ho⟩:=hkz 10 _ rfl
  obtain ⟨gA,gc⟩:=g2
  simp only at hq1 ho
  subst hq1
  have HO:=hid (ho.mono HN.out.hb.size)
  have HB:=hid (HN.out.hb.trans (hz.mono HN.out.hb.size))
  clear hkz hz ho HPl HPo HN HE
  go_wp2_with fail
  go_ret
  exact itsB_out (by rw [HQ2.out];exact postP_files) ⟨q,gc,by rw [HQ2.out];rfl,by rw [HQ2.out];exact HO.out,HB.out⟩
/- Contract of edit of package forth (layer 21). -/
theorem foEdit_any {B:Nat} (N:NetL) (k:Nat) (hk:k<N.E.length) (w:World) (hV:Vs B w) (h:NetOk w N) (hm:msgB (evsL N.E) (evAt (evsL N.E) k).target k=true) :
  Calls Tryz.prog 76 #[N.v,.int .i64 k] w (ItsOut (editP N.p N.W (evsL N.E) N.B k) w):=by
 have HV:=hid hV
 have HMg:=hid hm
 clear hV hm
 have hx:=List.getElem_mem hk
 have HK:Hid (evAt (evsL N.E) k=N.E[k].ev):=hid (ev_at hk)
 have HN0:=NB.start h
 obtain ⟨eg,eoff,hA,_,hrg,_,_⟩:=HN0.ev hk
 have z23:=HN0.cell 23 (.slice N.eA N.E.length N.ec) rfl
 rw [hA] at z23
 have HRg:=hid hrg
 clear hrg hA HN0
 generalize hxe:N.E[k]=x at *
 clear hxe
 have HF:=hid (FB.start h hx)
 go_enter Tryz.func76,Tryz.ntmps76
 go_upto_region 2 with (first
  | ((with_reducible show wpList _ _ _ (Oper.mk _ (Op.load 40 _) _ _ _ _::_) _ _);refine wpList_load_g rfl 40 _ rfl eg (eoff+k * 12) rfl (x.ev.cs x.cA x.cc x.fA x.fc).toList _ HRg.out Tryz.underlying40 rfl (by kernel_rfl) ?_)
  | fail)
 change Code.wp _ _ _ _ ((w.alloc (.cells N.cs 86)).alloc (.cells (x.ev.cs x.cA x.cc x.fA x.fc) 40))
 obtain ⟨b,hb⟩:∃ b,b=w.heap.size:=⟨_,rfl⟩
 rw [← hb] at HF ⊢
 clear z23 HRg hb
 generalize (w.alloc (.cells N.cs 86)).alloc (.cells (x.ev.cs x.cA x.cc x.fA x.fc) 40)=wr at *
 have HV:=hid (HV.out.now HF.out.n.hb)
 have hrt:=HF.out.n.ok.rt x hx
 have hrx:=right_text hrt
 have HRx:=hid hrx
 have HRn:=hid (right_nums hrt)
 have htl:(tx x.ev).length≤10000:=by rw [tx_len];omega
 have HMp:Hid (0<manyP N.p N.W (evsL N.E) N.B k):=hid (manyP_pos (by have:=check_bounds N.p HF.out.n.ok.ck;omega) (by have:=check_bounds N.p HF.out.n.ok.ck;omega))
 have hmle:((manyP N.p N.W (evsL N.E) N.B k:Nat):Int)≤20:=by
  have h1:=check_bounds N.p HF.out.n.ok.ck
  have h2:=partsF_le (s:=sayP N.p N.W (evsL N.E) N.B (evAt (evsL N.E) k).target.toNat (tx (evAt (evsL N.E) (evAt (evsL N.E) k).target.toNat)) (evAt (evsL N.E) (evAt (evsL N.E) k).target.toNat).files) (size:=N.p.size) (most:=N.p.parts) (by omega)
  unfold manyP firstP
  rw [headM_len,itemsP_len]
  omega
 have HDm:Hid (∀ j:Nat,x.ev.target=j→(firstP N.p N.W (evsL N.E) N.B j).length=manyP N.p N.W (evsL N.E) N.B k):=hid (fun j hj=>by unfold manyP;rw [HK.out,hj,Int.toNat_natCast])
 have hma:=msgB_at HMg.out
 rw [HK.out] at hma
 obtain ⟨j,hj⟩:∃ j:Nat,x.ev.target=j:=⟨x.ev.target.toNat,by omega⟩
 have hjl:j<N.E.length:=by have:=hma.2.2.1;rw [hj] at this;simp at this;omega
 have HJ:=hid hj
 have HDm:=hid (HDm.out j hj)
 have HQ:Hid (editP N.p N.W (evsL N.E) N.B k=if sameW N.W 2=true then
  headM (fun y=>{y with files:=shownP N.p.files N.B x.ev.files}) (aboutP k 1 j (partsF (sayP N.p N.W (evsL N.E) N.B j (tx x.ev) x.ev.files) N.p.size (manyP N.p N.W (evsL N.E) N.B k)) (manyP N.p N.W (evsL N.E) N.B k))
  else postP N.p k ([101,100,105,116,58,32]++lineP (evsL N.E) j++[10]++tx x.ev++listedP x.ev.files []) (placeP N.p (evsL N.E) j)):=hid (by unfold editP editText;rw [HK.out,hj];rfl)
 have HEa:Hid (∀ (wq:World) (ts:List (List UInt8)) (A:Option Addr) (n c:Nat),Vs B wq→NetOk wq N→n=ts.length→RdL 1 strE wq wq.heap.size A ts→ts.length≤manyP N.p N.W (evsL N.E) N.B k→Calls Tryz.prog 137 #[N.v,.int .i64 k,.int .i64 1,.slice A n c] wq (ItsB (aboutP k 1 j ts (manyP N.p N.W (evsL N.E) N.B k)) wq)):=hid (fun wq ts A n c hV hN hn hr hle=>by
  have:=foEach_any N k hk 1 ts A n c wq hV hN hn hr HMg.out hle
  rwa [HK.out,hj] at this)
 clear hrx hrt hma hj
 go_wp2_with (first
  | ((with_reducible show wpList _ _ _ (Oper.mk _ (Op.load 86 _) _ _ _ _::_) _ _);refine wpList_load_g rfl 86 (.tmp 2) rfl _ 0 rfl (NetL.cs N).toList _ (HF.out.n.rng) Tryz.underlying86 rfl (by kernel_rfl) ?_)
  | fail)
 refine (foSame_any N 2 (by decide) _ HF.out.n.ok).mono ?_
 rintro e w1 ⟨rfl,hb1⟩
 have HF1:=hid (HF.out.now hb1)
 have HV1:=hid (HV.out.now hb1)
 clear HF HV hb1
 have HF:=HF1
 have HV:=HV1
 clear HF1 HV1
 clear wr
 obtain ⟨wr,hwr⟩:∃ x,x=w1:=⟨_,rfl⟩
 subst hwr
 cases hs:sameW N.W 2
 ·have HQ2:Hid (editP N.p N.W (evsL N.E) N.B k=postP N.p k ([101,100,105,116,58,32]++lineP (evsL N.E) j++[10]++tx x.ev++listedP x.ev.files []) (placeP N.p (evsL N.E) j)):=hid (by rw [HQ.out,hs];rfl)
  have HLi:Hid (∀ wq,Below wr.heap.size wr wq→Calls Tryz.prog 135 #[N.v,.int .i64 j] wq fun e w'=>e=.returned (.string (bs (lineP (evsL N.E) j)))∧Below wq.heap.size wq w'):=hid (fun wq hq=>foLine_any N j hjl wq (HF.out.now hq).n.ok)
  have HLs:Hid (∀ wq,Below wr.heap.size wr wq→Calls Tryz.prog 136 #[.slice x.fA x.ev.files.length x.fc,.slice none 0 0] wq fun e w'=>e=.returned (.string (bs (listedP x.ev.files [])))∧Below wq.heap.size wq w'):=hid (fun wq hq=>foListed_any x.ev.files [] x.fA none x.fc 0 wq (HV.out.now hq) (HF.out.now hq).ok.ok.fi RdL.nil_ (by have:=HRx.out;omega) (by simp) HRx.out.2.2)
  have HPl:Hid (∀ wq,Below wr.heap.size wr wq→Calls Tryz.prog 130 #[N.v,.int .i64 j] wq fun e w'=>e=.returned (.int .i64 (placeP N.p (evsL N.E) j))∧Below wq.heap.size wq w'):=hid (fun wq hq=>foPlace_any N j wq (HF.out.now hq).n.ok)
  have hl1:=lineP_len (evsL N.E) j
  have hl2:=listed_len (l:=x.ev.files) [] HRx.out.2.2
  have hl3:=HRx.out.2.1
  generalize placeP N.p (evsL N.E) j=pl at *
  generalize lineP (evsL N.E) j=li at *
  generalize listedP x.ev.files []=ls at *
  obtain ⟨et,het⟩:∃ t,t=[101,100,105,116,58,32]++li++[10]++tx x.ev++ls:=⟨_,rfl⟩
  have hel:et.length≤20000:=by rw [het];simp only [List.length_append,List.length_cons,List.length_nil];omega
  rw [← het] at HQ2
  have HEt:=hid het
  have HPo:Hid (∀ wq,Below wr.heap.size wr wq→Calls Tryz.prog 131 #[N.v,.int .i64 k,.string (bs et),.int .i64 pl] wq (ItsB (postP N.p k et pl) wq)):=hid (fun wq hq=>foPost_any N k et pl wq (HF.out.now hq).n.ok (by omega))
  clear het HQ hs HMg HDm HEa hmle
  go_upto_region 3 with fail
  refine wp_region_below [(5,fun _=>.string (bs li),fun (_:Option Addr × Nat) _=>True),(13,fun _=>.string (bs ls),fun (_:Option Addr × Nat) _=>True),(18,fun _=>.int .i64 pl,fun (_:Option Addr × Nat) _=>True),(19,fun g=>.slice g.1 (postP N.p k et pl).length g.2,fun g w'=>ItsG wr.heap.size (postP N.p k et pl) g w')] (by kernel_rfl) (by kernel_rfl) (by repeat (first | exact trivial | refine ⟨fun g wa wb hs hs' ht h=>by first | exact trivial | exact h.now ht | exact h.below ht | exact ht.cell h | exact h,?_⟩)) ?_
  rw [List.toList_toArray]
  refine DetE.load (by rfl) (by rfl) 86 _ rfl b 0 rfl (NetL.cs N).toList _ (fun wq hSq _=>(HF.out.now hSq).n.rng) Tryz.underlying86 rfl (by kernel_rfl) ?_
  simp only [Act.put,sA,sB,sC]
  repeat (first
   | (refine DetE.skip (by rfl) ?_;simp only [Act.put,sA,sB,sC])
   | (refine DetE.read (v:=?_) (by rfl) (by rfl) ?_ ?_;rotate_left;(· (intro wq hSq hkq;skip;go_simp;try with_reducible rfl));simp only [Act.put,sA,sB,sC])
   | fail)
  refine DetE.load (by rfl) (by rfl) 86 _ rfl b 0 rfl (NetL.cs N).toList _ (fun wq hSq _=>(HF.out.now hSq).n.rng) Tryz.underlying86 rfl (by kernel_rfl) ?_
  simp only [Act.put,sA,sB,sC]
  repeat (first
   | (refine DetE.skip (by rfl) ?_;simp only [Act.put,sA,sB,sC])
   | (refine DetE.read (v:=?_) (by rfl) (by rfl) ?_ ?_;rotate_left;(· (intro wq hSq hkq;have y5:=(HF.out.now hSq).cell 5 (.int .i64 j) (by rw [← HJ.out];rfl);go_simp;try with_reducible rfl));simp only [Act.put,sA,sB,sC])
   | fail)
  refine DetE.eff _ _ (by rfl) (by rfl) (fun wq hSq hkq K hK=>?_) (fun g1=>?_)
  ·go_simp
   refine (HLi.out wq hSq).mono ?_
   rintro e4 w4 ⟨rfl,hb4⟩
   go_wp2_with fail
   exact hK.out ((none,0)) _ (hSq.trans (hb4.mono hSq.size)) hb4 (trivial) _ rfl
  simp only [Act.put,sA,sB,sC]
  repeat (first
   | (refine DetE.cat (by rfl) (by rfl) rfl Tryz.underlying9 rfl rfl (by first | omega | (simp;done) | (simp;omega) | (simp only [List.length_append,List.length_cons,List.length_nil];omega)) ?_;simp only [Act.put,sA,sB,sC])
   | (refine DetE.read (v:=?_) (by rfl) (by rfl) ?_ ?_;rotate_left;(· (intro wq hSq hkq;have y9:=(HF.out.now hSq).cell 9 (.string (bs (tx x.ev))) (by rw [bs_tx];rfl);have y10:=(HF.out.now hSq).cell 10 (.slice x.fA x.ev.files.length x.fc) rfl;go_simp;try with_reducible rfl));simp only [Act.put,sA,sB,sC])
   | fail)
  simp only [List.append_assoc,List.cons_append,List.nil_append]
  refine DetE.eff _ _ (by rfl) (by rfl) (fun wq hSq hkq K hK=>?_) (fun g2=>?_)
  ·go_simp
   refine (HLs.out wq hSq).mono ?_
   rintro e4 w4 ⟨rfl,hb4⟩
   go_wp2_with fail
   exact hK.out ((none,0)) _ (hSq.trans (hb4.mono hSq.size)) hb4 (trivial) _ rfl
  simp only [Act.put,sA,sB,sC]
  repeat (first
   | (refine DetE.cat (by rfl) (by rfl) rfl Tryz.underlying9 rfl rfl (by first | omega | (simp;done) | (simp;omega) | (simp only [List.length_append,List.length_cons,List.length_nil];omega)) ?_;simp only [Act.put,sA,sB,sC])
   | (refine DetE.read (v:=?_) (by rfl) (by rfl) ?_ ?_;rotate_left;(· (intro wq hSq hkq;skip;go_simp;try with_reducible rfl));simp only [Act.put,sA,sB,sC])
   | fail)
  simp only [List.append_assoc,List.cons_append,List.nil_append]
  rw [show (101::100::105::116::58::32::(li++10::(tx x.ev++ls)):List UInt8)=et by rw [HEt.out];simp]
  refine DetE.load (by rfl) (by rfl) 86 _ rfl b 0 rfl (NetL.cs N).toList _ (fun wq hSq _=>(HF.out.now hSq).n.rng) Tryz.underlying86 rfl (by kernel_rfl) ?_
  simp only [Act.put,sA,sB,sC]
  repeat (first
   | (refine DetE.skip (by rfl) ?_;simp only [Act.put,sA,sB,sC])
   | (refine DetE.read (v:=?_) (by rfl) (by rfl) ?_ ?_;rotate_left;(· (intro wq hSq hkq;have y5:=(HF.out.now hSq).cell 5 (.int .i64 j) (by rw [← HJ.out];rfl);go_simp;try with_reducible rfl));simp only [Act.put,sA,sB,sC])
   | fail)
  refine DetE.eff _ _ (by rfl) (by rfl) (fun wq hSq hkq K hK=>?_) (fun g3=>?_)
  ·go_simp
   refine (HPl.out wq hSq).mono ?_
   rintro e4 w4 ⟨rfl,hb4⟩
   go_wp2_with fail
   exact hK.out ((none,0)) _ (hSq.trans (hb4.mono hSq.size)) hb4 (trivial) _ rfl
  simp only [Act.put,sA,sB,sC]
  repeat (first
   | (refine DetE.skip (by rfl) ?_;simp only [Act.put,sA,sB,sC])
   | (refine DetE.read (v:=?_) (by rfl) (by rfl) ?_ ?_;rotate_left;(· (intro wq hSq hkq;skip;go_simp;try with_reducible rfl));simp only [Act.put,sA,sB,sC])
   | fail)
  refine DetE.eff _ _ (by rfl) (by rfl) (fun wq hSq hkq K hK=>?_) (fun g4=>?_)
  ·go_simp
   refine (HPo.out wq hSq).mono ?_
   rintro e4 w4 ⟨q4,c4,rfl,ho4,hb4⟩
   go_wp2_with fail
   exact hK.out ((some ⟨q4,0,none⟩,c4)) _ (hSq.trans (hb4.mono hSq.size)) hb4 (⟨q4,rfl,ho4.mono hSq.size⟩) _ rfl
  simp only [Act.put,sA,sB,sC]
  repeat (first
   | (refine DetE.skip (by rfl) ?_;simp only [Act.put,sA,sB,sC])
   | (refine DetE.read (v:=?_) (by rfl) (by rfl) ?_ ?_;rotate_left;(· (intro wq hSq hkq;skip;go_simp;try with_reducible rfl));simp only [Act.put,sA,sB,sC])
   | fail)
  refine DetE.done fun wz hz hkz=>?_
  obtain ⟨q,hq1,ho⟩:=hkz 19 _ rfl
  obtain ⟨gA,gc⟩:=g4
  simp only at hq1 ho
  subst hq1
  have HO:=hid (ho.mono HF.out.n.hb.size)
  have HB:=hid (HF.out.n.hb.trans (hz.mono HF.out.n.hb.size))
  clear hkz hz ho HPl HPo HLi HLs HF
  go_wp2_with fail
  go_ret
  exact itsB_out (by rw [HQ2.out];exact postP_files) ⟨q,gc,by rw [HQ2.out];rfl,by rw [HQ2.out];exact HO.out,HB.out⟩
 ·have HQ2:Hid (editP N.p N.W (evsL N.E) N.B k=headM (fun y=>{y with files:=shownP N.p.files N.B x.ev.files}) (aboutP k 1 j (partsF (sayP N.p N.W (evsL N.E) N.B j (tx x.ev) x.ev.files) N.p.size (manyP N.p N.W (evsL N.E) N.B k)) (manyP N.p N.W (evsL N.E) N.B k))):=hid (by rw [HQ.out,hs];rfl)
  have hfe:=HRx.out.2.1
  have hjr:=right_nums (HF.out.n.ok.rt _ (List.getElem_mem hjl))
  have HSl:Hid ((sayP N.p N.W (evsL N.E) N.B j (tx x.ev) x.ev.files).length≤20000):=hid (sayP_len (by rw [ev_at hjl];exact ⟨hjr.1,hjr.2.1⟩) htl (by omega) HRx.out.2.2)
  have HWo:=hid (foWords_any N j hjl (tx x.ev) x.ev.files x.fA x.fc wr HV.out HF.out.n.ok htl HF.out.ok.ok.fi (by omega) HRx.out.2.2)
  have y5:=HF.out.cell 5 (.int .i64 j) (by rw [← HJ.out];rfl)
  have y9:=HF.out.cell 9 (.string (bs (tx x.ev))) (by rw [bs_tx];rfl)
  have y10:=HF.out.cell 10 (.slice x.fA x.ev.files.length x.fc) rfl
  clear HQ hs hjr htl
  generalize sayP N.p N.W (evsL N.E) N.B j (tx x.ev) x.ev.files=sy at *
  go_wp2_with (first
   | ((with_reducible show wpList _ _ _ (Oper.mk _ (Op.load 86 _) _ _ _ _::_) _ _);refine wpList_load_g rfl 86 (.tmp 2) rfl _ 0 rfl (NetL.cs N).toList _ (HF.out.n.rng) Tryz.underlying86 rfl (by kernel_rfl) ?_)
   | fail)
  refine HWo.out.mono ?_
  rintro e w1 ⟨rfl,hb1⟩
  have HF1:=hid (HF.out.now hb1)
  have HV1:=hid (HV.out.now hb1)
  clear HF HV hb1 y5 y9 y10 HWo
  have HF:=HF1
  have HV:=HV1
  clear HF1 HV1
  clear wr
  obtain ⟨wr,hwr⟩:∃ x,x=w1:=⟨_,rfl⟩
  subst hwr
  generalize manyP N.p N.W (evsL N.E) N.B k=many at *
  have hz:=check_bounds N.p HF.out.n.ok.ck
  have hmp:=HMp.out
  have HPl:Hid ((partsF sy N.p.size many).length≤many):=hid (by have:=partsF_le (s:=sy) (size:=N.p.size) (most:=many) (by omega);omega)
  have HPa:Hid (∀ wq,Calls Tryz.prog 138 #[.string (bs sy),.int .i64 N.p.size,.int .i64 many] wq fun e w'=>∃ A c,e=.returned (.slice A (partsF sy N.p.size many).length c)∧OwnL w' wq.heap.size 9 1 strE A c (partsF sy N.p.size many)∧Below wq.heap.size wq w'):=hid (fun wq=>parts_any sy N.p.size many wq (by have:=HSl.out;omega) ⟨by omega,by omega⟩ ⟨by omega,by omega⟩)
  have HFi:Hid (∀ wq,Below wr.heap.size wr wq→Calls Tryz.prog 74 #[N.v,.int .i64 j] wq fun e w'=>∃ A c,e=.returned (.slice A many c)∧Below wq.heap.size wq w'):=hid (fun wq hq=>(foFirst_any N j hjl wq (HV.out.now hq) (HF.out.now hq).n.ok).mono (fun e w' ⟨g,c,xs,h1,_,h3⟩=>⟨some ⟨g,0,none⟩,c,by rw [h1,HDm.out],h3⟩))
  have HEb:Hid (∀ (wq:World) (A:Option Addr) (c:Nat),Below wr.heap.size wr wq→RdL 1 strE wq wq.heap.size A (partsF sy N.p.size many)→Calls Tryz.prog 137 #[N.v,.int .i64 k,.int .i64 1,.slice A (partsF sy N.p.size many).length c] wq (ItsB (aboutP k 1 j (partsF sy N.p.size many) many) wq)):=hid (fun wq A c hq hr=>HEa.out wq _ A _ c (HV.out.now hq) (HF.out.now hq).n.ok rfl hr HPl.out)
  generalize partsF sy N.p.size many=ts at *
  clear HEa HMg HMp HDm hz HSl
  go_upto_region 5 with fail
  refine wp_region_below [(9,fun g=>.slice g.1 many g.2,fun (_:Option Addr × Nat) _=>True),(11,fun g=>.slice g.1 ts.length g.2,fun g w'=>RdL 1 strE w' w'.heap.size g.1 ts),(12,fun g=>.slice g.1 (aboutP k 1 j ts many).length g.2,fun g w'=>ItsG wr.heap.size (aboutP k 1 j ts many) g w')] (by kernel_rfl) (by kernel_rfl) (by repeat (first | exact trivial | refine ⟨fun g wa wb hs hs' ht h=>by first | exact trivial | exact h.now ht | exact h.below ht | exact ht.cell h | exact h,?_⟩)) ?_
  rw [List.toList_toArray]
  refine DetE.load (by rfl) (by rfl) 86 _ rfl b 0 rfl (NetL.cs N).toList _ (fun wq hSq _=>(HF.out.now hSq).n.rng) Tryz.underlying86 rfl (by kernel_rfl) ?_
  simp only [Act.put,sA,sB,sC]
  repeat (first
   | (refine DetE.skip (by rfl) ?_;simp only [Act.put,sA,sB,sC])
   | (refine DetE.read (v:=?_) (by rfl) (by rfl) ?_ ?_;rotate_left;(· (intro wq hSq hkq;have z8:=(HF.out.now hSq).n.cell 8 (.int .i64 N.p.size) rfl;go_simp;try with_reducible rfl));simp only [Act.put,sA,sB,sC])
   | fail)
  refine DetE.load (by rfl) (by rfl) 86 _ rfl b 0 rfl (NetL.cs N).toList _ (fun wq hSq _=>(HF.out.now hSq).n.rng) Tryz.underlying86 rfl (by kernel_rfl) ?_
  simp only [Act.put,sA,sB,sC]
  repeat (first
   | (refine DetE.skip (by rfl) ?_;simp only [Act.put,sA,sB,sC])
   | (refine DetE.read (v:=?_) (by rfl) (by rfl) ?_ ?_;rotate_left;(· (intro wq hSq hkq;have y5:=(HF.out.now hSq).cell 5 (.int .i64 j) (by rw [← HJ.out];rfl);go_simp;try with_reducible rfl));simp only [Act.put,sA,sB,sC])
   | fail)
  refine DetE.eff _ _ (by rfl) (by rfl) (fun wq hSq hkq K hK=>?_) (fun g1=>?_)
  ·go_simp
   refine (HFi.out wq hSq).mono ?_
   rintro e4 w4 ⟨A4,c4,rfl,hb4⟩
   go_wp2_with fail
   exact hK.out ((A4,c4)) _ (hSq.trans (hb4.mono hSq.size)) hb4 (trivial) _ rfl
  simp only [Act.put,sA,sB,sC]
  repeat (first
   | (refine DetE.skip (by rfl) ?_;simp only [Act.put,sA,sB,sC])
   | (refine DetE.read (v:=?_) (by rfl) (by rfl) ?_ ?_;rotate_left;(· (intro wq hSq hkq;skip;go_simp;try with_reducible rfl));simp only [Act.put,sA,sB,sC])
   | fail)
  refine DetE.eff _ _ (by rfl) (by rfl) (fun wq hSq hkq K hK=>?_) (fun g2=>?_)
  ·go_simp
   refine (HPa.out wq).mono ?_
   rintro e4 w4 ⟨A4,c4,rfl,ho4,hb4⟩
   go_wp2_with fail
   exact hK.out ((A4,c4)) _ (hSq.trans (hb4.mono hSq.size)) hb4 (ho4.rd strLay) _ rfl
  simp only [Act.put,sA,sB,sC]
  repeat (first
   | (refine DetE.skip (by rfl) ?_;simp only [Act.put,sA,sB,sC])
   | (refine DetE.read (v:=?_) (by rfl) (by rfl) ?_ ?_;rotate_left;(· (intro wq hSq hkq;skip;go_simp;try with_reducible rfl));simp only [Act.put,sA,sB,sC])
   | fail)
  refine DetE.eff _ _ (by rfl) (by rfl) (fun wq hSq hkq K hK=>?_) (fun g3=>?_)
  ·go_simp
   refine (HEb.out wq g2.1 g2.2 hSq (hkq 11 _ rfl (by kernel_rfl))).mono ?_
   rintro e4 w4 ⟨q4,c4,rfl,ho4,hb4⟩
   go_wp2_with fail
   exact hK.out ((some ⟨q4,0,none⟩,c4)) _ (hSq.trans (hb4.mono hSq.size)) hb4 (⟨q4,rfl,ho4.mono hSq.size⟩) _ rfl
  simp only [Act.put,sA,sB,sC]
  repeat (first
   | (refine DetE.skip (by rfl) ?_;simp only [Act.put,sA,sB,sC])
   | (refine DetE.read (v:=?_) (by rfl) (by rfl) ?_ ?_;rotate_left;(· (intro wq hSq hkq;skip;go_simp;try with_reducible rfl));simp only [Act.put,sA,sB,sC])
   | fail)
  refine DetE.done fun wz hz hkz=>?_
  obtain ⟨q,hq1,ho⟩:=hkz 12 _ rfl
  obtain ⟨gA,gc⟩:=g3
  simp only at hq1 ho
  subst hq1
  have hfs:=aboutP_files (id:=k) (kind:=1) (on:=j) (ts:=ts) (many:=many)
  have hal:=aboutP_len k 1 j ts many
  obtain ⟨j0,r0,hj0⟩:∃ y r,aboutP k 1 j ts many=y::r:=by
   cases hq:aboutP (k:Int) 1 j ts many with
   | nil=>rw [hq] at hal;simp at hal;omega
   | cons y r=>exact ⟨y,r,rfl⟩
  rw [hj0] at hfs ho HQ2 hal
  simp only
  rw [hj0]
  have HJr:=hid hfs
  have HFr:Hid (editP N.p N.W (evsL N.E) N.B k={j0 with files:=shownP N.p.files N.B x.ev.files}::r0):=HQ2
  have HB:=hid hz
  have HO:=hid ho
  have HF1:=hid (HF.out.now hz)
  have HW1:=hid HF.out.n.hb
  have hln0:0<(j0::r0).length:=by simp
  obtain ⟨ln,hln⟩:∃ n,(j0::r0).length=n:=⟨_,rfl⟩
  rw [hln] at hln0 ⊢
  have HLn:Hid (r0.length+1=ln):=hid (by rw [← hln];rfl)
  clear hln hkz hz ho hj0 hfs hal HFi HPa HEb HQ2 HF
  have y10:=HF1.out.cell 10 (.slice x.fA x.ev.files.length x.fc) rfl
  have HSh:=hid (foShown_any N x.ev.files x.fA x.fc wz HF1.out.n.ok HF1.out.ok.ok.fi (by omega))
  go_wp2_with (first
   | ((with_reducible show wpList _ _ _ (Oper.mk _ (Op.load 86 _) _ _ _ _::_) _ _);refine wpList_load_g rfl 86 (.tmp 2) rfl _ 0 rfl (NetL.cs N).toList _ (HF1.out.n.rng) Tryz.underlying86 rfl (by kernel_rfl) ?_)
   | fail)
  refine HSh.out.mono ?_
  rintro e w3 ⟨A2,c2,rfl,hoS,hb1⟩
  clear y10
  have hqB:wr.heap.size≤q:=(HO.out.blk_lt (i:=q) rfl).1
  have hqr:q<wz.heap.size:=(HO.out.blk_lt (i:=q) rfl).2
  have HB:=hid (HB.out.trans (hb1.mono HB.out.size))
  have HO:=hid (HO.out.below hb1)
  have HOs:=hid hoS
  clear hoS hb1
  generalize shownP N.p.files N.B x.ev.files=sh at *
  have z10:=HO.out.cellc layIt 0 10 (by simp) (.slice none j0.files.length 0) rfl
  have fz:=HO.out.freec
  have HSet:=hid (HO.out.setc layIt 0 10 (by simp) (by decide) (.slice A2 sh.length c2) ⟨{j0 with files:=sh},A2,c2⟩ rfl)
  have HqB:=hid hqB
  have Hqr:=hid hqr
  clear hqB hqr
  go_wp2_with fail
  go_ret
  refine ⟨some ⟨q,0,none⟩,gc,⟨{j0 with files:=sh},A2,c2⟩::r0.map mkIt,?_,⟨HSet.out.mono HW1.out.size,?_,?_,?_⟩,HW1.out.trans ((HB.out.setCell (p:=⟨q,10,none⟩) HqB.out (.slice A2 sh.length c2)).mono HW1.out.size)⟩
  ·rw [HFr.out]
   show _=Ending.returned (.slice _ (r0.length+1) _)
   rw [HLn.out]
   rfl
  ·rw [HFr.out]
   simp only [itsL,List.map_cons,List.map_map]
   exact congrArg _ (List.map_id r0)
  ·intro y hy
   rcases List.mem_cons.1 hy with rfl | hy
   ·refine ⟨(HOs.out.rd intLayV).turn (fun i hi _=>heap_setCell_other w3 ⟨q,10,none⟩ i _ (by have:=(HOs.out.blk_lt hi).1;have:=Hqr.out;show i≠q;omega)) (by simp [World.setCell]),HOs.out.len_le⟩
   ·obtain ⟨z,hz,rfl⟩:=List.mem_map.1 hy
    have hz2:=HJr.out z (List.mem_cons_of_mem _ hz)
    refine ⟨?_,?_⟩
    ·show RdI _ _ none z.files
     rw [hz2]
     exact RdL.nil_
    ·show z.files.length≤0
     rw [hz2]
     exact Nat.le_refl 0
  ·intro y hy i hi
   rcases List.mem_cons.1 hy with rfl | hy
   ·have h1:=(HOs.out.blk_lt hi).1
    have h3:=Hqr.out
    have h4:=HqB.out
    have h5:=HW1.out.size
    refine ⟨by omega,fun he=>?_⟩
    have h2:q=i:=Option.some.inj he
    omega
   ·obtain ⟨z,hz,rfl⟩:=List.mem_map.1 hy
    cases hi
/- Contracts of all and Forth of package forth (layer 21);slices.Equal of ways. -/
theorem neqWay (x y:D2) (h:x≠y) (w:World):(binOp .neq 80 x.v y.v).run Tryz.prog w=.ok (.bool true) w:=by
 obtain ⟨a1,b1⟩:=x
 obtain ⟨a2,b2⟩:=y
 by_cases h0:a1=a2 <;> by_cases h1:b1=b2 <;> first | (exfalso;exact h (by rw [h0,h1])) | simp [go_sem,h0,h1]
theorem pWay_any (xs ys:List D2) (A B:Option Addr) (c d:Nat) (w:World) (hr:RdL 2 D2.cs w w.heap.size A xs) (hs:RdL 2 D2.cs w w.heap.size B ys) (hx:xs.length≤9223372036854775807) (hy:ys.length≤9223372036854775807) :
  Calls Tryz.prog 43 #[.slice A xs.length c,.slice B ys.length d] w fun e w'=>e=.returned (.bool (decide (xs=ys)))∧Below w.heap.size w w':=by
 have HR:=hid hr
 have HS:=hid hs
 clear hr hs
 by_cases hl:xs.length=ys.length
 ·have hl2:((xs.length:Int) != ys.length)=false:=by simp [hl]
  go_enter Tryz.func43,Tryz.ntmps43
  have HL:=hid hl
  clear hl
  go_wp2_with fail
  go_loopw [5,13] (fun _ i wr=>∃ k:Nat,k≤xs.length∧i=.int .i64 k∧xs.take k=ys.take k∧Below w.heap.size w wr) (fun _ i _=>xs.length - (intOf i).toNat)
  case atStart=>exact ⟨0,Nat.zero_le _,rfl,by simp,Below.refl _ _⟩
  case round =>
   obtain ⟨k,hk,rfl,hf,hbw⟩:=hrel
   have HF:=hid hf
   have HB:=hid hbw
   clear hf
   by_cases hlt:k<xs.length
   ·have hlt2:k<ys.length:=by have:=HL.out;omega
    obtain ⟨b,off,hA,hb,c0,c1⟩:=rdD2 (HR.out.now hbw) hlt
    obtain ⟨b2,off2,hA2,hb2,e0,e1⟩:=rdD2 (HS.out.now hbw) hlt2
    subst hA hA2
    have HSt:=hid (eq_takeV xs ys k hlt hlt2 HF.out)
    have HNe:=hid (same_hit2 xs ys k hlt hlt2)
    clear hbw
    generalize xs[k]=x at *
    generalize ys[k]=y at *
    by_cases hv:x=y
    ·have HS2:=hid (HSt.out hv)
     subst hv
     clear HNe HSt
     go_wp2_with fail
     go_quiet (fail)
     have HBq:=hid (below_drewN HB.out nq)
     go_wp2_with fail
     go_roundw
     case rel=>exact ⟨k+1,by omega,by go_num,HS2.out,HBq.out⟩
     case measure=>simp [intOf];omega
    ·have hrun:=neqWay x y hv
     have HN:=hid (HNe.out hv)
     clear HNe HSt hv
     go_wp2_with fail
     go_quiet (fail)
     have HBq:=hid (below_drewN HB.out nq)
     go_wp2_with fail
     go_ret
     exact ⟨by rw [HN.out];rfl,HBq.out⟩
   ·have HZ:Hid (xs=ys):=hid (by
     have h2:=HF.out
     have h3:=HL.out
     rwa [List.take_of_length_le (by omega),List.take_of_length_le (by omega)] at h2)
    obtain rfl:k=xs.length:=by omega
    go_wp2_with fail
    go_ret
    exact ⟨by rw [decide_eq_true HZ.out];rfl,HB.out⟩
 ·have hl2:((xs.length:Int) != (ys.length:Int))=true:=by rw [bne_iff_ne];omega
  have HL:=hid hl
  clear hl
  go_enter Tryz.func43,Tryz.ntmps43
  go_wp2_with fail
  go_ret
  exact ⟨by rw [decide_eq_false (fun e=>HL.out (by rw [e]))];rfl,Below.refl _ _⟩
def wayD (x:Int × Int):D2:=⟨x.1,x.2⟩
theorem rd_wayD {w:World} {B:Nat} {A:Option Addr} {xs:List (Int × Int)} (h:RdL 2 wayC w B A xs):RdL 2 D2.cs w B A (xs.map wayD):=fun k x hx=>by
 rw [List.getElem?_map] at hx
 cases hq:xs[k]? with
 | none=>rw [hq] at hx;cases hx
 | some y =>
  rw [hq] at hx
  obtain rfl:wayD y=x:=Option.some.inj hx
  exact h k y hq
theorem wayD_inj {xs ys:List (Int × Int)}:xs.map wayD=ys.map wayD ↔ xs=ys:=by
 constructor
 ·intro h
  have hf:∀ l:List (Int × Int),(l.map wayD).map (fun x=>(x.a,x.b))=l:=fun l=>by
   rw [List.map_map]
   exact List.map_id l
  rw [← hf xs,h,hf ys]
 ·rintro rfl
  rfl
theorem wayEq_any (xs ys:List (Int × Int)) (A B:Option Addr) (n m c d:Nat) (w:World) (hn:n=xs.length) (hm:m=ys.length) (hr:RdL 2 wayC w w.heap.size A xs) (hs:RdL 2 wayC w w.heap.size B ys) (hx:xs.length≤1000000) (hy:ys.length≤1000000) :
  Calls Tryz.prog 43 #[.slice A n c,.slice B m d] w fun e w'=>e=.returned (.bool (decide (xs=ys)))∧Below w.heap.size w w':=by
 have h:=pWay_any (xs.map wayD) (ys.map wayD) A B c d w (rd_wayD hr) (rd_wayD hs) (by simp;omega) (by simp;omega)
 rw [List.length_map,List.length_map] at h
 subst hn hm
 have hd:decide (xs.map wayD=ys.map wayD)=decide (xs=ys):=by
  rw [decide_eq_decide]
  exact wayD_inj
 rw [hd] at h
 exact h
theorem foAll_any {B:Nat} (N:NetL) (k:Nat) (hk:k<N.E.length) (w:World) (hV:Vs B w) (h:NetOk w N) :
  Calls Tryz.prog 44 #[N.v,.int .i64 k] w (ItsOut (allP N.p N.W (evsL N.E) N.B k) w):=by
 have HN:=hid (NB.start h)
 have HV:=hid (hV.now HN.out.hb)
 have HK:=hid (ev_at hk)
 have HAct:=fun w h=>foAct_any N k hk w h
 have HMsg:actB (evsL N.E) k=true→msgB (evsL N.E) (evAt (evsL N.E) k).target k=true:=fun h=>by
  unfold actB at h
  simp only [Bool.and_eq_true] at h
  exact h.1
 obtain ⟨eg,eoff,hA,_,_,hcc,_⟩:=HN.out.ev hk
 have z23:=HN.out.cell 23 (.slice N.eA N.E.length N.ec) rfl
 have z3:=hcc 3 (.int .i64 N.E[k].ev.kind) rfl
 rw [hA] at z23
 have HQ:Hid (allP N.p N.W (evsL N.E) N.B k=if N.E[k].ev.kind=0 then firstP N.p N.W (evsL N.E) N.B k else if actB (evsL N.E) k=false then [] else if N.E[k].ev.kind=1 then editP N.p N.W (evsL N.E) N.B k
  else if N.E[k].ev.kind=2 then removeP N.p N.W (evsL N.E) N.B k else if N.E[k].ev.kind=3∨N.E[k].ev.kind=4 then reactP N.p N.W (evsL N.E) k else []):=hid (by unfold allP;rw [HK.out])
 have HKd:Hid (N.E[k].ev.kind=3∨N.E[k].ev.kind=4→(evAt (evsL N.E) k).kind=3∨(evAt (evsL N.E) k).kind=4):=hid (by rw [HK.out];exact id)
 clear hA hcc h hV HK
 have HAct:=hid HAct
 have HMsg:=hid HMsg
 generalize N.E[k].ev.kind=kd at *
 go_enter Tryz.func44,Tryz.ntmps44
 go_upto_region 2 with fail
 obtain ⟨wr,hwr⟩:∃ x,x=w.alloc (.cells N.cs 86):=⟨_,rfl⟩
 rw [← hwr] at HV HN z23 z3 ⊢
 clear hwr z23 z3
 have HOut:Hid (∀ (L:List ItM) (wq:World),Below wr.heap.size wr wq→∀ e w',ItsOut L wq e w'→ItsOut L w e w'):=hid (fun L wq hq e w' ⟨A,c,xs,h1,h2,h3⟩=>by
  have hb:=HN.out.hb.trans (hq.mono HN.out.hb.size)
  exact ⟨A,c,xs,h1,⟨h2.own.mono hb.size,h2.eq,h2.ok,fun x hx i hi=>⟨Nat.le_trans hb.size (h2.far x hx i hi).1,(h2.far x hx i hi).2⟩⟩,hb.trans (h3.mono hb.size)⟩)
 have HRg:=hid HN.out.rng
 by_cases k0:kd=0
 ·have HQ2:=hid (HQ.out.trans (if_pos k0))
  have b0:(kd==0)=true:=by simpa using k0
  have HF:=hid (foFirst_any N k hk wr HV.out HN.out.ok)
  clear HQ k0
  go_wp2_with (first
   | ((with_reducible show wpList _ _ _ (Oper.mk _ (Op.load 86 _) _ _ _ _::_) _ _);refine wpList_load_g rfl 86 (.tmp 2) rfl _ 0 rfl (NetL.cs N).toList _ (HRg.out) Tryz.underlying86 rfl (by kernel_rfl) ?_)
   | fail)
  refine HF.out.mono ?_
  rintro e w1 ⟨g,c,xs,rfl,ha,hb1⟩
  have HA:=hid ha
  have HB:=hid hb1
  clear ha hb1
  go_wp2_with fail
  go_ret
  rw [HQ2.out]
  exact HOut.out _ wr (Below.refl _ _) _ _ ⟨some ⟨g,0,none⟩,c,xs,rfl,HA.out,HB.out⟩
 have b0:(kd==0)=false:=by simpa using k0
 have HQ1:=hid (HQ.out.trans (if_neg k0))
 go_wp2_with (first
  | ((with_reducible show wpList _ _ _ (Oper.mk _ (Op.load 86 _) _ _ _ _::_) _ _);refine wpList_load_g rfl 86 (.tmp 2) rfl _ 0 rfl (NetL.cs N).toList _ (HRg.out) Tryz.underlying86 rfl (by kernel_rfl) ?_)
  | fail)
 refine (HAct.out _ HN.out.ok).mono ?_
 rintro e w1 ⟨rfl,hb1⟩
 have HN1:=hid (HN.out.now hb1)
 have HV1:=hid (HV.out.now hb1)
 have HB1:=hid hb1
 clear hb1 HQ k0 HRg HN HV
 have HRg:=hid HN1.out.rng
 cases ha:actB (evsL N.E) k
 ·have HQ2:=hid (HQ1.out.trans (if_pos ha))
  clear HQ1 ha
  go_wp2_with fail
  go_ret
  rw [HQ2.out]
  exact HOut.out _ w1 HB1.out _ _ ⟨none,0,[],rfl,⟨OwnL.nil_,rfl,fun x hx=>(nomatch hx),fun x hx=>(nomatch hx)⟩,Below.refl _ _⟩
 have HQ1:=hid (HQ1.out.trans (if_neg (by simp [ha])))
 have HMs:=hid (HMsg.out ha)
 clear ha
 by_cases k1:kd=1
 ·have HQ2:=hid (HQ1.out.trans (if_pos k1))
  have b1:(kd==1)=true:=by simpa using k1
  have HF:=hid (foEdit_any N k hk w1 HV1.out HN1.out.ok HMs.out)
  clear HQ1 k1
  go_wp2_with (first
   | ((with_reducible show wpList _ _ _ (Oper.mk _ (Op.load 86 _) _ _ _ _::_) _ _);refine wpList_load_g rfl 86 (.tmp 2) rfl _ 0 rfl (NetL.cs N).toList _ (HRg.out) Tryz.underlying86 rfl (by kernel_rfl) ?_)
   | fail)
  refine HF.out.mono ?_
  rintro e w2 ⟨A,c,xs,rfl,ha,hb1⟩
  have HA:=hid ha
  have HB:=hid hb1
  clear ha hb1
  go_wp2_with fail
  go_ret
  rw [HQ2.out]
  exact HOut.out _ w1 HB1.out _ _ ⟨A,c,xs,rfl,HA.out,HB.out⟩
 have b1:(kd==1)=false:=by simpa using k1
 have HQ1:=hid (HQ1.out.trans (if_neg k1))
 clear k1
 by_cases k2:kd=2
 ·have HQ2:=hid (HQ1.out.trans (if_pos k2))
  have b2:(kd==2)=true:=by simpa using k2
  have HF:=hid (foRemove_any N k hk w1 HV1.out HN1.out.ok HMs.out)
  clear HQ1 k2
  go_wp2_with (first
   | ((with_reducible show wpList _ _ _ (Oper.mk _ (Op.load 86 _) _ _ _ _::_) _ _);refine wpList_load_g rfl 86 (.tmp 2) rfl _ 0 rfl (NetL.cs N).toList _ (HRg.out) Tryz.underlying86 rfl (by kernel_rfl) ?_)
   | fail)
  refine HF.out.mono ?_
  rintro e w2 ⟨A,c,xs,rfl,ha,hb1⟩
  have HA:=hid ha
  have HB:=hid hb1
  clear ha hb1
  go_wp2_with fail
  go_ret
  rw [HQ2.out]
  exact HOut.out _ w1 HB1.out _ _ ⟨A,c,xs,rfl,HA.out,HB.out⟩
 have b2:(kd==2)=false:=by simpa using k2
 have HQ1:=hid (HQ1.out.trans (if_neg k2))
 clear k2
 by_cases k3:kd=3∨kd=4
 ·have HQ2:=hid (HQ1.out.trans (if_pos k3))
  have HF:=hid (foReact_any N k hk w1 HV1.out HN1.out.ok (HKd.out k3))
  rcases k3 with k3 | k3
  all_goals
   clear HQ1
   subst k3
   go_wp2_with (first
    | ((with_reducible show wpList _ _ _ (Oper.mk _ (Op.load 86 _) _ _ _ _::_) _ _);refine wpList_load_g rfl 86 (.tmp 2) rfl _ 0 rfl (NetL.cs N).toList _ (HRg.out) Tryz.underlying86 rfl (by kernel_rfl) ?_)
    | fail)
   refine HF.out.mono ?_
   rintro e w2 ⟨A,c,xs,rfl,ha,hb1⟩
   have HA:=hid ha
   have HB:=hid hb1
   clear ha hb1
   go_wp2_with fail
   go_ret
   rw [HQ2.out]
   exact HOut.out _ w1 HB1.out _ _ ⟨A,c,xs,rfl,HA.out,HB.out⟩
 ·have HQ2:=hid (HQ1.out.trans (if_neg k3))
  have b3:(kd==3)=false:=by simp;omega
  have b4:(kd==4)=false:=by simp;omega
  clear HQ1 k3
  go_wp2_with fail
  go_ret
  rw [HQ2.out]
  exact HOut.out _ w1 HB1.out _ _ ⟨none,0,[],rfl,⟨OwnL.nil_,rfl,fun x hx=>(nomatch hx),fun x hx=>(nomatch hx)⟩,Below.refl _ _⟩
def ForthOut (L:List ItM) (w:World) (e:Ending) (w':World):Prop :=
 ∃ A c xs,e=.returned (.tuple #[.slice A L.length c,.int .i64 0])∧ItsAt w.heap.size w' A c xs L∧Below w.heap.size w w'
theorem forth_any {B:Nat} (N:NetL) (k:Nat) (hk:k<N.E.length) (w:World) (hV:Vs B w) (h:NetOk w N) (hW:N.W=wayL N.p) (hpc:N.p.types.length≤N.pc) :
  Calls Tryz.prog 14 #[N.p.v N.pA N.pc,.slice N.wA N.W.length N.wc,.slice N.eA N.E.length N.ec,.slice N.bA N.B.length N.bc,.int .i64 k] w (ForthOut (allP N.p N.W (evsL N.E) N.B k) w):=by
 have hb0:Below w.heap.size w (w.alloc (.cells (N.p.cs N.pA N.pc) 24)):=(Below.refl _ _).alloc (Nat.le_refl _) _
 have HRA:=hid (boxRange w (N.p.cs N.pA N.pc) 24 (Below.refl _ _))
 have HN:=hid (h.now hb0)
 have HV:=hid (hV.now hb0)
 have HB:=hid hb0
 have HCk:=hid h.ck
 have HW:Hid (waysOf N.p=N.W):=hid (by unfold waysOf;rw [if_pos h.ck,hW])
 have HCo:=hid (pCompile_any N.p N.pA N.pc _ HN.out.pf hpc)
 have hen:=h.en
 have HWn:=hid h.wn
 clear h hV hb0 hW
 go_enter Tryz.func14,Tryz.ntmps14
 go_wp2_with ((with_reducible show wpList _ _ _ (Oper.mk _ (Op.load 24 _) _ _ _ _::_) _ _);refine wpList_load_g rfl 24 (.tmp 5) rfl w.heap.size 0 rfl (N.p.cs N.pA N.pc).toList _ HRA.out Tryz.underlying24 rfl (by kernel_rfl) ?_)
 refine HCo.out.mono ?_
 rintro e w1 ⟨hb1,A,c,rfl,hr⟩
 rw [HCk.out]
 have HRA1:=hid (boxRange w _ _ hb1)
 have HN1:=hid (HN.out.now hb1)
 have HV1:=hid (HV.out.now hb1)
 have HB1:=hid (HB.out.trans (hb1.mono HB.out.size))
 have HBx:=hid hb1
 have HE:=hid (wayEq_any (waysOf N.p) N.W A N.wA (waysOf N.p).length N.W.length c N.wc w1 rfl rfl hr HN1.out.wy (by rw [HW.out,HWn.out];omega) (by rw [HWn.out];omega))
 have hd:decide (waysOf N.p=N.W)=true:=by simpa using HW.out
 rw [hd] at HE
 generalize (waysOf N.p).length=wl at *
 clear hr hb1 HRA HN HV HB HCo hd
 go_wp2_with fail
 refine HE.out.mono ?_
 rintro e w2 ⟨rfl,hb2⟩
 have HRA2:=hid (boxRange w _ _ (HBx.out.trans (hb2.mono HBx.out.size)))
 have HN2:=hid (HN1.out.now hb2)
 have HV2:=hid (HV1.out.now hb2)
 have HB2:=hid (HB1.out.trans (hb2.mono HB1.out.size))
 have HAl:=hid (foAll_any N k hk w2 HV2.out HN2.out)
 have hk2:(k:Int)<N.E.length:=by omega
 clear hb2 HE HBx HRA1
 go_wp2_with ((with_reducible show wpList _ _ _ (Oper.mk _ (Op.load 24 _) _ _ _ _::_) _ _);refine wpList_load_g rfl 24 (.tmp 5) rfl w.heap.size 0 rfl (N.p.cs N.pA N.pc).toList _ HRA2.out Tryz.underlying24 rfl (by kernel_rfl) ?_)
 refine HAl.out.mono ?_
 rintro e w3 ⟨A3,c3,xs,rfl,ha,hb3⟩
 have HA:=hid ha
 have HB3:=hid (HB2.out.trans (hb3.mono HB2.out.size))
 have HSz:=hid HB2.out.size
 clear ha hb3
 go_wp2_with fail
 go_ret2
 exact ⟨A3,c3,xs,rfl,⟨HA.out.own.mono HSz.out,HA.out.eq,HA.out.ok,fun x hx i hi=>⟨Nat.le_trans HSz.out (HA.out.far x hx i hi).1,(HA.out.far x hx i hi).2⟩⟩,HB3.out⟩
end Go.Proofs.YtlnnjdibkbabiaaGreatDoor
