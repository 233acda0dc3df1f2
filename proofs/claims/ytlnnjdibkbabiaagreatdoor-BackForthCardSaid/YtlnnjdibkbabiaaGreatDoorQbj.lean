/- Contracts and plain laws, joined: BfP. -/
import Derived.Test.YtlnnjdibkbabiaaGreatDoorQbh
import Derived.Test.YtlnnjdibkbabiaaGreatDoorQat
/- The plain law of BackForth (layer 23): what is shown by the network's own means,with one item,is done by an account that does what the item shows. -/
set_option linter.unusedSimpArgs false
set_option linter.unusedVariables false
namespace Go.Proofs.YtlnnjdibkbabiaaGreatDoor
open _root_.Go.Lib (hid)
def plainX (W:List (Int × Int)) (e:EvM) (x:ItM):Bool :=
 if e.kind=0 then ((e.target==-1) || sameW W 5) && (((e.quote==-1) || (sameW W 6 && (x.quote==e.quote))) && (((e.who==-1) || sameW W 7) && (decide (bs x.text=e.text) && decide (x.files.length=e.files.length))))
 else if e.kind=1 then sameW W 2 && (decide (bs x.text=e.text) && decide (x.files.length=e.files.length))
 else if e.kind=2 then sameW W 3 else sameW W 4
def plainB (W:List (Int × Int)) (e:EvM) (items:List ItM):Bool:=decide (items.length=1) && plainX W e (items.headD noIt)
def numB (ps:List Pair) (nt id:Int):Int:=if (findF (fNEP nt id 0) ps).isSome=true then locOf (findF (fNEP nt id 0) ps) else -1
def rawB (ps:List Pair) (nt:Int) (e:EvM) (x:ItM):RawM :=
 ⟨nt,0,e.kind,e.group,if x.on<0 then -1 else numB ps nt x.on,if x.quote<0 then -1 else numB ps nt x.quote,x.who,x.n,bs x.text,x.files⟩
def asB (nt step:Int) (e:EvM):EvM:={e with author:=nt,seq:=0,causes:=[],step:=step}
def bfNew (nt:Int) (id n:Nat):List Pair:=(List.range n).map fun (k:Nat)=>(⟨nt,32 * (id:Int)+(k:Int),id,k⟩:Pair)
def bfMore (p:Prof) (E:List EvM) (nt:Int) (id:Nat):List Pair:=if (evAt E id).kind=0 then bfNew nt id (allP p (wayL p) E [] id).length else []
def bfPs (p:Prof) (E:List EvM) (nt:Int):Nat→List Pair
 | 0=>[]
 | n+1=>bfPs p E nt n++bfMore p E nt n
theorem right_kind {e:EvM} (h:rightE e=true):0≤e.kind∧e.kind<10:=by
 have hf:=right_fields h
 unfold fieldsB at hf
 split at hf
 ·omega
 split at hf
 ·omega
 split at hf
 ·omega
 split at hf
 ·omega
 split at hf
 ·omega
 ·simp at hf
  omega
theorem back_as {p:Prof} {xs:List Pair} {nt step:Int} {e:EvM} {r:RawM} (hp:profCheck p=0) (hn:0≤nt∧nt<12) (hs:0≤step∧step≤1073741824) (hr:rightE e=true) (ha:r.account=nt) (hk:r.kind=e.kind) (hg:r.group=e.group)
  (hT:hasT e.kind=true→knownR xs nt r.on=(e.target,true)) (hQ:hasQ e.kind=true→knownR xs nt r.quote=(e.quote,true)) (hW:hasW e.kind=true→r.who=e.who) (hN:hasN e.kind=true→r.n=e.n)
  (hX:hasX e.kind=true→r.text=e.text∧r.files=e.files∧(e.text.size:Int)≤p.size∧(e.files.length:Int)≤p.files) (hm:meansB p r=true):backS p xs nt r step=(asB nt step e,0):=by
 have hsp:=right_spare hr
 have s1:=spare_t hsp
 have s2:=spare_q hsp
 have s3:=spare_w hsp
 have s4:=spare_n hsp
 have s5:=spare_x hsp
 have hkd:=right_kind hr
 have h12:netI nt=nt:=by
  unfold netI belowB
  rw [if_pos (by simp;omega)]
  omega
 have h1:argsBad p nt r=false:=by
  unfold argsBad
  rw [ha,hk,h12]
  simp [hp]
  omega
 have h3:fullB p r=false:=by
  unfold fullB
  rw [hk]
  cases h:hasX e.kind
  ·rfl
  ·obtain ⟨q1,q2,q3,q4⟩:=hX h
   rw [q1,q2]
   simp
   omega
 have h4:foldOk xs nt r=true:=by
  unfold foldOk
  rw [hk]
  cases h:hasT e.kind
  ·cases h':hasQ e.kind
   ·rfl
   ·simp [hQ h']
  ·cases h':hasQ e.kind
   ·simp [hT h]
   ·simp [hT h,hQ h']
 have h5:foldE xs nt r step=asB nt step e:=by
  unfold foldE asB
  rw [ha,hk,hg]
  have e1:(if hasT e.kind=true then (knownR xs nt r.on).1 else -1)=e.target:=by
   cases h:hasT e.kind
   ·simp [s1 h]
   ·simp [hT h]
  have e2:(if hasQ e.kind=true then (knownR xs nt r.quote).1 else -1)=e.quote:=by
   cases h:hasQ e.kind
   ·simp [s2 h]
   ·simp [hQ h]
  have e3:(if hasW e.kind=true then r.who else -1)=e.who:=by
   cases h:hasW e.kind
   ·simp [s3 h]
   ·simp [hW h]
  have e4:(if hasN e.kind=true then r.n else 0)=e.n:=by
   cases h:hasN e.kind
   ·simp [s4 h]
   ·simp [hN h]
  have e5:(if hasX e.kind=true then r.files else [])=e.files:=by
   cases h:hasX e.kind
   ·simp [(s5 h).2]
   ·simp [(hX h).2.1]
  have e6:(if hasX e.kind=true then r.text else ByteArray.empty)=e.text:=by
   cases h:hasX e.kind
   ·simp [(s5 h).1]
   ·simp [(hX h).1]
  rw [e1,e2,e3,e4,e5,e6]
 have h6:rightE (asB nt step e)=true:=by
  have hr2:=hr
  unfold rightE at hr2 ⊢
  simp only [Bool.and_eq_true,headE] at hr2 ⊢
  obtain ⟨_,⟨_,_,hgr,_⟩,_,hf,ht,hfi,_⟩:=hr2
  refine ⟨rfl,⟨by show belowB nt 2000=true;simp [belowB];omega,rfl,hgr,by show belowB step 1073741825=true;simp [belowB];omega⟩,rfl,hf,ht,hfi,?_⟩
  rw [sameE_iff]
  have:spareE (asB nt step e)=asB nt step (spareE e):=rfl
  rw [this,← hsp]
 unfold backS
 rw [h1,hm,h3,backFold_eq,h4,h5,h6]
 rfl
theorem mem_new {nt:Int} {id n:Nat} {q:Pair} (h:q∈bfNew nt id n):∃ k:Nat,k<n∧q=⟨nt,32 * id+k,id,k⟩:=by
 unfold bfNew at h
 obtain ⟨k,hk,rfl⟩:=List.mem_map.1 h
 exact ⟨k,List.mem_range.1 hk,rfl⟩
theorem all_len {p:Prof} (hp:profCheck p=0) {E:List EvM} {id:Nat} (hk:(evAt E id).kind=0):0<(allP p (wayL p) E [] id).length∧(allP p (wayL p) E [] id).length≤20:=by
 have hz:=size_ge hp
 unfold allP
 rw [if_pos hk]
 unfold firstP
 rw [headM_len,itemsP_len]
 refine ⟨partsF_pos hz.1 hz.2.1,?_⟩
 have:=partsF_le (s:=sayP p (wayL p) E [] id (tx (evAt E id)) (evAt E id).files) (size:=p.size) hz.2.1
 omega
structure BfOk (E:List EvM) (nt:Int) (ps:List Pair) (id:Nat):Prop where
 at_:∀ q∈ps,∃ j k:Nat,j<id∧k<20∧q=⟨nt,32 * j+k,j,k⟩
 has:∀ t:Nat,t<id→(evAt E t).kind=0→(⟨nt,32 * t,t,0⟩:Pair)∈ps
theorem bf_ok {p:Prof} (hp:profCheck p=0) {E:List EvM} {nt:Int}:∀ n:Nat,BfOk E nt (bfPs p E nt n) n
 | 0=>⟨fun q hq=>by simp [bfPs] at hq,fun t ht=>by omega⟩
 | n+1=>by
  have ih:=bf_ok (nt:=nt) hp (E:=E) n
  refine ⟨fun q hq=>?_,fun t ht hk=>?_⟩
  ·rcases List.mem_append.1 hq with hq | hq
   ·obtain ⟨j,k,h1,h2,h3⟩:=ih.at_ q hq
    exact ⟨j,k,by omega,h2,h3⟩
   ·unfold bfMore at hq
    split at hq
    ·rename_i hk
     have:=all_len hp hk
     obtain ⟨k,h1,h2⟩:=mem_new hq
     exact ⟨n,k,by omega,by omega,h2⟩
    ·cases hq
  ·by_cases hl:t<n
   ·exact List.mem_append_left _ (ih.has t hl hk)
   ·obtain rfl:t=n:=by omega
    refine List.mem_append_right _ ?_
    unfold bfMore
    rw [if_pos hk]
    have:=all_len hp hk
    exact List.mem_map.2 ⟨0,List.mem_range.2 this.1,by simp⟩
theorem num_of {E:List EvM} {nt:Int} {ps:List Pair} {id:Nat} (h:BfOk E nt ps id) {t:Int} (hm:msgB E t id=true):knownR ps nt (numB ps nt t)=(t,true)∧numB ps nt t≠-1:=by
 have ha:=msgB_at hm
 obtain ⟨j,hj⟩:∃ j:Nat,t=j:=⟨t.toNat,by omega⟩
 subst hj
 have hin:=h.has j (by omega) (by have:=ha.2.2.2;simpa using this)
 have hs:(findF (fNEP nt j 0) ps).isSome=true:=by
  unfold findF
  rw [List.find?_isSome]
  exact ⟨_,hin,by simp [fNEP]⟩
 obtain ⟨q,hq⟩:=Option.isSome_iff_exists.1 hs
 have hqm:=List.mem_of_find?_eq_some hq
 have hqp:=List.find?_some hq
 obtain ⟨a,b,h1,h2,rfl⟩:=h.at_ q hqm
 simp [fNEP] at hqp
 have hn:numB ps nt j=32 * j:=by
  unfold numB
  rw [if_pos hs,hq]
  simp [locOf]
  omega
 rw [hn]
 refine ⟨?_,by omega⟩
 unfold knownR
 rw [if_neg (by omega)]
 have hs2:(findF (fNL nt (32 * (j:Int))) ps).isSome=true:=by
  unfold findF
  rw [List.find?_isSome]
  exact ⟨_,hin,by simp [fNL]⟩
 obtain ⟨z,hz⟩:=Option.isSome_iff_exists.1 hs2
 have hzm:=List.mem_of_find?_eq_some hz
 have hzp:=List.find?_some hz
 obtain ⟨c,d,h3,h4,rfl⟩:=h.at_ z hzm
 simp [fNL] at hzp
 rw [hz]
 simp [evOf]
 omega
theorem bf_add {nt:Int} (hn:0≤nt∧nt<12) {ps:List Pair} {id:Nat} (hidx:id<1000) (hr:rightB ps=true) (hps:∀ q∈ps,∃ j k:Nat,j<id∧k<20∧q=⟨nt,32 * j+k,j,k⟩):∀ k:Nat,k≤20→rightB (ps++bfNew nt id k)=true ∧
  (k<20→addF (ps++bfNew nt id k) ⟨nt,32 * id+k,id,k⟩=(ps++bfNew nt id (k+1),0)):=by
 have hsn:∀ k:Nat,bfNew nt id (k+1)=bfNew nt id k++[⟨nt,32 * id+k,id,k⟩]:=fun k=>by
  unfold bfNew
  rw [List.range_succ,List.map_append]
  rfl
 have hv:∀ k:Nat,k<20→validP ⟨nt,32 * id+k,id,k⟩=true:=fun k hk=>by
  simp [validP,inB]
  omega
 have hex:∀ k:Nat,k<20→(ps++bfNew nt id k).any (fun q=>excl q ⟨nt,32 * id+k,id,k⟩)=false:=fun k hk=>by
  rw [List.any_eq_false]
  intro q hq
  rcases List.mem_append.1 hq with hq | hq
  ·obtain ⟨a,b,h1,h2,rfl⟩:=hps q hq
   simp [excl]
   omega
  ·obtain ⟨b,h2,rfl⟩:=mem_new hq
   simp [excl]
   omega
 intro k
 induction k with
 | zero =>
  intro _
  have h0:ps++bfNew nt id 0=ps:=by simp [bfNew]
  rw [h0]
  refine ⟨hr,fun hk=>?_⟩
  have hx:=hex 0 (by omega)
  rw [h0] at hx
  unfold addF
  rw [hr,hv 0 (by omega),hx,hsn 0]
  simp [bfNew]
 | succ k ih =>
  intro hk
  have h1:=(ih (by omega)).1
  have h2:rightB (ps++bfNew nt id (k+1))=true:=by
   rw [hsn,← List.append_assoc,rightB_snoc,h1,hv k (by omega),hex k (by omega)]
   rfl
  refine ⟨h2,fun hk2=>?_⟩
  unfold addF
  rw [h2,hv (k+1) hk2,hex (k+1) hk2,hsn (k+1)]
  simp
theorem bf_right {p:Prof} (hp:profCheck p=0) {E:List EvM} {nt:Int} (hn:0≤nt∧nt<12):∀ n:Nat,n≤1000→rightB (bfPs p E nt n)=true
 | 0,_=>rfl
 | n+1,h=>by
  have ih:=bf_right (p:=p) hp (E:=E) hn n (by omega)
  show rightB (bfPs p E nt n++bfMore p E nt n)=true
  unfold bfMore
  split
  ·rename_i hk
   exact (bf_add hn (by omega) ih (bf_ok hp n).at_ _ (all_len hp hk).2).1
  ·rw [List.append_nil]
   exact ih
theorem parts_size {s:List UInt8} {size most:Int} (h1:2≤size):∀ x∈partsF s size most,(x.length:Int)≤size:=by
 intro x hx
 unfold partsF at hx
 split at hx
 ·cases hx
 ·obtain ⟨i,hi,rfl⟩:=List.getElem_of_mem hx
  have:=(partsL_each (size:=size.toNat) (by omega) (most - 1).toNat s i _ (List.getElem?_eq_getElem hi)).1
  omega
theorem shown_full {n:Int} {files:List Int} (h:(shownP n [] files).length=files.length):shownP n [] files=files∧(files.length:Int)≤n∨files=[]:=by
 unfold shownP at h ⊢
 have hf:(files.filter fun f=>!decide (f∈([]:List Int)))=files:=by simp
 rw [hf,List.length_take] at h
 rw [hf]
 by_cases h0:files=[]
 ·exact .inr h0
 ·have:0<files.length:=List.length_pos_iff.2 h0
  refine .inl ⟨List.take_of_length_le (by omega),by omega⟩
theorem way_own (p:Prof):(sameW (wayL p) 2=true→p.edit=2)∧(sameW (wayL p) 3=true→¬ p.delete=0)∧(sameW (wayL p) 4=true→p.react=true)∧(sameW (wayL p) 6=true→p.quote=true)∧(sameW (wayL p) 7=true→p.mention=true):=by
 refine ⟨fun h=>?_,fun h=>?_,fun h=>?_,fun h=>?_,fun h=>?_⟩
 ·simp only [sameW,wayL,List.getD_cons_succ,List.getD_cons_zero,editW] at h
  split at h
  ·rename_i h2
   simp only [editsB,Bool.and_eq_true,beq_iff_eq] at h2
   exact h2.1
  ·simp at h
 ·simp only [sameW,wayL,List.getD_cons_succ,List.getD_cons_zero,goneW] at h
  split at h
  ·split at h <;> simp at h
  ·assumption
 ·simp only [sameW,wayL,List.getD_cons_succ,List.getD_cons_zero,reactW] at h
  split at h
  ·assumption
  ·simp at h
 ·simp only [sameW,wayL,List.getD_cons_succ,List.getD_cons_zero,ownW] at h
  split at h
  ·assumption
  ·simp at h
 ·simp only [sameW,wayL,List.getD_cons_succ,List.getD_cons_zero,ownW] at h
  split at h
  ·assumption
  ·simp at h
theorem means0 {p:Prof} {r:RawM} (h:r.kind=0):meansB p r=meansPost p r:=by
 unfold meansB
 rw [if_pos h]
theorem means1 {p:Prof} {r:RawM} (h:r.kind=1):meansB p r=(p.edit==2):=by
 unfold meansB
 rw [if_neg (by omega),if_pos h]
theorem means3 {p:Prof} {r:RawM} (h:r.kind=3∨r.kind=4):meansB p r=p.react:=by
 unfold meansB
 rw [if_neg (by omega),if_neg (by omega),if_neg (by omega),if_pos h]
theorem means2 {p:Prof} {r:RawM} (h:r.kind=2):meansB p r=!(p.delete==0):=by
 unfold meansB
 rw [if_neg (by omega),if_neg (by omega),if_pos h]
theorem files_le {p:Prof} (hp:profCheck p=0):0≤p.files:=by
 unfold profCheck at hp
 split at hp
 ·rename_i h2
  simp only [profRight,headB,numbersB,stepB,inR,Bool.and_eq_true,decide_eq_true_eq] at h2
  omega
 ·cases hp
theorem bf_main {p:Prof} {E:List EvM} {nt step:Int} {id:Nat} {ps:List Pair} (hp:profCheck p=0) (hc:openC E=0) (hi:id<E.length) (hps:BfOk E nt ps id) (hn:0≤nt∧nt<12) (hs:0≤step∧step≤1073741824)
  (h:plainB (wayL p) (evAt E id) (allP p (wayL p) E [] id)=true):backS p ps nt (rawB ps nt (evAt E id) ((allP p (wayL p) E [] id).headD noIt)) step=(asB nt step (evAt E id),0):=by
 have C:=conv_at hc hi
 have hz:=size_ge hp
 have hf0:=files_le hp
 have hR:=C.right
 obtain ⟨wo2,wo3,wo4,wo6,wo7⟩:=way_own p
 unfold plainB at h
 simp only [Bool.and_eq_true,decide_eq_true_eq] at h
 obtain ⟨hl,hx⟩:=h
 obtain ⟨x,hit⟩:=List.length_eq_one_iff.1 hl
 rw [hit] at hx ⊢
 show backS p ps nt (rawB ps nt (evAt E id) x) step=_
 replace hx:plainX (wayL p) (evAt E id) x=true:=hx
 have hbt:∀ {y:List UInt8} {z:ByteArray},bs y=z→y.length=z.size:=fun h=>by rw [← h,bs_size]
 by_cases hk:(evAt E id).kind=0
 ·-- a message
  unfold plainX at hx
  rw [if_pos hk] at hx
  simp only [Bool.and_eq_true,Bool.or_eq_true,beq_iff_eq,decide_eq_true_eq] at hx
  obtain ⟨h5,h6,h7,htx,hfl⟩:=hx
  have hall:allP p (wayL p) E [] id=firstP p (wayL p) E [] id:=by
   unfold allP
   rw [if_pos hk]
  have hfi:=hit
  rw [hall] at hfi
  have hlen:(partsF (sayP p (wayL p) E [] id (tx (evAt E id)) (evAt E id).files) p.size p.parts).length=1:=by
   have:=congrArg List.length hfi
   unfold firstP at this
   rwa [headM_len,itemsP_len] at this
  obtain ⟨s,hs1⟩:=List.length_eq_one_iff.1 hlen
  rw [firstP_one hs1] at hfi
  have hxe:x=⟨id,0,1,0,onP p E id,0,quoteP (wayL p) E id,whoP (wayL p) E id,0,s,shownP p.files [] (evAt E id).files⟩:=by
   have:=List.head_eq_of_cons_eq hfi
   exact this.symm
  have hsl:=parts_size hz.1 s (by rw [hs1];exact List.mem_singleton.2 rfl)
  subst hxe
  simp only at htx hfl h6
  have hsx:=hbt htx
  have hon:knownR ps nt (if onP p E id<0 then -1 else numB ps nt (onP p E id))=((evAt E id).target,true)∧((if onP p E id<0 then -1 else numB ps nt (onP p E id))=-1∨¬ p.thread=0):=by
   rcases C.tgt with ht | ⟨ht,_⟩
   ·have:onP p E id=-1:=by
     unfold onP
     rw [ht,msgB_neg]
     rfl
    rw [this,ht]
    exact ⟨rfl,.inl rfl⟩
   ·have hne:(evAt E id).target≠-1:=by
     have:=(msgB_at ht).1
     omega
    have hth:=(way_at p 5 (h5.resolve_left hne)).2.1 rfl
    have:onP p E id=(evAt E id).target:=by
     unfold onP placeP
     rw [if_pos ht,if_pos hth]
    rw [this,if_neg (by have:=(msgB_at ht).1;omega)]
    exact ⟨(num_of hps ht).1,.inr (by omega)⟩
  have hqu:knownR ps nt (if quoteP (wayL p) E id<0 then -1 else numB ps nt (quoteP (wayL p) E id))=((evAt E id).quote,true)∧((if quoteP (wayL p) E id<0 then -1 else numB ps nt (quoteP (wayL p) E id))=-1∨p.quote=true):=by
   rcases C.quo with ht | ⟨ht,_⟩
   ·have:quoteP (wayL p) E id=-1:=by
     unfold quoteP
     rw [ht,msgB_neg]
     rfl
    rw [this,ht]
    exact ⟨rfl,.inl rfl⟩
   ·have hne:(evAt E id).quote≠-1:=by
     have:=(msgB_at ht).1
     omega
    obtain ⟨h61,h62⟩:=h6.resolve_left hne
    rw [h62,if_neg (by have:=(msgB_at ht).1;omega)]
    exact ⟨(num_of hps ht).1,.inr (wo6 h61)⟩
  have hwh:whoP (wayL p) E id=(evAt E id).who∧(whoP (wayL p) E id=-1∨p.mention=true):=by
   unfold whoP
   split
   ·rename_i h
    exact ⟨rfl,.inr (wo7 h)⟩
   ·rename_i h
    have:=h7.resolve_right h
    exact ⟨this.symm,.inl rfl⟩
  refine back_as hp hn hs hR rfl rfl rfl (fun _=>hon.1) (fun _=>hqu.1) (fun _=>hwh.1) (fun h=>?_) (fun _=>⟨htx,?_,by omega,?_⟩) ?_
  ·rw [hk] at h
   cases h
  ·show shownP p.files [] (evAt E id).files=_
   rcases shown_full hfl with h | h
   ·exact h.1
   ·rw [h]
    simp [shownP]
  ·rcases shown_full hfl with h | h
   ·exact h.2
   ·rw [h]
    simpa using hf0
  ·rw [means0 hk]
   unfold meansPost
   simp only [Bool.and_eq_true,Bool.or_eq_true,beq_iff_eq,Bool.not_eq_true',beq_eq_false_iff_ne]
   exact ⟨hon.2,hqu.2,hwh.2⟩
 ·have ha:actB E id=true:=by
   cases ha:actB E id
   ·have:allP p (wayL p) E [] id=[]:=by
     unfold allP
     rw [if_neg hk,if_pos ha]
    rw [this] at hit
    cases hit
   ·rfl
  have hmsg:msgB E (evAt E id).target id=true:=by
   unfold actB at ha
   simp only [Bool.and_eq_true] at ha
   exact ha.1
  have hma:=msgB_at hmsg
  have hkn:∀ y:ItM,y.on=(evAt E id).target→knownR ps nt (if y.on<0 then -1 else numB ps nt y.on)=((evAt E id).target,true):=fun y hy=>by
   rw [hy,if_neg (by omega)]
   exact (num_of hps hmsg).1
  have hpos:0<manyP p (wayL p) E [] id:=manyP_pos hz.1 hz.2.1
  by_cases hk1:(evAt E id).kind=1
  ·unfold plainX at hx
   rw [if_neg hk,if_pos hk1] at hx
   simp only [Bool.and_eq_true,decide_eq_true_eq] at hx
   obtain ⟨h2,htx,hfl⟩:=hx
   have hall:allP p (wayL p) E [] id=headM (fun x=>{x with files:=shownP p.files [] (evAt E id).files}) (aboutP id 1 (evAt E id).target (partsF (sayP p (wayL p) E [] (evAt E id).target.toNat (tx (evAt E id)) (evAt E id).files) p.size (manyP p (wayL p) E [] id)) (manyP p (wayL p) E [] id)):=by
    unfold allP editP
    rw [if_neg hk,if_neg (by simp [ha]),if_pos hk1,if_pos h2]
   generalize hmany:manyP p (wayL p) E [] id=many at *
   have hm1:many=1:=by
    have:=congrArg List.length (hall.symm.trans hit)
    rwa [headM_len,aboutP_len] at this
   subst hm1
   generalize sayP p (wayL p) E [] (evAt E id).target.toNat (tx (evAt E id)) (evAt E id).files=say at *
   have hpl:∀ y∈fillT 1 (partsF say p.size (1:Nat)),(y.length:Int)≤p.size:=fun y hy=>by
    unfold fillT at hy
    rcases List.mem_append.1 hy with hy | hy
    ·exact parts_size hz.1 y (List.mem_of_mem_take hy)
    ·rw [(List.mem_replicate.1 hy).2]
     simp
     omega
   have hfl1:=fillT_len 1 (partsF say p.size (1:Nat))
   obtain ⟨s,hs1⟩:=List.length_eq_one_iff.1 hfl1
   have hsl:=hpl s (by rw [hs1];exact List.mem_singleton.2 rfl)
   have hxe:x=⟨id,0,1,1,(evAt E id).target,0,-1,-1,0,s,shownP p.files [] (evAt E id).files⟩:=by
    have h9:=hall.symm.trans hit
    unfold aboutP at h9
    rw [hs1] at h9
    have:=List.head_eq_of_cons_eq h9
    exact this.symm
   subst hxe
   simp only at htx hfl
   have hsx:=hbt htx
   refine back_as hp hn hs hR rfl rfl rfl (fun _=>hkn ⟨id,0,1,1,(evAt E id).target,0,-1,-1,0,s,_⟩ rfl) (fun h=>?_) (fun h=>?_) (fun h=>?_) (fun _=>⟨htx,?_,by omega,?_⟩) ?_
   ·rw [hk1] at h;cases h
   ·rw [hk1] at h;cases h
   ·rw [hk1] at h;cases h
   ·show shownP p.files [] (evAt E id).files=_
    rcases shown_full hfl with h | h
    ·exact h.1
    ·rw [h]
     simp [shownP]
   ·rcases shown_full hfl with h | h
    ·exact h.2
    ·rw [h]
     simpa using hf0
   ·rw [means1 hk1]
    simpa using wo2 h2
  by_cases hk2:(evAt E id).kind=2
  ·unfold plainX at hx
   rw [if_neg hk,if_neg hk1,if_pos hk2] at hx
   have hall:allP p (wayL p) E [] id=aboutP id 2 (evAt E id).target [] (manyP p (wayL p) E [] id):=by
    unfold allP removeP
    rw [if_neg hk,if_neg (by simp [ha]),if_neg hk1,if_pos hk2,if_pos (by simpa [sameW] using hx)]
   obtain ⟨s,r,hs1⟩:=about_head (id:=id) (kind:=2) (on:=(evAt E id).target) (t:=[]) hpos
   have hxe:x=⟨id,0,(manyP p (wayL p) E [] id),2,(evAt E id).target,0,-1,-1,0,s,[]⟩:=by
    have h9:=(hs1.symm.trans (hall.symm.trans hit))
    have:=List.head_eq_of_cons_eq h9
    exact this.symm
   subst hxe
   refine back_as hp hn hs hR rfl rfl rfl (fun _=>hkn ⟨id,0,(manyP p (wayL p) E [] id),2,(evAt E id).target,0,-1,-1,0,s,[]⟩ rfl) (fun h=>?_) (fun h=>?_) (fun h=>?_) (fun h=>?_) ?_
   ·rw [hk2] at h;cases h
   ·rw [hk2] at h;cases h
   ·rw [hk2] at h;cases h
   ·rw [hk2] at h;cases h
   ·rw [means2 hk2]
    simpa using wo3 hx
  by_cases hk3:(evAt E id).kind=3∨(evAt E id).kind=4
  ·unfold plainX at hx
   rw [if_neg hk,if_neg hk1,if_neg hk2] at hx
   have hall:allP p (wayL p) E [] id=[⟨id,0,1,if (evAt E id).kind=4 then 4 else 3,(evAt E id).target,0,-1,-1,(evAt E id).n,[],[]⟩]:=by
    unfold allP reactP
    rw [if_neg hk,if_neg (by simp [ha]),if_neg hk1,if_neg hk2,if_pos hk3,if_pos hx]
   have hxe:x=⟨id,0,1,if (evAt E id).kind=4 then 4 else 3,(evAt E id).target,0,-1,-1,(evAt E id).n,[],[]⟩:=by
    have:=List.head_eq_of_cons_eq (hall.symm.trans hit)
    exact this.symm
   have hon:x.on=(evAt E id).target:=by rw [hxe]
   have hxn:x.n=(evAt E id).n:=by rw [hxe]
   refine back_as hp hn hs hR rfl rfl rfl (fun _=>hkn x hon) (fun h=>?_) (fun h=>?_) (fun _=>hxn) (fun h=>?_) ?_
   ·rcases hk3 with h2 | h2 <;> (rw [h2] at h;cases h)
   ·rcases hk3 with h2 | h2 <;> (rw [h2] at h;cases h)
   ·rcases hk3 with h2 | h2 <;> (rw [h2] at h;cases h)
   ·rw [means3 hk3]
    exact wo4 hx
  ·exfalso
   have:allP p (wayL p) E [] id=[]:=by
    unfold allP
    rw [if_neg hk,if_neg (by simp [ha]),if_neg hk1,if_neg hk2,if_neg hk3]
   rw [this] at hit
   cases hit
end Go.Proofs.YtlnnjdibkbabiaaGreatDoor
