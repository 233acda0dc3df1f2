/- Contracts and plain laws, joined: TrB, TrC, TrD, TrE, TrF, TrG, TrH, TlC, TlD. -/
import Derived.Test.YtlnnjdibkbabiaaGreatDoorQbg
import Derived.Test.YtlnnjdibkbabiaaGreatDoorQax
import Derived.Test.YtlnnjdibkbabiaaGreatDoorQaz
/- The plain law of layer 24: what comes back of one event (TripNames,TripRich,BackForth). -/
set_option linter.unusedSimpArgs false
set_option linter.unusedVariables false
namespace Go.Proofs.YtlnnjdibkbabiaaGreatDoor
theorem openGo_at:∀ (r L:List EvM) (k:Nat) (hk:k<r.length),openGo L r=0→stepC (L++r.take k) r[k]=0
 | [],_,k,hk,_=>by simp at hk
 | e::r,L,k,hk,h=>by
  unfold openGo at h
  split at h
  ·rename_i hc
   exact absurd h hc
  ·rename_i hc
   cases k with
   | zero=>simpa using hc
   | succ k =>
    have:=openGo_at r (L++[e]) k (by simpa using hk) h
    simpa using this
structure EvC (E:List EvM) (id:Nat):Prop where
 lt:id<E.length
 right:rightE (evAt E id)=true
 tgt:(evAt E id).target=-1∨(msgB E (evAt E id).target id=true∧(evAt E (evAt E id).target.toNat).group=(evAt E id).group)
 quo:(evAt E id).quote=-1∨(msgB E (evAt E id).quote id=true∧(evAt E (evAt E id).quote.toNat).group=(evAt E id).group)
theorem evAt_lt {E:List EvM} {i:Nat} (h:i<E.length):evAt E i=E[i]:=by
 unfold evAt
 rw [List.getD_eq_getElem?_getD,List.getElem?_eq_getElem h]
 rfl
theorem right_spare {e:EvM} (h:rightE e=true):e=spareE e:=by
 simp only [rightE,Bool.and_eq_true] at h
 exact (sameE_iff _ _).1 h.2.2.2.2.2.2
theorem right_fields {e:EvM} (h:rightE e=true):fieldsB e=true:=by
 simp only [rightE,Bool.and_eq_true] at h
 exact h.2.2.2.1
theorem right_files {e:EvM} (h:rightE e=true):e.files.length≤4:=by
 simp only [rightE,Bool.and_eq_true,filesB,decide_eq_true_eq] at h
 exact h.2.2.2.2.2.1.2
theorem spare_t {e:EvM} (h:e=spareE e):hasT e.kind=false→e.target=-1:=fun h0=>by
 have:=congrArg EvM.target h
 simpa [spareE,h0] using this
theorem spare_q {e:EvM} (h:e=spareE e):hasQ e.kind=false→e.quote=-1:=fun h0=>by
 have:=congrArg EvM.quote h
 simpa [spareE,h0] using this
theorem spare_w {e:EvM} (h:e=spareE e):hasW e.kind=false→e.who=-1:=fun h0=>by
 have:=congrArg EvM.who h
 simpa [spareE,h0] using this
theorem spare_n {e:EvM} (h:e=spareE e):hasN e.kind=false→e.n=0:=fun h0=>by
 have:=congrArg EvM.n h
 simpa [spareE,h0] using this
theorem spare_x {e:EvM} (h:e=spareE e):hasX e.kind=false→e.text=ByteArray.empty∧e.files=[]:=fun h0=>by
 have h1:=congrArg EvM.text h
 have h2:=congrArg EvM.files h
 exact ⟨by simpa [spareE,h0] using h1,by simpa [spareE,h0] using h2⟩
theorem tgt_range {e:EvM} (h:rightE e=true):e.target=-1∨0≤e.target:=by
 cases hT:hasT e.kind
 ·exact .inl (spare_t (right_spare h) hT)
 ·have hf:=right_fields h
  simp only [hasT,Bool.and_eq_true,decide_eq_true_eq] at hT
  have hk:e.kind=0∨e.kind=1∨e.kind=2∨e.kind=3∨e.kind=4:=by omega
  unfold fieldsB at hf
  rcases hk with hk | hk | hk | hk | hk <;> simp [hk,maybeB,belowB] at hf <;> omega
theorem quo_range {e:EvM} (h:rightE e=true):e.quote=-1∨0≤e.quote:=by
 cases hQ:hasQ e.kind
 ·exact .inl (spare_q (right_spare h) hQ)
 ·have hf:=right_fields h
  have hk:e.kind=0:=by simpa [hasQ] using hQ
  unfold fieldsB at hf
  simp [hk,maybeB,belowB] at hf
  omega
theorem ref_msg {E:List EvM} {id:Nat} (hi:id<E.length) {g t:Int} (ht:t=-1∨0≤t) (hm:t<id) (h:refOk (E.take id) g t=true):t=-1∨(msgB E t id=true∧(evAt E t.toNat).group=g):=by
 rcases ht with ht | ht
 ·exact .inl ht
 ·refine .inr ?_
  have hlt:t.toNat<id:=by omega
  have hlt2:t.toNat<E.length:=by omega
  unfold refOk at h
  rw [List.getElem?_take_of_lt hlt,List.getElem?_eq_getElem hlt2] at h
  have hn:(t==-1)=false:=by simp;omega
  rw [hn,Bool.false_or] at h
  simp only [Bool.and_eq_true,beq_iff_eq] at h
  rw [evAt_lt hlt2]
  refine ⟨?_,h.2⟩
  unfold msgB
  rw [evAt_lt hlt2]
  simp [h.1]
  omega
theorem conv_at {E:List EvM} (h:openC E=0) {id:Nat} (hi:id<E.length):EvC E id:=by
 have hs:=openGo_at E [] id hi h
 rw [List.nil_append] at hs
 have he:=evAt_lt hi
 rw [← he] at hs
 unfold stepC at hs
 split at hs
 ·exact absurd hs (by decide)
 rename_i h1
 split at hs
 ·exact absurd hs (by decide)
 split at hs
 ·exact absurd hs (by decide)
 rename_i h3
 split at hs
 ·exact absurd hs (by decide)
 rename_i h4
 have hR:rightE (evAt E id)=true:=by simpa using h1
 rw [not_or] at h3 h4
 have hm:missB (E.take id).length (evAt E id)=false:=by simpa using h3.2
 have hl:(E.take id).length=id:=by simp;omega
 rw [hl] at hm
 simp only [missB,Bool.or_eq_false_iff,decide_eq_false_iff_not] at hm
 refine ⟨hi,hR,ref_msg hi (tgt_range hR) (by omega) (by simpa using h4.1),ref_msg hi (quo_range hR) (by omega) (by simpa using h4.2)⟩
theorem fold_same {e:EvM} {items:List ItM} {xs:List Pair} {net:Int} {r:RawM} (hr:rightE e=true) (ha:r.account=e.author) (hk:r.kind=e.kind) (hg:r.group=e.group) (hT:hasT e.kind=true→(knownR xs net r.on).1=e.target)
  (hQ:hasQ e.kind=true→(knownR xs net r.quote).1=e.quote) (hW:hasW e.kind=true→r.who=e.who) (hN:hasN e.kind=true→r.n=e.n) (hF:hasX e.kind=true→r.files=e.files) (hX:hasX e.kind=true→allText items=tx e) :
  fixP e items (foldE xs net r e.step)=e:=by
 have hs:=right_spare hr
 have s1:=spare_t hs
 have s2:=spare_q hs
 have s3:=spare_w hs
 have s4:=spare_n hs
 have s5:=spare_x hs
 have hbt:∀ x:ByteArray,bs x.data.toList=x:=fun x=>by simp [bs]
 have hxk:hasX e.kind=true ↔ (e.kind=0∨e.kind=1):=by simp [hasX]
 unfold fixP foldE
 rw [ha,hk,hg]
 have e1:(if hasT e.kind=true then (knownR xs net r.on).1 else -1)=e.target:=by
  cases h:hasT e.kind
  ·simp [s1 h]
  ·simp [hT h]
 have e2:(if hasQ e.kind=true then (knownR xs net r.quote).1 else -1)=e.quote:=by
  cases h:hasQ e.kind
  ·simp [s2 h]
  ·simp [hQ h]
 have e3:(if hasW e.kind=true then r.who else -1)=e.who:=by
  cases h:hasW e.kind
  ·simp [s3 h]
  ·simp [hW h]
 have e4:(if hasN e.kind=true then r.n else 0)=e.n:=by
  cases h:hasN e.kind
  ·simp [s4 h]
  ·simp [hN h]
 have e5:(if hasX e.kind=true then r.files else [])=e.files:=by
  cases h:hasX e.kind
  ·simp [(s5 h).2]
  ·simp [hF h]
 have e6:(if e.kind=0∨e.kind=1 then bs (allText items) else if hasX e.kind=true then r.text else ByteArray.empty)=e.text:=by
  cases h:hasX e.kind
  ·rw [if_neg (fun h'=>by rw [hxk.2 h'] at h;cases h)]
   simp [(s5 h).1]
  ·rw [if_pos (hxk.1 h),hX h]
   exact hbt _
 rw [e1,e2,e3,e4,e5]
 simp only [e6]
structure PairsOk (E:List EvM) (ps:List Pair) (id:Nat):Prop where
 loc:∀ (i:Nat) (q:Pair),ps[i]?=some q→q.net=0∧q.loc=i
 has:∀ t:Nat,t<id→(evAt E t).kind=0→t<E.length→∃ q∈ps,q.ev=t∧q.part=0
theorem num_known {ps:List Pair} (hl:∀ (i:Nat) (q:Pair),ps[i]?=some q→q.net=0∧q.loc=i) {t:Int} {net:Int} (h:∃ q∈ps,q.ev=t∧q.part=0) :
  0≤numP ps t 0∧knownR (ps.map (onNet net)) net (numP ps t 0)=(t,true):=by
 obtain ⟨q0,hq0,h0⟩:=h
 unfold numP
 have hsome:(ps.reverse.find? (fun q=>q.ev==t && q.part==0)).isSome=true:=by
  rw [List.find?_isSome]
  exact ⟨q0,List.mem_reverse.2 hq0,by simp [h0]⟩
 obtain ⟨q,hq⟩:=Option.isSome_iff_exists.1 hsome
 rw [hq]
 have hm:q∈ps:=List.mem_reverse.1 (List.mem_of_find?_eq_some hq)
 have hp:=List.find?_some hq
 simp only [Bool.and_eq_true,beq_iff_eq] at hp
 obtain ⟨i,hi,hiq⟩:=List.getElem_of_mem hm
 have hloc:=hl i q (by rw [List.getElem?_eq_getElem hi,hiq])
 refine ⟨by show 0≤q.loc;omega,?_⟩
 show knownR (ps.map (onNet net)) net q.loc=(t,true)
 have hne:¬ q.loc=-1:=by omega
 unfold knownR
 rw [if_neg hne]
 have hs2:(findF (fNL net q.loc) (ps.map (onNet net))).isSome=true:=by
  unfold findF
  rw [List.find?_isSome]
  exact ⟨onNet net q,List.mem_map_of_mem hm,by simp [fNL,onNet]⟩
 obtain ⟨z,hz⟩:=Option.isSome_iff_exists.1 hs2
 rw [hz]
 have hzm:=List.mem_of_find?_eq_some hz
 have hzp:=List.find?_some hz
 simp only [fNL,Bool.and_eq_true,beq_iff_eq] at hzp
 obtain ⟨y,hy,rfl⟩:=List.mem_map.1 hzm
 obtain ⟨j,hj,hjy⟩:=List.getElem_of_mem hy
 have hloc2:=hl j y (by rw [List.getElem?_eq_getElem hj,hjy])
 have:y.loc=q.loc:=hzp.2
 have hij:i=j:=by omega
 subst hij
 have hyq:y=q:=by rw [← hjy,← hiq]
 subst hyq
 simp [evOf,onNet,hp.1]
theorem shown_all {n:Int} {files:List Int} (h:(files.length:Int)≤n∨files=[]):shownP n [] files=files:=by
 rcases h with h | rfl
 ·unfold shownP
  have:(files.filter fun f=>!decide (f∈([]:List Int)))=files:=List.filter_eq_self.2 (fun x _=>by simp)
  rw [this,List.take_of_length_le (by omega)]
 ·simp [shownP]
theorem listed_self (files:List Int):listedP files files=[]:=by
 unfold listedP
 have:(files.filter fun f=>!decide (f∈files))=[]:=by
  rw [List.filter_eq_nil_iff]
  intro a ha
  simp [ha]
 rw [this]
 rfl
theorem parts_short {s:List UInt8} {size most:Int} (h1:2≤size) (h2:1≤most) (h:∀ x∈partsF s size most,(x.length:Int)<size):partsF s size most=[s]:=by
 have hu:partsF s size most=partsL size.toNat (most - 1).toNat s:=by
  unfold partsF
  rw [if_neg (by omega)]
 rw [hu] at h ⊢
 generalize hn:(most - 1).toNat=n at *
 have fit:∀ (y:List UInt8),((fitW size.toNat y).length:Int)<size→fitW size.toNat y=y:=by
  intro y hy
  unfold fitW at hy ⊢
  split
  ·rename_i hc
   rw [if_pos hc] at hy
   simp at hy
   omega
  ·rfl
 by_cases hc:size.toNat<s.length∧0<n
 ·rw [partsL_step hc.1 hc.2] at h
  have:=h _ (List.mem_cons_self ..)
  simp at this
  omega
 ·rw [partsL_end hc] at h ⊢
  rw [fit s (h _ (by simp))]
/- The plain law of layer 24,second part: an event comes back whole where nothing that it uses is lost. -/
theorem headM_text {f:ItM→ItM} (hf:∀ x,(f x).text=x.text) (l:List ItM):(headM f l).map (·.text)=l.map (·.text):=by
 cases l with
 | nil=>rfl
 | cons x r=>simp [headM,hf]
theorem itemsP_text (id kind:Int) (t:List (List UInt8)):(itemsP id kind t).map (·.text)=t:=by
 apply List.ext_getElem
 ·simp [itemsP]
 ·intro i h1 h2
  simp [itemsP]
theorem aboutP_text (id kind on:Int) (t:List (List UInt8)) (many:Nat):(aboutP id kind on t many).map (·.text)=fillT many t:=by
 apply List.ext_getElem
 ·simp [aboutP]
 ·intro i h1 h2
  simp [aboutP]
theorem allText_eq (items:List ItM):allText items=(items.map (·.text)).flatten:=by
 unfold allText
 rw [List.flatMap_def]
theorem long_false {p:Prof} {items:List ItM} (h:textLong p items=false):∀ s∈items.map (·.text),(s.length:Int)<p.size:=by
 intro s hs
 obtain ⟨x,hx,rfl⟩:=List.mem_map.1 hs
 unfold textLong at h
 rw [List.any_eq_false] at h
 have:=h x hx
 simp at this
 omega
theorem msgB_neg {E:List EvM} {than:Int}:msgB E (-1) than=false:=by simp [msgB]
theorem say_own {p:Prof} {W:List (Int × Int)} {E:List EvM} {mid:Nat} {text:List UInt8} {files:List Int} (h5:(evAt E mid).target=-1∨sameW W 5=true) (h6:(evAt E mid).quote=-1∨sameW W 6=true)
  (h7:(evAt E mid).who=-1∨sameW W 7=true) (h8:shownP p.files [] files=files):sayP p W E [] mid text files=text:=by
 have e1:sayRe W E mid=[]:=by
  unfold sayRe
  rw [if_neg]
  rcases h5 with h | h
  ·rw [h,msgB_neg];simp
  ·rw [h];simp
 have e2:sayQu W E mid=[]:=by
  unfold sayQu
  rw [if_neg]
  rcases h6 with h | h
  ·rw [h,msgB_neg];simp
  ·rw [h];simp
 have e3:sayWho W E mid=[]:=by
  unfold sayWho
  rw [if_neg]
  rcases h7 with h | h
  ·rw [h];simp
  ·rw [h];simp
 unfold sayP
 rw [e1,e2,e3,h8,listed_self]
 simp
theorem fill_one {many:Nat} (h:0<many) (s:List UInt8):fillT many [s]=s::List.replicate (many - 1) []:=by
 unfold fillT
 rw [List.take_of_length_le (by simp;omega)]
 rfl
theorem fill_sub {many:Nat} {t:List (List UInt8)} (h:t.length≤many):∀ s∈t,s∈fillT many t:=fun s hs=>by
 unfold fillT
 rw [List.take_of_length_le h]
 exact List.mem_append_left _ hs
theorem flat_rep (n:Nat):(List.replicate n ([]:List UInt8)).flatten=[]:=by
 rw [List.flatten_eq_nil_iff]
 intro l hl
 exact (List.mem_replicate.1 hl).2
theorem way_at (p:Prof) (c:Nat):sameW (wayL p) c=true→(c=1→False)∧(c=5→p.thread=2)∧(c=8→4≤p.files):=by
 intro h
 refine ⟨?_,?_,?_⟩
 ·rintro rfl
  simp only [sameW,wayL,List.getD_cons_succ,List.getD_cons_zero,longW] at h
  split at h
  ·split at h <;> simp at h
  ·simp at h
 ·rintro rfl
  simp only [sameW,wayL,List.getD_cons_succ,List.getD_cons_zero,replyW] at h
  split at h
  ·assumption
  ·split at h <;> simp at h
 ·rintro rfl
  simp only [sameW,wayL,List.getD_cons_succ,List.getD_cons_zero,Go.Proofs.YtlnnjdibkbabiaaGreatDoor.fileW] at h
  split at h
  ·assumption
  ·split at h <;> simp at h
theorem come_same {p:Prof} {ps:List Pair} {e:EvM} {items:List ItM} (hr:rightE e=true) (h0:(comeP p ps e (items.headD noIt)).2=0) (hk:(items.headD noIt).kind=e.kind)
  (hT:hasT e.kind=true→e.target=-1∧(items.headD noIt).on=-1∨(items.headD noIt).on=e.target∧(items.headD noIt).onPart=0∧0≤e.target∧∃ q∈ps,q.ev=e.target∧q.part=0)
  (hQ:hasQ e.kind=true→e.quote=-1∧(items.headD noIt).quote=-1∨(items.headD noIt).quote=e.quote∧0≤e.quote∧∃ q∈ps,q.ev=e.quote∧q.part=0)
  (hW:hasW e.kind=true→(items.headD noIt).who=e.who) (hN:hasN e.kind=true→(items.headD noIt).n=e.n) (hF:hasX e.kind=true→(items.headD noIt).files=e.files) (hX:hasX e.kind=true→allText items=tx e)
  (hl:∀ (i:Nat) (q:Pair),ps[i]?=some q→q.net=0∧q.loc=i):fixP e items (comeP p ps e (items.headD noIt)).1=e:=by
 generalize items.headD noIt=x at *
 have hb:=back_ok _ _ _ _ _ h0
 unfold comeP
 rw [hb.eq]
 refine fold_same hr rfl hk rfl ?_ ?_ hW hN hF hX
 ·intro h
  rcases hT h with ⟨h1,h2⟩ | ⟨h1,h2,h3,h4⟩
  ·have:(rawT ps e x).on=-1:=by simp [rawT,h2]
   rw [this,h1]
   rfl
  ·have hn:=num_known (net:=netI e.author) hl h4
   have:(rawT ps e x).on=numP ps e.target 0:=by
    show (if x.on<0 then -1 else numP ps x.on x.onPart)=_
    rw [if_neg (by omega),h1,h2]
   rw [this,hn.2]
 ·intro h
  rcases hQ h with ⟨h1,h2⟩ | ⟨h1,h3,h4⟩
  ·have:(rawT ps e x).quote=-1:=by simp [rawT,h2]
   rw [this,h1]
   rfl
  ·have hn:=num_known (net:=netI e.author) hl h4
   have:(rawT ps e x).quote=numP ps e.quote 0:=by
    show (if x.quote<0 then -1 else numP ps x.quote 0)=_
    rw [if_neg (by omega),h1]
   rw [this,hn.2]
theorem pairs_num (id:Int):∀ (l:List ItM) (n:Nat) (i:Nat) (q:Pair),(pairsP id n l)[i]?=some q→q.net=0∧q.loc=((n+i:Nat):Int)∧q.ev=id
 | [],_,i,q,h=>by simp [pairsP] at h
 | x::r,n,i,q,h=>by
  unfold pairsP at h
  split at h
  ·cases i with
   | zero =>
    simp at h
    subst h
    exact ⟨rfl,rfl,rfl⟩
   | succ i =>
    have:=pairs_num id r (n+1) i q (by simpa using h)
    refine ⟨this.1,?_,this.2.2⟩
    rw [this.2.1]
    congr 1
    omega
  ·exact pairs_num id r n i q h
theorem new_loc {st:TrS} {id:Nat} {items:List ItM} (h:∀ (i:Nat) (q:Pair),st.pairs[i]?=some q→q.net=0∧q.loc=i):∀ (i:Nat) (q:Pair),(newPairs st id items)[i]?=some q→q.net=0∧q.loc=i:=by
 intro i q hq
 unfold newPairs at hq
 by_cases hi:i<st.pairs.length
 ·rw [List.getElem?_append_left hi] at hq
  exact h i q hq
 ·rw [List.getElem?_append_right (by omega)] at hq
  have:=pairs_num _ _ _ _ _ hq
  refine ⟨this.1,?_⟩
  rw [this.2.1]
  congr 1
  omega
theorem new_has {st:TrS} {id:Nat} {items:List ItM} {t:Int} (h:∃ q∈st.pairs,q.ev=t∧q.part=0):∃ q∈newPairs st id items,q.ev=t∧q.part=0:=by
 obtain ⟨q,hq,h2⟩:=h
 exact ⟨q,List.mem_append_left _ hq,h2⟩
/- The plain law of layer 24,third part: show_same. -/
structure ShowAt (p:Prof) (E:List EvM) (st:TrS) (id:Nat):Prop where
 ck:profCheck p=0
 ev:EvC E id
 ps:PairsOk E st.pairs id
def NoLoss (p:Prof) (E:List EvM) (id:Nat):Prop:=∀ c:Nat,1≤c→c≤8→usedB p E (evAt E id) (allP p (wayL p) E [] id) c=true→sameW (wayL p) c=true
theorem msgB_has {E:List EvM} {ps:List Pair} {id:Nat} (h:PairsOk E ps id) {t:Int} (hm:msgB E t id=true):∃ q∈ps,q.ev=t∧q.part=0:=by
 have h1:=msgB_at hm
 obtain ⟨q,hq,h2,h3⟩:=h.has t.toNat (by omega) h1.2.2.2 (by omega)
 exact ⟨q,hq,by omega,h3⟩
theorem size_ge {p:Prof} (h:profCheck p=0):2≤p.size∧1≤p.parts∧p.parts≤20∧p.size≤4000:=by
 have:=check_bounds p h
 omega
theorem noLoss_short {p:Prof} {E:List EvM} {id:Nat} (h:NoLoss p E id):textLong p (allP p (wayL p) E [] id)=false:=by
 cases hc:textLong p (allP p (wayL p) E [] id)
 ·rfl
 ·exact absurd rfl ((way_at p 1 (h 1 (by omega) (by omega) (by
   show usedB p E (evAt E id) _ 1=true
   unfold usedB
   rw [if_pos rfl,hc]
   rfl))).1)
theorem noLoss_shown {p:Prof} {E:List EvM} {id:Nat} (h:NoLoss p E id) (hr:rightE (evAt E id)=true) (hk:(evAt E id).kind=0∨(evAt E id).kind=1):shownP p.files [] (evAt E id).files=(evAt E id).files:=by
 refine shown_all ?_
 by_cases hf:(evAt E id).files=[]
 ·exact .inr hf
 ·refine .inl ?_
  have hl:0<(evAt E id).files.length:=List.length_pos_iff.2 hf
  have:=(way_at p 8 (h 8 (by omega) (by omega) (by
   show usedB p E (evAt E id) _ 8=true
   unfold usedB
   rw [if_neg (by decide),if_neg (by decide),if_neg (by decide),if_neg (by decide),if_neg (by decide),if_neg (by decide),if_neg (by decide),if_pos rfl]
   simp only [Bool.and_eq_true,Bool.or_eq_true,beq_iff_eq,decide_eq_true_eq]
   exact ⟨hk,hl⟩))).2.2 rfl
  have h4:=right_files hr
  omega
theorem noLoss_words {p:Prof} {E:List EvM} {id:Nat} (h:NoLoss p E id) {m:EvM} (hm:ofE E (evAt E id)=m) (hk:m.kind=0) :
  (m.target=-1∨sameW (wayL p) 5=true)∧(m.quote=-1∨sameW (wayL p) 6=true)∧(m.who=-1∨sameW (wayL p) 7=true):=by
 refine ⟨?_,?_,?_⟩
 ·by_cases hc:m.target=-1
  ·exact .inl hc
  ·refine .inr (h 5 (by omega) (by omega) ?_)
   show usedB p E (evAt E id) _ 5=true
   unfold usedB
   rw [if_neg (by decide),if_neg (by decide),if_neg (by decide),if_neg (by decide),if_pos rfl,hm,hk]
   simpa using hc
 ·by_cases hc:m.quote=-1
  ·exact .inl hc
  ·refine .inr (h 6 (by omega) (by omega) ?_)
   show usedB p E (evAt E id) _ 6=true
   unfold usedB
   rw [if_neg (by decide),if_neg (by decide),if_neg (by decide),if_neg (by decide),if_neg (by decide),if_pos rfl,hm,hk]
   simpa using hc
 ·by_cases hc:m.who=-1
  ·exact .inl hc
  ·refine .inr (h 7 (by omega) (by omega) ?_)
   show usedB p E (evAt E id) _ 7=true
   unfold usedB
   rw [if_neg (by decide),if_neg (by decide),if_neg (by decide),if_neg (by decide),if_neg (by decide),if_neg (by decide),if_pos rfl,hm,hk]
   simpa using hc
theorem noLoss_way {p:Prof} {E:List EvM} {id:Nat} (h:NoLoss p E id):((evAt E id).kind=1→sameW (wayL p) 2=true)∧((evAt E id).kind=2→sameW (wayL p) 3=true)∧((evAt E id).kind=3∨(evAt E id).kind=4→sameW (wayL p) 4=true):=by
 refine ⟨fun hk=>h 2 (by omega) (by omega) ?_,fun hk=>h 3 (by omega) (by omega) ?_,fun hk=>h 4 (by omega) (by omega) ?_⟩
 ·show usedB p E (evAt E id) _ 2=true
  unfold usedB
  rw [if_neg (by decide),if_pos rfl,hk]
  rfl
 ·show usedB p E (evAt E id) _ 3=true
  unfold usedB
  rw [if_neg (by decide),if_neg (by decide),if_pos rfl,hk]
  rfl
 ·show usedB p E (evAt E id) _ 4=true
  unfold usedB
  rw [if_neg (by decide),if_neg (by decide),if_neg (by decide),if_pos rfl]
  rcases hk with hk | hk <;> rw [hk] <;> rfl
structure Whole (p:Prof) (E:List EvM) (ps:List Pair) (e:EvM) (items:List ItM):Prop where
 kind:(items.headD noIt).kind=e.kind
 tgt:hasT e.kind=true→e.target=-1∧(items.headD noIt).on=-1∨(items.headD noIt).on=e.target∧(items.headD noIt).onPart=0∧0≤e.target∧∃ q∈ps,q.ev=e.target∧q.part=0
 quo:hasQ e.kind=true→e.quote=-1∧(items.headD noIt).quote=-1∨(items.headD noIt).quote=e.quote∧0≤e.quote∧∃ q∈ps,q.ev=e.quote∧q.part=0
 who:hasW e.kind=true→(items.headD noIt).who=e.who
 n:hasN e.kind=true→(items.headD noIt).n=e.n
 fi:hasX e.kind=true→(items.headD noIt).files=e.files
 txt:hasX e.kind=true→allText items=tx e
theorem whole_more {p:Prof} {E:List EvM} {st:TrS} {id:Nat} {e:EvM} {items its:List ItM} (h:Whole p E st.pairs e items):Whole p E (newPairs st id its) e items:=by
 refine ⟨h.kind,fun h1=>?_,fun h1=>?_,h.who,h.n,h.fi,h.txt⟩
 ·rcases h.tgt h1 with h2 | ⟨h2,h3,h4,h5⟩
  ·exact .inl h2
  ·exact .inr ⟨h2,h3,h4,new_has h5⟩
 ·rcases h.quo h1 with h2 | ⟨h2,h4,h5⟩
  ·exact .inl h2
  ·exact .inr ⟨h2,h4,new_has h5⟩
theorem firstP_one {p:Prof} {W:List (Int × Int)} {E:List EvM} {id:Nat} {s:List UInt8} (h:partsF (sayP p W E [] id (tx (evAt E id)) (evAt E id).files) p.size p.parts=[s]) :
  firstP p W E [] id=[⟨id,0,1,0,onP p E id,0,quoteP W E id,whoP W E id,0,s,shownP p.files [] (evAt E id).files⟩]:=by
 unfold firstP
 rw [h]
 rfl
theorem whole_post {p:Prof} {E:List EvM} {st:TrS} {id:Nat} (H:ShowAt p E st id) (hn:NoLoss p E id) (hk:(evAt E id).kind=0):Whole p E st.pairs (evAt E id) (allP p (wayL p) E [] id):=by
 have hz:=size_ge H.ck
 have hall:allP p (wayL p) E [] id=firstP p (wayL p) E [] id:=by
  unfold allP
  rw [if_pos hk]
 have hsh:=noLoss_shown hn H.ev.right (.inl hk)
 have hm:ofE E (evAt E id)=evAt E id:=by
  unfold ofE
  rw [if_neg (by omega)]
 obtain ⟨w5,w6,w7⟩:=noLoss_words hn hm hk
 have hlong:=long_false (noLoss_short hn)
 have htx:(firstP p (wayL p) E [] id).map (·.text)=partsF (sayP p (wayL p) E [] id (tx (evAt E id)) (evAt E id).files) p.size p.parts:=by
  unfold firstP
  refine Eq.trans (headM_text ?_ _) (itemsP_text _ _ _)
  exact fun _=>rfl
 rw [hall,htx] at hlong
 rw [say_own w5 w6 w7 hsh] at hlong
 have hone:=parts_short hz.1 hz.2.1 hlong
 have hf:=firstP_one (p:=p) (W:=wayL p) (E:=E) (id:=id) (s:=tx (evAt E id)) (by rw [say_own w5 w6 w7 hsh,hone])
 rw [hall,hf]
 refine ⟨hk.symm,fun _=>?_,fun _=>?_,fun _=>?_,fun h=>?_,fun _=>hsh,fun _=>by simp [allText]⟩
 ·show _∧onP p E id=-1∨onP p E id=_∧(0:Int)=0∧_
  rcases H.ev.tgt with h | ⟨h,_⟩
  ·refine .inl ⟨h,?_⟩
   unfold onP
   rw [h,msgB_neg]
   rfl
  ·have h5:(evAt E id).target≠-1:=by
    have:=(msgB_at h).1
    omega
   have ht:=(way_at p 5 (w5.resolve_left h5)).2.1 rfl
   refine .inr ⟨?_,rfl,(msgB_at h).1,msgB_has H.ps h⟩
   unfold onP placeP
   rw [if_pos h,if_pos ht]
 ·show _∧quoteP _ E id=-1∨quoteP _ E id=_∧_
  rcases H.ev.quo with h | ⟨h,_⟩
  ·refine .inl ⟨h,?_⟩
   unfold quoteP
   rw [h,msgB_neg]
   rfl
  ·have h5:(evAt E id).quote≠-1:=by
    have:=(msgB_at h).1
    omega
   refine .inr ⟨?_,(msgB_at h).1,msgB_has H.ps h⟩
   unfold quoteP
   rw [if_pos (by rw [h,w6.resolve_left h5];rfl)]
 ·show whoP _ E id=_
  unfold whoP
  split
  ·rfl
  ·rename_i h
   rcases w7 with h7 | h7
   ·exact h7.symm
   ·exact absurd h7 h
 ·rw [hk] at h
  cases h
theorem about_head {id kind on:Int} {t:List (List UInt8)} {many:Nat} (h:0<many):∃ s r,aboutP id kind on t many=⟨id,0,many,kind,on,0,-1,-1,0,s,[]⟩::r:=by
 have hl:=fillT_len many t
 cases hf:fillT many t with
 | nil=>rw [hf] at hl;simp at hl;omega
 | cons s r=>exact ⟨s,r.mapIdx fun i s=>⟨id,(i+1:Nat),many,kind,on,(i+1:Nat),-1,-1,0,s,[]⟩,by simp [aboutP,hf,List.mapIdx_cons]⟩
theorem whole_edit {p:Prof} {E:List EvM} {st:TrS} {id:Nat} (H:ShowAt p E st id) (hn:NoLoss p E id) (ha:actB E id=true) (hk:(evAt E id).kind=1):Whole p E st.pairs (evAt E id) (allP p (wayL p) E [] id):=by
 have hz:=size_ge H.ck
 have hsw:=(noLoss_way hn).1 hk
 have hall:allP p (wayL p) E [] id=editP p (wayL p) E [] id:=by
  unfold allP
  rw [if_neg (by omega),if_neg (by simp [ha]),if_pos hk]
 have hmsg:msgB E (evAt E id).target id=true:=by
  unfold actB at ha
  simp only [Bool.and_eq_true] at ha
  exact ha.1
 have hma:=msgB_at hmsg
 have hsh:=noLoss_shown hn H.ev.right (.inr hk)
 have hm:ofE E (evAt E id)=evAt E (evAt E id).target.toNat:=by
  unfold ofE
  rw [if_pos hk]
 obtain ⟨w5,w6,w7⟩:=noLoss_words hn hm hma.2.2.2
 have hlong:=long_false (noLoss_short hn)
 have hpos:0<manyP p (wayL p) E [] id:=manyP_pos hz.1 hz.2.1
 have hle:((manyP p (wayL p) E [] id:Nat):Int)≤p.parts:=by
  unfold manyP firstP
  rw [headM_len,itemsP_len]
  exact partsF_le hz.2.1
 generalize hmany:manyP p (wayL p) E [] id=many at *
 have hed:editP p (wayL p) E [] id=headM (fun x=>{x with files:=shownP p.files [] (evAt E id).files}) (aboutP id 1 (evAt E id).target (partsF (tx (evAt E id)) p.size many) many):=by
  unfold editP
  rw [if_pos hsw,hmany,say_own w5 w6 w7 hsh]
 have htx:(editP p (wayL p) E [] id).map (·.text)=fillT many (partsF (tx (evAt E id)) p.size many):=by
  rw [hed]
  refine Eq.trans (headM_text ?_ _) (aboutP_text _ _ _ _ _)
  exact fun _=>rfl
 rw [hall,htx] at hlong
 have hm1:1≤(many:Int):=by omega
 have hone:partsF (tx (evAt E id)) p.size many=[tx (evAt E id)]:=parts_short hz.1 hm1 (fun x hx=>hlong x (fill_sub (by have:=partsF_le (s:=tx (evAt E id)) (size:=p.size) hm1;omega) x hx))
 obtain ⟨s,r,hs⟩:=about_head (id:=id) (kind:=1) (on:=(evAt E id).target) (t:=partsF (tx (evAt E id)) p.size many) hpos
 rw [hall]
 have hhd:(editP p (wayL p) E [] id).headD noIt=⟨id,0,many,1,(evAt E id).target,0,-1,-1,0,s,shownP p.files [] (evAt E id).files⟩:=by
  rw [hed,hs]
  rfl
 refine ⟨by rw [hhd,hk],fun _=>.inr ?_,fun h=>?_,fun h=>?_,fun h=>?_,fun _=>by rw [hhd];exact hsh,fun _=>?_⟩
 ·rw [hhd]
  exact ⟨rfl,rfl,hma.1,msgB_has H.ps hmsg⟩
 ·rw [hk] at h;cases h
 ·rw [hk] at h;cases h
 ·rw [hk] at h;cases h
 ·rw [allText_eq,htx,hone,fill_one hpos]
  simp [flat_rep]
theorem whole_delete {p:Prof} {E:List EvM} {st:TrS} {id:Nat} (H:ShowAt p E st id) (hn:NoLoss p E id) (ha:actB E id=true) (hk:(evAt E id).kind=2):Whole p E st.pairs (evAt E id) (allP p (wayL p) E [] id):=by
 have hz:=size_ge H.ck
 have hsw:=(noLoss_way hn).2.1 hk
 have hall:allP p (wayL p) E [] id=aboutP id 2 (evAt E id).target [] (manyP p (wayL p) E [] id):=by
  unfold allP removeP
  rw [if_neg (by omega),if_neg (by simp [ha]),if_neg (by omega),if_pos hk,if_pos (by simpa [sameW] using hsw)]
 have hmsg:msgB E (evAt E id).target id=true:=by
  unfold actB at ha
  simp only [Bool.and_eq_true] at ha
  exact ha.1
 have hma:=msgB_at hmsg
 have hpos:0<manyP p (wayL p) E [] id:=manyP_pos hz.1 hz.2.1
 obtain ⟨s,r,hs⟩:=about_head (id:=id) (kind:=2) (on:=(evAt E id).target) (t:=[]) hpos
 rw [hall,hs]
 refine ⟨hk.symm,fun _=>.inr ⟨rfl,rfl,hma.1,msgB_has H.ps hmsg⟩,fun h=>?_,fun h=>?_,fun h=>?_,fun h=>?_,fun h=>?_⟩ <;> (rw [hk] at h;cases h)
theorem whole_react {p:Prof} {E:List EvM} {st:TrS} {id:Nat} (H:ShowAt p E st id) (hn:NoLoss p E id) (ha:actB E id=true) (hk:(evAt E id).kind=3∨(evAt E id).kind=4):Whole p E st.pairs (evAt E id) (allP p (wayL p) E [] id):=by
 have hsw:=(noLoss_way hn).2.2 hk
 have hall:allP p (wayL p) E [] id=[⟨id,0,1,if (evAt E id).kind=4 then 4 else 3,(evAt E id).target,0,-1,-1,(evAt E id).n,[],[]⟩]:=by
  unfold allP reactP
  rw [if_neg (by omega),if_neg (by simp [ha]),if_neg (by omega),if_neg (by omega),if_pos hk,if_pos hsw]
 have hmsg:msgB E (evAt E id).target id=true:=by
  unfold actB at ha
  simp only [Bool.and_eq_true] at ha
  exact ha.1
 have hma:=msgB_at hmsg
 rw [hall]
 refine ⟨?_,fun _=>.inr ⟨rfl,rfl,hma.1,msgB_has H.ps hmsg⟩,fun h=>?_,fun h=>?_,fun h=>rfl,fun h=>?_,fun h=>?_⟩
 ·show (if (evAt E id).kind=4 then (4:Int) else 3)=_
  rcases hk with h | h <;> rw [h] <;> rfl
 all_goals rcases hk with h2 | h2 <;> (rw [h2] at h;cases h)
theorem show_same {p:Prof} {E:List EvM} {st:TrS} {id:Nat} (H:ShowAt p E st id) (hn:NoLoss p E id) (h0:(showP p (wayL p) E st id).1=0):(showP p (wayL p) E st id).2.1=evAt E id:=by
 unfold showP at h0 ⊢
 by_cases hi:allP p (wayL p) E [] id=[]
 ·simp only [if_pos hi]
 simp only [if_neg hi] at h0 ⊢
 have hw:Whole p E st.pairs (evAt E id) (allP p (wayL p) E [] id):=by
  by_cases hk:(evAt E id).kind=0
  ·exact whole_post H hn hk
  cases ha:actB E id
  ·exact absurd (by unfold allP;rw [if_neg hk,if_pos ha]) hi
  by_cases hk1:(evAt E id).kind=1
  ·exact whole_edit H hn ha hk1
  by_cases hk2:(evAt E id).kind=2
  ·exact whole_delete H hn ha hk2
  by_cases hk3:(evAt E id).kind=3∨(evAt E id).kind=4
  ·exact whole_react H hn ha hk3
  ·exact absurd (by unfold allP;rw [if_neg hk,if_neg (by simp [ha]),if_neg hk1,if_neg hk2,if_neg hk3]) hi
 have hw2:=whole_more (id:=id) (its:=allP p (wayL p) E [] id) hw
 exact come_same H.ev.right h0 hw2.kind hw2.tgt hw2.quo hw2.who hw2.n hw2.fi hw2.txt (new_loc H.ps.loc)
/- The plain laws of TripNames and TripLines (layer 24). -/
section
variable (p:Prof) (E:List EvM)
def stAt:Nat→TrS
 | 0=>st0
 | i+1=>(showP p (wayL p) E (stAt i) i).2.2
abbrev shAt (i:Nat):Int × EvM × TrS:=showP p (wayL p) E (stAt p E i) i
end
/- The plain laws of TripLines and TripRich (layer 24). -/
section
variable {E:List EvM} {k:Nat}
end
/- The plain law of TripRich (layer 24). -/
/- What is known of every item: its numbers are small,and its text and files too (layer 21). -/
structure ItSmall (x:ItM):Prop where
 kind:0≤x.kind∧x.kind≤4
 on:-1≤x.on∧x.on≤100000
 onPart:0≤x.onPart∧x.onPart≤1000
 quote:-1≤x.quote∧x.quote≤100000
 part:0≤x.part∧x.part≤1000
 text:x.text.length≤10000
 files:x.files.length≤4
theorem parts_le {s:List UInt8} {size most:Int} (h1:2≤size) (h2:size≤4000):∀ x∈partsF s size most,x.length≤4000:=by
 intro x hx
 unfold partsF at hx
 split at hx
 ·cases hx
 ·obtain ⟨i,hi,rfl⟩:=List.getElem_of_mem hx
  have:=(partsL_each (size:=size.toNat) (by omega) (most - 1).toNat s i _ (List.getElem?_eq_getElem hi)).1
  omega
theorem items_small {id kind:Int} {ts:List (List UInt8)} (hk:0≤kind∧kind≤4) (hl:ts.length≤1000) (ht:∀ x∈ts,x.length≤10000):∀ x∈itemsP id kind ts,ItSmall x:=by
 intro x hx
 unfold itemsP at hx
 rw [List.mem_mapIdx] at hx
 obtain ⟨i,hi,rfl⟩:=hx
 exact ⟨hk,by simp,by simp,by simp,by simp;omega,ht _ (List.getElem_mem hi),by simp⟩
theorem headM_small {f:ItM→ItM} (hf:∀ x,ItSmall x→ItSmall (f x)) {l:List ItM} (h:∀ x∈l,ItSmall x):∀ x∈headM f l,ItSmall x:=by
 intro x hx
 cases l with
 | nil=>cases hx
 | cons y r =>
  rcases List.mem_cons.1 hx with rfl | hx
  ·exact hf _ (h _ (List.mem_cons_self ..))
  ·exact h x (List.mem_cons_of_mem _ hx)
theorem root_range {E:List EvM} (hE:E.length≤1000) (t:Int):-1≤rootF E t∧rootF E t≤100000:=by
 have main:∀ (f i:Nat),i<E.length→0≤rootGo E f i∧rootGo E f i≤100000:=by
  intro f
  induction f with
  | zero=>intro i hi;simp only [rootGo];omega
  | succ f ih =>
   intro i hi
   simp only [rootGo]
   split
   ·omega
   ·rename_i h
    have hl:parI E i<i:=by
     unfold parI
     split
     ·rename_i h2
      simp at h2
      exact h2.1
     ·omega
    exact ih _ (by omega)
 unfold rootF
 split
 ·rename_i h
  simp [isMsg] at h
  have:=main t.toNat t.toNat (by omega)
  omega
 ·omega
theorem place_range {p:Prof} {E:List EvM} (hE:E.length≤1000) {t:Int} (h0:0≤t) (h1:t<E.length):-1≤placeP p E t∧placeP p E t≤100000:=by
 unfold placeP
 split
 ·omega
 ·split
  ·exact root_range hE t
  ·omega
theorem about_small {id kind on:Int} {ts:List (List UInt8)} {many:Nat} (hk:0≤kind∧kind≤4) (ho:-1≤on∧on≤100000) (hm:many≤1000) (ht:∀ x∈ts,x.length≤10000):∀ x∈aboutP id kind on ts many,ItSmall x:=by
 intro x hx
 unfold aboutP at hx
 rw [List.mem_mapIdx] at hx
 obtain ⟨i,hi,rfl⟩:=hx
 have hi2:i<many:=by rw [fillT_len] at hi;exact hi
 refine ⟨hk,ho,by simp;omega,by simp,by simp;omega,?_,by simp⟩
 have:=List.getElem_mem hi
 unfold fillT at this
 rcases List.mem_append.1 this with h | h
 ·exact ht _ (List.mem_of_mem_take h)
 ·show ((fillT many ts)[i]).length≤10000
  have h9:(fillT many ts)[i]=[]:=(List.mem_replicate.1 h).2
  rw [h9]
  simp
theorem post_small {p:Prof} (hp:profCheck p=0) {id:Nat} {s:List UInt8} {on:Int} (ho:-1≤on∧on≤100000):∀ x∈postP p id s on,ItSmall x:=by
 have hz:=size_ge hp
 have hl:=partsF_le (s:=s) (size:=p.size) (most:=p.parts) hz.2.1
 exact headM_small (f:=fun x=>{x with on:=on}) (fun x h=>⟨h.kind,ho,h.onPart,h.quote,h.part,h.text,h.files⟩) (items_small ⟨by decide,by decide⟩ (by omega) (fun x hx=>by have:=parts_le hz.1 hz.2.2.2 x hx;omega))
theorem shown_small {p:Prof} (hp:profCheck p=0) (l:List Int):(shownP p.files [] l).length≤4:=by
 have h4:p.files≤4:=by
  unfold profCheck at hp
  split at hp
  ·split at hp
   ·cases hp
   ·rename_i h2
    simp [offB,boundsB,inR] at h2
    omega
  ·cases hp
 unfold shownP
 rw [List.length_take]
 omega
theorem first_small {p:Prof} (hp:profCheck p=0) {E:List EvM} (hE:E.length≤1000) {id:Nat} (C:EvC E id):∀ x∈firstP p (wayL p) E [] id,ItSmall x:=by
 have hz:=size_ge hp
 have hl:=partsF_le (s:=sayP p (wayL p) E [] id (tx (evAt E id)) (evAt E id).files) (size:=p.size) (most:=p.parts) hz.2.1
 have h1:-1≤onP p E id∧onP p E id≤100000:=by
  unfold onP
  split
  ·rename_i h
   have:=msgB_at h
   exact place_range hE this.1 this.2.2.1
  ·omega
 have h2:-1≤quoteP (wayL p) E id∧quoteP (wayL p) E id≤100000:=by
  unfold quoteP
  split
  ·rename_i h
   simp only [Bool.and_eq_true] at h
   have:=msgB_at h.1
   omega
  ·omega
 exact headM_small (f:=fun x=>{x with on:=onP p E id,quote:=quoteP (wayL p) E id,who:=whoP (wayL p) E id,files:=shownP p.files [] (evAt E id).files}) (fun x h=>⟨h.kind,h1,h.onPart,h2,h.part,h.text,shown_small hp _⟩) (items_small ⟨by decide,by decide⟩ (by omega) (fun x hx=>by have:=parts_le hz.1 hz.2.2.2 x hx;omega))
theorem all_small {p:Prof} (hp:profCheck p=0) {E:List EvM} (hE:E.length≤1000) {id:Nat} (C:EvC E id) (hn:0≤(evAt E id).n):∀ x∈allP p (wayL p) E [] id,ItSmall x:=by
 have hz:=size_ge hp
 have hnil:∀ x∈([]:List ItM),ItSmall x:=fun x hx=>by cases hx
 unfold allP
 split
 ·exact first_small hp hE C
 split
 ·exact hnil
 rename_i ha
 have hm:msgB E (evAt E id).target id=true:=by
  cases h:actB E id
  ·exact absurd h ha
  ·unfold actB at h
   simp only [Bool.and_eq_true] at h
   exact h.1
 have hma:=msgB_at hm
 have hpl:=place_range (p:=p) hE hma.1 hma.2.2.1
 have hmany:manyP p (wayL p) E [] id≤1000:=by
  have h2:=partsF_le (s:=sayP p (wayL p) E [] (evAt E id).target.toNat (tx (evAt E (evAt E id).target.toNat)) (evAt E (evAt E id).target.toNat).files) (size:=p.size) (most:=p.parts) hz.2.1
  unfold manyP firstP
  rw [headM_len,itemsP_len]
  omega
 have ht:-1≤(evAt E id).target∧(evAt E id).target≤100000:=by omega
 split
 ·unfold editP
  split
  ·exact headM_small (f:=fun x=>{x with files:=shownP p.files [] (evAt E id).files}) (fun x h=>⟨h.kind,h.on,h.onPart,h.quote,h.part,h.text,shown_small hp _⟩) (about_small ⟨by decide,by decide⟩ ht hmany (fun x hx=>by have:=parts_le hz.1 hz.2.2.2 x hx;omega))
  ·exact post_small hp hpl
 split
 ·unfold removeP
  split
  ·exact about_small ⟨by decide,by decide⟩ ht hmany (fun x hx=>by cases hx)
  ·split
   ·exact about_small ⟨by decide,by decide⟩ ht hmany (fun x hx=>by rw [List.mem_singleton.1 hx];decide)
   ·exact post_small hp hpl
 split
 ·unfold reactP
  split
  ·intro x hx
   rw [List.mem_singleton.1 hx]
   refine ⟨?_,ht,by simp,by simp,by simp,by simp,by simp⟩
   show 0≤(if (evAt E id).kind=4 then (4:Int) else 3)∧(if (evAt E id).kind=4 then (4:Int) else 3)≤4
   split <;> omega
  ·exact post_small hp hpl
 ·exact hnil
/- lingualaw24's rich and plain profiles. -/
open Go.RowKit
set_option maxRecDepth 100000
/- lingualaw24's plain profile. -/
end Go.Proofs.YtlnnjdibkbabiaaGreatDoor
