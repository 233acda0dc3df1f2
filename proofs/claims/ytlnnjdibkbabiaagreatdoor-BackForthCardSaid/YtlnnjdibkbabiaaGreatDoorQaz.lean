/- Contracts and plain laws, joined: WyO, BkJ, BkS. -/
import Derived.Test.YtlnnjdibkbabiaaGreatDoorQax
import Derived.Deep.RegionHeld3
import Derived.Deep.DrawnRows
import Derived.Deep.CutBlock
/- What is known of the boxes while profile.Meet and profile.Join run. -/
set_option linter.unusedSimpArgs false
set_option linter.unusedVariables false
namespace Go.Proofs.YtlnnjdibkbabiaaGreatDoor
open Go.RowKit
structure MS (p q:Prof) (A B:Option Addr) (c d z:Nat) (W:World) (m:Prof) (A':Option Addr) (c':Nat) (w:World):Prop where
 rp:w.rangeAt z 0 (p.cs A c).toList
 rq:w.rangeAt (z+1) 0 (q.cs B d).toList
 tr:w.there (z+2) 0 22
 to_:w.there (z+3) 0 22
 ro:w.rangeAt (z+3) 0 (m.cs A' c').toList
 bl:Below z W w
 sz:z+4≤w.heap.size
theorem range_far {w:World} {b b' j:Nat} {cs:List Value} {v:Value} (h:w.rangeAt b 0 cs) (hne:b≠b'):(w.setCell ⟨b',j,none⟩ v).rangeAt b 0 cs:=fun i x hx=>by
 rw [World.cell?_setCell_other]
 ·exact h i x hx
 ·intro e
  injection e with e1
  exact hne e1.symm
theorem there_set {w:World} {b b' n j:Nat} {v:Value} (h:w.there b 0 n):(w.setCell ⟨b',j,none⟩ v).there b 0 n:=World.there_setCells (vs:=[v]) h b' j
section
variable {p q m m':Prof} {A B A' A'':Option Addr} {c d z c' c'':Nat} {W w w':World}
theorem MS.set (h:MS p q A B c d z W m A' c' w) (k:Nat) (v:Value) (hk:k<22) (hm:(m'.cs A'' c'').toList=(m.cs A' c').toList.set k v):MS p q A B c d z W m' A'' c'' (w.setCell ⟨z+3,k,none⟩ v):=by
 have hl:(m.cs A' c').toList[k]?=some ((m.cs A' c').toList[k]'hk):=List.getElem?_eq_getElem hk
 exact ⟨range_far h.rp (by omega),range_far h.rq (by omega),there_set h.tr,there_set h.to_,hm ▸ range_set h.ro k v _ hl,h.bl.setCell (by simp only;omega) _,by simpa using h.sz⟩
theorem MS.below (h:MS p q A B c d z W m A' c' w) (hb:Below (z+4) w w'):MS p q A B c d z W m A' c' w' :=
 ⟨range_below h.rp hb (by omega),range_below h.rq hb (by omega),there_below h.tr hb (by omega),there_below h.to_ hb (by omega),range_below h.ro hb (by omega),h.bl.trans (hb.mono (by omega)),Nat.le_trans h.sz hb.size⟩
theorem MS.later (h:MS p q A B c d z W m A' c' w) (hb:Below w.heap.size w w'):MS p q A B c d z W m A' c' w':=h.below (hb.mono h.sz)
theorem MS.co (h:MS p q A B c d z W m A' c' w) (j:Nat) (v:Value) (hj:(m.cs A' c')[j]?=some v):w.cell? ⟨z+3,j,none⟩=some v:=range_cell h.ro j v (by rw [← hj];simp)
end
def MX (p q:Prof) (A B:Option Addr) (c d z:Nat) (W w:World):Prop:=∃ m,MS p q A B c d z W m A c w∧m.name=p.name∧m.types=p.types
theorem MX.later {p q:Prof} {A B:Option Addr} {c d z:Nat} {W w w':World} (h:MX p q A B c d z W w) (hb:Below w.heap.size w w'):MX p q A B c d z W w':=by
 obtain ⟨m,hm,h1,h2⟩:=h
 exact ⟨m,hm.later hb,h1,h2⟩
def MT (p q:Prof) (A B:Option Addr) (c d z:Nat) (W:World) (k:Nat) (w:World):Prop:=∃ m A' c',MS p q A B c d z W m A' c' w∧m.name=p.name∧OwnS w (z+4) A' c' m.types∧(∀ s∈m.types,s.size≤9223372036854775807)∧m.types.length≤k
section
variable {p q:Prof} {A B:Option Addr} {c d z k k':Nat} {W w w':World}
theorem MT.mono (h:MT p q A B c d z W k w) (hk:k≤k'):MT p q A B c d z W k' w:=by
 obtain ⟨m,A',c',h1,h2,h3,h4,h5⟩:=h
 exact ⟨m,A',c',h1,h2,h3,h4,by omega⟩
theorem MT.bl (h:MT p q A B c d z W k w):Below z W w:=by obtain ⟨m,A',c',h1,_⟩:=h;exact h1.bl
theorem MT.later (h:MT p q A B c d z W k w) (hb:Below w.heap.size w w'):MT p q A B c d z W k w':=by
 obtain ⟨m,A',c',h1,h2,h3,h4,h5⟩:=h
 exact ⟨m,A',c',h1.later hb,h2,h3.below hb,h4,h5⟩
theorem own_set {T:Type} {sz:Nat} {enc:T→List Value} {e:TypeId} {base b j:Nat} {v:Value} {A':Option Addr} {c':Nat} {xs:List T} (h:OwnL w base e sz enc A' c' xs) (hb:b<base):OwnL (w.setCell ⟨b,j,none⟩ v) base e sz enc A' c' xs :=
 h.kept (grown_setCells w b j [v]) (by
  rcases ho:(Value.slice A' xs.length c').ownBlock with _ | g
  ·exact .inl rfl
  ·refine .inr (fun e=>?_)
   injection e with e
   have:=(h.blk g ho).1
   omega)
theorem MX.start (h:MX p q A B c d z W w):MT p q A B c d z W 0 (w.setCell ⟨z+3,12,none⟩ (.slice none 0 0)):=by
 obtain ⟨m,h1,h2,_⟩:=h
 exact ⟨{m with types:=[]},none,0,h1.set 12 _ (by decide) rfl,h2,OwnL.nil_,by simp,Nat.le_refl _⟩
theorem MT.clear (h:MT p q A B c d z W k w):MT p q A B c d z W k (w.setCell ⟨z+3,12,none⟩ (.slice none 0 0)):=by
 obtain ⟨m,A',c',h1,h2,_⟩:=h
 exact ⟨{m with types:=[]},none,0,h1.set 12 _ (by decide) rfl,h2,OwnL.nil_,by simp,Nat.zero_le _⟩
theorem MT.push {m:Prof} {A' A'':Option Addr} {c' c'' n:Nat} {s:ByteArray} (h1:MS p q A B c d z W m A' c' w) (h2:m.name=p.name) (h3:OwnS w (z+4) A'' c'' (m.types++[s])) (h4:∀ s∈m.types,s.size≤9223372036854775807) (h5:m.types.length≤k) (hs:s.size≤9223372036854775807) (hn:n=m.types.length+1) :
  MT p q A B c d z W (k+1) (w.setCell ⟨z+3,12,none⟩ (.slice A'' n c'')):=by
 subst hn
 refine ⟨{m with types:=m.types++[s]},A'',c'',h1.set 12 _ (by decide) (by simp),h2,own_set h3 (by omega),fun x hx=>?_,by simp;omega⟩
 rcases List.mem_append.1 hx with hx | hx
 ·exact h4 x hx
 ·simp only [List.mem_singleton] at hx
  subst hx
  exact hs
end
/- Contract of profile.Join,exactly. -/
attribute [local go_sem ↓] Go.wp_at_zero Go.wp_at_succ
abbrev mxI (a b:Int):Int:=if a<b then b else a
def longerI (p q:Prof):Int :=
 if ((p.edit != 2) && (q.edit != 2))=true then 0 else if (q.edit != 2)=true then p.within_ else if (p.edit != 2)=true then q.within_ else if ((p.within_==0) || (q.within_==0))=true then 0 else mxI p.within_ q.within_
def J2 (p q:Prof):Prof:={p with edit:=mxI p.edit q.edit,delete:=mxI p.delete q.delete,thread:=mxI p.thread q.thread}
def J3 (p q:Prof):Prof:={J2 p q with react:=p.react || q.react,quote:=p.quote || q.quote,mention:=p.mention || q.mention}
def J4 (p q:Prof):Prof:={J3 p q with size:=mxI p.size q.size,parts:=mxI p.parts q.parts,level:=mxI p.level q.level}
def J5 (p q:Prof):Prof:={J4 p q with files:=mxI p.files q.files,bytes:=mxI p.bytes q.bytes}
def J6 (p q:Prof):Prof:={J5 p q with within_:=longerI p q}
def moreT (p q:Prof) (k:Nat):List ByteArray:=(q.types.take k).filter (fun s=>!hasS p.types s)
def JK (p q:Prof) (k:Nat):Prof:={J6 p q with types:=p.types++moreT p q k}
theorem moreT_step (p q:Prof) (k:Nat) {s:ByteArray} (h:q.types[k]?=some s):moreT p q (k+1)=moreT p q k++(if hasS p.types s=true then [] else [s]):=by
 have hk:=(List.getElem?_eq_some_iff.1 h).1
 have he:=(List.getElem?_eq_some_iff.1 h).2
 unfold moreT
 rw [List.take_succ_eq_append_getElem hk,List.filter_append,he]
 congr 1
 cases hh:hasS p.types s <;> simp [hh]
def JT (p q:Prof) (A B:Option Addr) (c d z:Nat) (W:World) (k:Nat) (w:World):Prop:=∃ A' c',MS p q A B c d z W (JK p q k) A' c' w∧OwnS w (z+4) A' c' (p.types++moreT p q k)
section
variable {p q:Prof} {A B A':Option Addr} {c d z c' k:Nat} {W w w':World}
theorem JT.bl (h:JT p q A B c d z W k w):Below z W w:=by obtain ⟨A',c',h1,_⟩:=h;exact h1.bl
theorem JT.later (h:JT p q A B c d z W k w) (hb:Below w.heap.size w w'):JT p q A B c d z W k w':=by
 obtain ⟨A',c',h1,h3⟩:=h
 exact ⟨A',c',h1.later hb,h3.below hb⟩
theorem JT.skip {s:ByteArray} (h:JT p q A B c d z W k w) (hs:q.types[k]?=some s) (hh:hasS p.types s=true):JT p q A B c d z W (k+1) w:=by
 have e:moreT p q (k+1)=moreT p q k:=by rw [moreT_step p q k hs,if_pos hh,List.append_nil]
 unfold JT JK at h ⊢
 rw [e]
 exact h
theorem JT.push {A'':Option Addr} {c'' n:Nat} {s:ByteArray} (h1:MS p q A B c d z W (JK p q k) A' c' w) (h3:OwnS w (z+4) A'' c'' (p.types++moreT p q k++[s])) (hs:q.types[k]?=some s) (hh:hasS p.types s=false) (hn:n=(p.types++moreT p q k).length+1) :
  JT p q A B c d z W (k+1) (w.setCell ⟨z+3,12,none⟩ (.slice A'' n c'')):=by
 subst hn
 have e:moreT p q (k+1)=moreT p q k++[s]:=by rw [moreT_step p q k hs,if_neg (by rw [hh];decide)]
 refine ⟨A'',c'',h1.set (m':=JK p q (k+1)) 12 _ (by decide) ?_,?_⟩
 ·simp [JK,e]
  omega
 ·rw [e,← List.append_assoc]
  exact own_set h3 (by omega)
end
/- The plain law of BackMeans. -/
structure BackOkd (p:Prof) (xs:List Pair) (net:Int) (r:RawM) (step:Int):Prop where
 args:argsBad p net r=false
 means:meansB p r=true
 full:fullB p r=false
 ok:foldOk xs net r=true
 right:rightE (foldE xs net r step)=true
 eq:backS p xs net r step=(foldE xs net r step,0)
theorem back_ok (p:Prof) (xs:List Pair) (net:Int) (r:RawM) (step:Int) (h:(backS p xs net r step).2=0):BackOkd p xs net r step:=by
 have hh:=h
 unfold backS at h
 cases h1:argsBad p net r
 rotate_left
 ·rw [h1] at h;simp at h
 cases h2:meansB p r
 ·rw [h1,h2] at h;simp at h
 cases h3:fullB p r
 rotate_left
 ·rw [h1,h2,h3] at h;simp at h
 cases h4:(backFold xs net r step).2
 ·rw [h1,h2,h3,h4] at h;simp at h
 cases h5:rightE (backFold xs net r step).1
 ·rw [h1,h2,h3,h4,h5] at h;simp at h
 refine ⟨h1,h2,h3,by rw [backFold_eq] at h4;exact h4,by rw [backFold_eq] at h5;exact h5,?_⟩
 unfold backS
 rw [h1,h2,h3,h4,h5,backFold_eq]
 rfl
end Go.Proofs.YtlnnjdibkbabiaaGreatDoor
