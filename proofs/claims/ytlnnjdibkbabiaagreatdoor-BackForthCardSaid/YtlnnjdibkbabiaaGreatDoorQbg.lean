/- Contracts and plain laws, joined: FoA, TrA. -/
import Derived.Test.YtlnnjdibkbabiaaGreatDoorQag
import Derived.Test.YtlnnjdibkbabiaaGreatDoorQaq
import Derived.Test.YtlnnjdibkbabiaaGreatDoorQav
import Derived.Test.YtlnnjdibkbabiaaGreatDoorQax
/- Events as items of a network (layer 21) in plain Lean. -/
set_option linter.unusedSimpArgs false
set_option linter.unusedVariables false
namespace Go.Proofs.YtlnnjdibkbabiaaGreatDoor
structure ItM where
 event:Int
 part:Int
 of:Int
 kind:Int
 on:Int
 onPart:Int
 quote:Int
 who:Int
 n:Int
 text:List UInt8
 files:List Int
def noEv:EvM:=⟨0,0,[],0,0,0,0,0,0,ByteArray.empty,[],0⟩
def tx (e:EvM):List UInt8:=e.text.data.toList
def evAt (E:List EvM) (i:Nat):EvM:=E.getD i noEv
def sameW (W:List (Int × Int)) (c:Nat):Bool:=(W.getD c (0,0)).1==0
def isMsg (E:List EvM) (id:Int):Bool:=decide (0≤id) && (decide (id<E.length) && ((evAt E id.toNat).kind==0))
def msgB (E:List EvM) (id than:Int):Bool:=decide (0≤id) && (decide (id<than) && (decide (id<E.length) && ((evAt E id.toNat).kind==0)))
def actB (E:List EvM) (id:Nat):Bool :=
 msgB E (evAt E id).target id && (((evAt E (evAt E id).target.toNat).group==(evAt E id).group) && (!((evAt E id).kind==1) || ((evAt E id).author==(evAt E (evAt E id).target.toNat).author)))
def parI (E:List EvM) (id:Nat):Int:=if (decide ((evAt E id).target<id) && isMsg E (evAt E id).target)=true then (evAt E id).target else -1
def rootGo (E:List EvM):Nat→Nat→Int
 | 0,id=>id
 | f+1,id=>if parI E id<0 then id else rootGo E f (parI E id).toNat
def rootF (E:List EvM) (id:Int):Int:=if isMsg E id=true then rootGo E id.toNat id.toNat else -1
def lineP (E:List EvM) (id:Int):List UInt8:=lineF (tx (evAt E id.toNat)) 20
def shownP (n:Int) (bad files:List Int):List Int:=(files.filter fun f=>!decide (f∈bad)).take n.toNat
def sFile:List UInt8:=[10,91,102,105,108,101,32]
def fileT (f:Int):List UInt8:=sFile++Lib.itoa f++[93]
def listedP (files but:List Int):List UInt8:=(files.filter fun f=>!decide (f∈but)).flatMap fileT
def sRe:List UInt8:=[114,101,58,32]
def sQu:List UInt8:=[62,32]
def sAt:List UInt8:=[64]
def sayRe (W:List (Int × Int)) (E:List EvM) (id:Nat):List UInt8 :=
 if (msgB E (evAt E id).target id && !sameW W 5)=true then sRe++lineP E (evAt E id).target++[10] else []
def sayQu (W:List (Int × Int)) (E:List EvM) (id:Nat):List UInt8 :=
 if (msgB E (evAt E id).quote id && !sameW W 6)=true then sQu++lineP E (evAt E id).quote++[10] else []
def sayWho (W:List (Int × Int)) (E:List EvM) (id:Nat):List UInt8 :=
 if (!((evAt E id).who==-1) && !sameW W 7)=true then sAt++Lib.itoa (evAt E id).who++[32] else []
def sayP (p:Prof) (W:List (Int × Int)) (E:List EvM) (bad:List Int) (id:Nat) (text:List UInt8) (files:List Int):List UInt8 :=
 sayRe W E id++sayQu W E id++sayWho W E id++text++listedP files (shownP p.files bad files)
def placeP (p:Prof) (E:List EvM) (id:Int):Int:=if p.thread=2 then id else if p.thread=1 then rootF E id else -1
def itemsP (id kind:Int) (texts:List (List UInt8)):List ItM:=texts.mapIdx fun i s=>⟨id,i,texts.length,kind,-1,0,-1,-1,0,s,[]⟩
def headM (f:ItM→ItM):List ItM→List ItM
 | []=>[]
 | x::r=>f x::r
def postP (p:Prof) (id:Nat) (s:List UInt8) (on:Int):List ItM:=headM (fun x=>{x with on:=on}) (itemsP id 0 (partsF s p.size p.parts))
def onP (p:Prof) (E:List EvM) (id:Nat):Int:=if msgB E (evAt E id).target id=true then placeP p E (evAt E id).target else -1
def quoteP (W:List (Int × Int)) (E:List EvM) (id:Nat):Int:=if (msgB E (evAt E id).quote id && sameW W 6)=true then (evAt E id).quote else -1
def whoP (W:List (Int × Int)) (E:List EvM) (id:Nat):Int:=if sameW W 7=true then (evAt E id).who else -1
def firstP (p:Prof) (W:List (Int × Int)) (E:List EvM) (bad:List Int) (id:Nat):List ItM :=
 headM (fun x=>{x with on:=onP p E id,quote:=quoteP W E id,who:=whoP W E id,files:=shownP p.files bad (evAt E id).files}) (itemsP id 0 (partsF (sayP p W E bad id (tx (evAt E id)) (evAt E id).files) p.size p.parts))
def fillT (many:Nat) (texts:List (List UInt8)):List (List UInt8):=texts.take many++List.replicate (many - texts.length) []
def aboutP (id kind on:Int) (texts:List (List UInt8)) (many:Nat):List ItM:=(fillT many texts).mapIdx fun i s=>⟨id,i,many,kind,on,i,-1,-1,0,s,[]⟩
def manyP (p:Prof) (W:List (Int × Int)) (E:List EvM) (bad:List Int) (id:Nat):Nat:=(firstP p W E bad (evAt E id).target.toNat).length
def sEdit:List UInt8:=[101,100,105,116,58,32]
def sDel:List UInt8:=[40,100,101,108,101,116,101,100,41]
def sGone:List UInt8:=[97,32,109,101,115,115,97,103,101,32,119,97,115,32,100,101,108,101,116,101,100]
def sReact:List UInt8:=[114,101,97,99,116,105,111,110,32]
def sBackT:List UInt8:=[32,116,97,107,101,110,32,98,97,99,107]
def editText (E:List EvM) (id:Nat):List UInt8:=sEdit++lineP E (evAt E id).target++[10]++tx (evAt E id)++listedP (evAt E id).files []
def editP (p:Prof) (W:List (Int × Int)) (E:List EvM) (bad:List Int) (id:Nat):List ItM :=
 if sameW W 2=true then
  headM (fun x=>{x with files:=shownP p.files bad (evAt E id).files}) (aboutP id 1 (evAt E id).target (partsF (sayP p W E bad (evAt E id).target.toNat (tx (evAt E id)) (evAt E id).files) p.size (manyP p W E bad id)) (manyP p W E bad id))
 else postP p id (editText E id) (placeP p E (evAt E id).target)
def removeP (p:Prof) (W:List (Int × Int)) (E:List EvM) (bad:List Int) (id:Nat):List ItM :=
 if (W.getD 3 (0,0)).1=0 then aboutP id 2 (evAt E id).target [] (manyP p W E bad id)
 else if (W.getD 3 (0,0)).1=2 then aboutP id 1 (evAt E id).target [sDel] (manyP p W E bad id)
 else postP p id sGone (placeP p E (evAt E id).target)
def reactText (e:EvM):List UInt8:=sReact++Lib.itoa e.n++(if e.kind=4 then sBackT else [])
def reactP (p:Prof) (W:List (Int × Int)) (E:List EvM) (id:Nat):List ItM :=
 if sameW W 4=true then [⟨id,0,1,if (evAt E id).kind=4 then 4 else 3,(evAt E id).target,0,-1,-1,(evAt E id).n,[],[]⟩]
 else postP p id (reactText (evAt E id)) (placeP p E (evAt E id).target)
def allP (p:Prof) (W:List (Int × Int)) (E:List EvM) (bad:List Int) (id:Nat):List ItM :=
 if (evAt E id).kind=0 then firstP p W E bad id else if actB E id=false then [] else if (evAt E id).kind=1 then editP p W E bad id
 else if (evAt E id).kind=2 then removeP p W E bad id else if (evAt E id).kind=3∨(evAt E id).kind=4 then reactP p W E id else []
theorem headM_len (f:ItM→ItM) (l:List ItM):(headM f l).length=l.length:=by cases l <;> rfl
theorem itemsP_len (id kind:Int) (t:List (List UInt8)):(itemsP id kind t).length=t.length:=by simp [itemsP]
theorem fillT_len (many:Nat) (t:List (List UInt8)):(fillT many t).length=many:=by simp [fillT];omega
theorem aboutP_len (id kind on:Int) (t:List (List UInt8)) (many:Nat):(aboutP id kind on t many).length=many:=by simp [aboutP,fillT_len]
theorem partsF_pos {s:List UInt8} {size most:Int} (h1:2≤size) (h2:1≤most):0<(partsF s size most).length:=by
 unfold partsF
 rw [if_neg (by omega)]
 exact (partsL_len _ _ _).1
theorem partsF_le {s:List UInt8} {size most:Int} (h2:1≤most):((partsF s size most).length:Int)≤most:=by
 unfold partsF
 split
 ·simp;omega
 ·have:=(partsL_len size.toNat (most - 1).toNat s).2
  omega
theorem manyP_pos {p:Prof} {W:List (Int × Int)} {E:List EvM} {bad:List Int} {id:Nat} (h1:2≤p.size) (h2:1≤p.parts):0<manyP p W E bad id:=by
 unfold manyP firstP
 rw [headM_len,itemsP_len]
 exact partsF_pos h1 h2
theorem msgB_at {E:List EvM} {id than:Int} (h:msgB E id than=true):0≤id∧id<than∧id<E.length∧(evAt E id.toNat).kind=0:=by
 simpa [msgB] using h
theorem rootGo_step {E:List EvM} {f id:Nat} (h:¬ parI E id<0) (hf:id≤f) (hp:0<f):rootGo E f id=rootGo E (parI E id).toNat (parI E id).toNat:=by
 have hlt:∀ i:Nat,¬ parI E i<0→(parI E i).toNat<i:=by
  intro i hi
  unfold parI at hi ⊢
  split at hi
  ·rename_i hc
   rw [if_pos hc]
   simp at hc
   omega
  ·omega
 have main:∀ (g f i:Nat),i≤f→i≤g→rootGo E f i=rootGo E g i:=by
  intro g
  induction g with
  | zero =>
   intro f i h1 h2
   obtain rfl:i=0:=by omega
   cases f with
   | zero=>rfl
   | succ f =>
    simp only [rootGo]
    split
    ·rfl
    ·rename_i hc
     have:=hlt 0 hc
     omega
  | succ g ih =>
   intro f i h1 h2
   cases f with
   | zero =>
    obtain rfl:i=0:=by omega
    simp only [rootGo]
    split
    ·rfl
    ·rename_i hc
     have:=hlt 0 hc
     omega
   | succ f =>
    simp only [rootGo]
    split
    ·rfl
    ·rename_i hc
     have:=hlt i hc
     exact ih f _ (by omega) (by omega)
 cases f with
 | zero=>omega
 | succ f =>
  simp only [rootGo,h,if_false]
  have:=hlt id h
  exact main _ _ _ (by omega) (Nat.le_refl _)
/- There and back (layer 24) in plain Lean. -/
structure TrS where
 pairs:List Pair
 uses:Int→Bool
def numP (ps:List Pair) (id part:Int):Int:=match ps.reverse.find? (fun q=>q.ev==id && q.part==part) with
 | some q=>q.loc
 | none=>-1
def textLong (p:Prof) (items:List ItM):Bool:=items.any fun x=>decide (p.size≤x.text.length)
def isPost (x:ItM):Bool:=x.kind==0
def postsN (items:List ItM):Nat:=(items.filter isPost).length
def ofE (E:List EvM) (e:EvM):EvM:=if e.kind=1 then evAt E e.target.toNat else e
def usedB (p:Prof) (E:List EvM) (e:EvM) (items:List ItM) (c:Int):Bool :=
 if c=1 then textLong p items || decide (1<postsN items) else if c=2 then e.kind==1 else if c=3 then e.kind==2 else if c=4 then (e.kind==3) || (e.kind==4)
 else if c=5 then ((ofE E e).kind==0) && !((ofE E e).target==-1) else if c=6 then ((ofE E e).kind==0) && !((ofE E e).quote==-1)
 else if c=7 then ((ofE E e).kind==0) && !((ofE E e).who==-1) else if c=8 then ((e.kind==0) || (e.kind==1)) && decide (0<e.files.length) else false
def pairsP (id:Int):Nat→List ItM→List Pair
 | _,[]=>[]
 | n,x::r=>if x.kind=0 then ⟨0,n,id,x.part⟩::pairsP id (n+1) r else pairsP id n r
def onNet (net:Int) (q:Pair):Pair:={q with net:=net}
def rawT (ps:List Pair) (e:EvM) (x:ItM):RawM :=
 ⟨e.author,0,x.kind,e.group,if x.on<0 then -1 else numP ps x.on x.onPart,if x.quote<0 then -1 else numP ps x.quote 0,x.who,x.n,bs x.text,x.files⟩
def allText (items:List ItM):List UInt8:=items.flatMap (·.text)
def fixP (e:EvM) (items:List ItM) (o:EvM):EvM :=
 {o with seq:=e.seq,causes:=e.causes,text:=if o.kind=0∨o.kind=1 then bs (allText items) else o.text}
def noIt:ItM:=⟨0,0,0,0,0,0,0,0,0,[],[]⟩
def comeP (p:Prof) (ps:List Pair) (e:EvM) (x:ItM):EvM × Int:=backS p (ps.map (onNet (netI e.author))) (netI e.author) (rawT ps e x) e.step
def newPairs (st:TrS) (id:Nat) (items:List ItM):List Pair:=st.pairs++pairsP id st.pairs.length items
def showP (p:Prof) (W:List (Int × Int)) (E:List EvM) (st:TrS) (id:Nat):Int × EvM × TrS :=
 let u:Int→Bool:=fun c=>st.uses c || usedB p E (evAt E id) (allP p W E [] id) c
 if allP p W E [] id=[] then (0,evAt E id,⟨st.pairs,u⟩)
 else ((comeP p (newPairs st id (allP p W E [] id)) (evAt E id) ((allP p W E [] id).headD noIt)).2,
  fixP (evAt E id) (allP p W E [] id) (comeP p (newPairs st id (allP p W E [] id)) (evAt E id) ((allP p W E [] id).headD noIt)).1,⟨newPairs st id (allP p W E [] id),u⟩)
abbrev Loss:=Int × Int × Int
def st0:TrS:=⟨[],fun _=>false⟩
end Go.Proofs.YtlnnjdibkbabiaaGreatDoor
