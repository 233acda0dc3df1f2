/- Contracts and plain laws, joined: TgA, TgC, TgD, TgB. -/
import Derived.Test.YtlnnjdibkbabiaaGreatDoorRows
import Derived.Test.YtlnnjdibkbabiaaGreatDoorQab
set_option linter.unusedSimpArgs false
set_option linter.unusedVariables false
namespace Go.Proofs.YtlnnjdibkbabiaaGreatDoor
set_option maxHeartbeats 400000
open _root_.Go.Lib (hid)
open Go.RowKit
set_option maxRecDepth 100000
structure Pair where
 net:Int
 loc:Int
 ev:Int
 part:Int
deriving DecidableEq
def Pair.cells (p:Pair):List Value:=[.int .i64 p.net,.int .i64 p.loc,.int .i64 p.ev,.int .i64 p.part]
def Pair.v (p:Pair):Value:=.agg #[.int .i64 p.net,.int .i64 p.loc,.int .i64 p.ev,.int .i64 p.part]
abbrev RdP:=RdL 4 Pair.cells
theorem RdP_at {w:World} {B:Nat} {A:Option Addr} {xs:List Pair} {k:Nat} (h:RdP w B A xs) (hk:k<xs.length):∃ b off p,A=some ⟨b,off,none⟩∧b<B∧xs[k]?=some p ∧
  w.cell? ⟨b,off+k * 4,none⟩=some (.int .i64 p.net)∧w.cell? ⟨b,off+k * 4+1,none⟩=some (.int .i64 p.loc)∧w.cell? ⟨b,off+k * 4+2,none⟩=some (.int .i64 p.ev)∧w.cell? ⟨b,off+k * 4+3,none⟩=some (.int .i64 p.part):=by
 obtain ⟨b,off,e,hb,hc⟩:=h.at_ hk
 exact ⟨b,off,_,e,hb,List.getElem?_eq_getElem hk,hc 0 _ rfl,hc 1 _ rfl,hc 2 _ rfl,hc 3 _ rfl⟩
theorem box4 (w:World) (a b c d:Value) (t:TypeId) {w':World} (hb:Below (w.heap.size+1) (w.alloc (.cells #[a,b,c,d] t)) w') :
  w'.cell? ⟨w.heap.size,0,none⟩=some a∧w'.cell? ⟨w.heap.size,1,none⟩=some b∧w'.cell? ⟨w.heap.size,2,none⟩=some c∧w'.cell? ⟨w.heap.size,3,none⟩=some d :=
 ⟨(hb.cell (by simp)).trans (by simp),(hb.cell (by simp)).trans (by simp),(hb.cell (by simp)).trans (by simp),(hb.cell (by simp)).trans (by simp)⟩
def excl (a b:Pair):Bool:=a.net==b.net && (a.loc==b.loc || a.ev==b.ev && a.part==b.part)
def inB (n m:Int):Bool:=decide (0≤n) && decide (n≤m)
def validP (p:Pair):Bool:=inB p.net 11 && inB p.loc 1099511627776 && inB p.ev 99999 && inB p.part 99
def rightGo (pre:List Pair):List Pair→Bool
 | []=>true
 | p::r=>validP p && pre.all (fun q=>!excl p q) && rightGo (pre++[p]) r
def rightB (xs:List Pair):Bool:=rightGo [] xs
theorem pvalid_any (p:Pair) (w:World) :
  Calls Tryz.prog 54 #[p.v] w fun e w'=>e=.returned (.bool (validP p))∧Below w.heap.size w w':=by
 obtain ⟨a,b,c,d⟩:=p
 unfold Pair.v validP inB
 go_enter Tryz.func54,Tryz.ntmps54
 go_wp2
 all_goals go_ret
 all_goals refine ⟨?_,((Below.refl _ _).alloc (Nat.le_refl _) _)⟩
 all_goals first | (simp;omega) | (simp_all;omega) | simp_all
/- Contracts of layer 22: the searches of the reference,IndexFunc,Find and Local. -/
def findF (f:Pair→Bool) (xs:List Pair):Option Pair:=xs.find? f
def fNL (net loc:Int):Pair→Bool:=fun p=>p.net==net && p.loc==loc
def fNEP (net ev part:Int):Pair→Bool:=fun p=>p.net==net && (p.ev==ev && p.part==part)
def evOf:Option Pair→Int | some p=>p.ev | none=>0
def partOf:Option Pair→Int | some p=>p.part | none=>0
def locOf:Option Pair→Int | some p=>p.loc | none=>0
theorem find_hit {T:Type} (f:T→Bool) (xs:List T) (k:Nat) {p:T} (h:xs[k]?=some p) (hf:f p=true) (hn:(xs.take k).find? f=none):xs.find? f=some p:=by
 obtain ⟨hk,rfl⟩:=List.getElem?_eq_some_iff.1 h
 conv=>lhs;rw [← List.take_append_drop k xs]
 rw [List.find?_append,hn,List.drop_eq_getElem_cons hk,List.find?_cons_of_pos hf]
 rfl
theorem find_miss {T:Type} (f:T→Bool) (xs:List T) (k:Nat) {p:T} (h:xs[k]?=some p) (hf:f p=false) (hn:(xs.take k).find? f=none):(xs.take (k+1)).find? f=none:=by
 obtain ⟨hk,rfl⟩:=List.getElem?_eq_some_iff.1 h
 rw [List.take_succ_eq_append_getElem hk,List.find?_append,hn,List.find?_cons_of_neg (by simp [hf])]
 rfl
def idxF (f:Pair→Bool) (xs:List Pair):Int:=match xs.findIdx? f with | some i=>(i:Int) | none=>-1
theorem idx_hit {T:Type} (f:T→Bool) (xs:List T) (k:Nat) {p:T} (h:xs[k]?=some p) (hf:f p=true) (hn:(xs.take k).find? f=none):xs.findIdx? f=some k:=by
 obtain ⟨hk,rfl⟩:=List.getElem?_eq_some_iff.1 h
 rw [List.findIdx?_eq_some_iff_getElem]
 refine ⟨hk,hf,fun j hj=>?_⟩
 have:=List.find?_eq_none.1 hn xs[j] (by rw [List.mem_take_iff_getElem];exact ⟨j,by omega,rfl⟩)
 simpa using this
theorem idx_none {T:Type} (f:T→Bool) (xs:List T) (hn:xs.find? f=none):xs.findIdx? f=none:=by
 rw [List.findIdx?_eq_none_iff]
 intro x hx
 have:=List.find?_eq_none.1 hn x hx
 simpa using this
theorem indexF_any (xs:List Pair) (A:Option Addr) (c:Nat) (K:FuncId) (caps:Array Value) (f:Pair→Bool) (w:World) (hr:RdP w w.heap.size A xs) (hm:xs.length≤9223372036854775807)
  (hK:∀ (args:Array Value) (w:World),(callFunc K args).run Tryz.prog w=.ok (.enter K args) w)
  (hF:∀ (w':World) (p:Pair),Below w.heap.size w w'→Calls Tryz.prog K (#[p.v]++caps) w' fun e w''=>e=.returned (.bool (f p))∧Below w'.heap.size w' w'') :
  Calls Tryz.prog 79 #[.slice A xs.length c,.func (.func K) #[] caps] w fun e w'=>e=.returned (.int .i64 (idxF f xs))∧Below w.heap.size w w':=by
 have HFF:=hid hF
 clear hF
 go_enter Tryz.func79,Tryz.ntmps79
 go_wp2
 go_loopw [8] (fun i wr=>∃ k:Nat,k≤xs.length∧i=.int .i64 k∧(xs.take k).find? f=none∧Below w.heap.size w wr) (fun i _=>xs.length - (intOf i).toNat)
 case atStart=>exact ⟨0,Nat.zero_le _,rfl,rfl,Below.refl _ _⟩
 case round =>
  obtain ⟨k,hk,rfl,hf,hb⟩:=hrel
  have HF:=hid hf
  clear hf
  by_cases hlt:k<xs.length
  ·obtain ⟨b,off,p,rfl,hbb,hp,c0,c1,c2,c3⟩:=RdP_at (hr.now hb) hlt
   have HP:=hid hp
   clear hp
   cases hv:f p
   ·go_wp2_with fail
    refine (HFF.out _ p hb).mono ?_
    rintro e w1 ⟨rfl,hb1⟩
    go_wp2
    go_roundw
    case rel=>exact ⟨k+1,by omega,by go_num,find_miss _ xs k HP.out hv HF.out,hb.trans (hb1.mono hb.size)⟩
    case measure=>simp [intOf];omega
   ·go_wp2_with fail
    refine (HFF.out _ p hb).mono ?_
    rintro e w1 ⟨rfl,hb1⟩
    go_wp2
    go_ret
    exact ⟨by simp [idxF,idx_hit f xs k HP.out hv HF.out],hb.trans (hb1.mono hb.size)⟩
  ·go_wp2
   go_ret
   have h2:=HF.out
   rw [List.take_of_length_le (by omega)] at h2
   exact ⟨by simp [idxF,idx_none f xs h2],hb⟩
/- Contracts of layer 22: Find and Local of the program,and the comparison of two lists. -/
theorem idx_some {T:Type} (f:T→Bool) (xs:List T) (i:Nat) (h:xs.findIdx? f=some i):∃ p,xs[i]?=some p∧xs.find? f=some p:=by
 rw [List.findIdx?_eq_some_iff_getElem] at h
 obtain ⟨hi,hf,hn⟩:=h
 refine ⟨xs[i],List.getElem?_eq_getElem hi,find_hit f xs i (List.getElem?_eq_getElem hi) hf ?_⟩
 rw [List.find?_eq_none]
 intro x hx
 obtain ⟨j,hj,rfl⟩:=List.mem_take_iff_getElem.1 hx
 exact hn j (by omega)
theorem idxF_cases (f:Pair→Bool) (xs:List Pair):(idxF f xs=-1∧findF f xs=none)∨∃ (i:Nat) (p:Pair),idxF f xs=i∧i<xs.length∧xs[i]?=some p∧findF f xs=some p:=by
 cases h:xs.findIdx? f with
 | none =>
  refine .inl ⟨by simp [idxF,h],?_⟩
  rw [findF,List.find?_eq_none]
  intro x hx
  have:=List.findIdx?_eq_none_iff.1 h x hx
  simpa using this
 | some i =>
  obtain ⟨p,h1,h2⟩:=idx_some f xs i h
  exact .inr ⟨i,p,by simp [idxF,h],(List.getElem?_eq_some_iff.1 h1).1,h1,h2⟩
theorem enters_pFind1:∀ (args:Array Value) (w:World),(callFunc 141 args).run Tryz.prog w=.ok (.enter 141 args) w:=fun _ _=>by kernel_rfl
theorem enters_pLocal1:∀ (args:Array Value) (w:World),(callFunc 80 args).run Tryz.prog w=.ok (.enter 80 args) w:=fun _ _=>by kernel_rfl
theorem find1_any (p:Pair) (net loc:Int) (a b:Nat) (w:World) (h1:w.cell? ⟨a,0,none⟩=some (.int .i64 net)) (h2:w.cell? ⟨b,0,none⟩=some (.int .i64 loc)) :
  Calls Tryz.prog 141 #[p.v,.pointer (some ⟨a,0,none⟩),.pointer (some ⟨b,0,none⟩)] w fun e w'=>e=.returned (.bool (fNL net loc p))∧Below w.heap.size w w':=by
 have l1:=World.block_lt_of_cell? w _ h1
 have l2:=World.block_lt_of_cell? w _ h2
 dsimp only at l1 l2
 obtain ⟨x,y,z,t⟩:=p
 unfold Pair.v fNL
 go_enter Tryz.func141,Tryz.ntmps141
 go_wp2
 all_goals go_ret
 all_goals refine ⟨?_,((Below.refl _ _).alloc (Nat.le_refl _) _)⟩
 all_goals simp_all
theorem local1_any (p:Pair) (net ev part:Int) (a b c:Nat) (w:World) (h1:w.cell? ⟨a,0,none⟩=some (.int .i64 net)) (h2:w.cell? ⟨b,0,none⟩=some (.int .i64 ev)) (h3:w.cell? ⟨c,0,none⟩=some (.int .i64 part)) :
  Calls Tryz.prog 80 #[p.v,.pointer (some ⟨a,0,none⟩),.pointer (some ⟨b,0,none⟩),.pointer (some ⟨c,0,none⟩)] w fun e w'=>e=.returned (.bool (fNEP net ev part p))∧Below w.heap.size w w':=by
 have l1:=World.block_lt_of_cell? w _ h1
 have l2:=World.block_lt_of_cell? w _ h2
 have l3:=World.block_lt_of_cell? w _ h3
 dsimp only at l1 l2 l3
 obtain ⟨x,y,z,t⟩:=p
 unfold Pair.v fNEP
 go_enter Tryz.func80,Tryz.ntmps80
 go_wp2
 all_goals go_ret
 all_goals refine ⟨?_,((Below.refl _ _).alloc (Nat.le_refl _) _)⟩
 all_goals simp_all
theorem pfind_any (xs:List Pair) (A:Option Addr) (c:Nat) (net loc:Int) (w:World) (hr:RdP w w.heap.size A xs) (hm:xs.length≤9223372036854775807) :
  Calls Tryz.prog 82 #[.slice A xs.length c,.int .i64 net,.int .i64 loc] w fun e w'=>e=.returned (.tuple #[.int .i64 (evOf (findF (fNL net loc) xs)),.int .i64 (partOf (findF (fNL net loc) xs)),.bool (findF (fNL net loc) xs).isSome])∧Below w.heap.size w w':=by
 have hb0:Below w.heap.size w ((w.alloc (.cells #[.int .i64 net] 3)).alloc (.cells #[.int .i64 loc] 3)):=((Below.refl _ _).alloc (Nat.le_refl _) _).alloc (by first | omega | (simp;done) | (simp;omega)) _
 have hc:=@indexF_any xs A c 141 #[.pointer (some ⟨w.heap.size,0,none⟩),.pointer (some ⟨w.heap.size+1,0,none⟩)] (fNL net loc) ((w.alloc (.cells #[.int .i64 net] 3)).alloc (.cells #[.int .i64 loc] 3)) (hr.now hb0) hm enters_pFind1
  (fun w' p hb=>find1_any p net loc w.heap.size (w.heap.size+1) w' ((hb.cell (by first | omega | (simp;done) | (simp;omega))).trans (by first | omega | (simp;done) | (simp;omega))) ((hb.cell (by first | omega | (simp;done) | (simp;omega))).trans (by first | omega | (simp;done) | (simp;omega))))
 have HC:=hid hc
 have HB:=hid hb0
 clear hc hb0
 go_enter Tryz.func82,Tryz.ntmps82
 rcases idxF_cases (fNL net loc) xs with ⟨hi,hf⟩ | ⟨i,p,hi,hlt,hp,hf⟩
 ·have HI:=hid hi
  have HF:=hid hf
  clear hi hf
  go_wp2_with (go_at_call 79;refine HC.out.mono ?_;rintro e w1 ⟨rfl,hb1⟩;rw [HI.out])
  go_ret3
  rw [HF.out]
  exact ⟨rfl,HB.out.trans (hb1.mono (by first | omega | (simp;done) | (simp;omega)))⟩
 ·have HI:=hid hi
  have HF:=hid hf
  clear hi hf
  have HP:=hid hp
  clear hp
  go_wp2_with (go_at_call 79;refine HC.out.mono ?_;rintro e w1 ⟨rfl,hb1⟩;rw [HI.out])
  have hb2:=HB.out.trans (hb1.mono (by first | omega | (simp;done) | (simp;omega)))
  obtain ⟨b,off,p',rfl,hbb,hp',c0,c1,c2,c3⟩:=RdP_at (hr.now hb2) hlt
  obtain rfl:p'=p:=by have:=HP.out;rw [hp'] at this;injection this
  clear hp'
  go_quiet (fail)
  go_wp2
  go_ret3
  rw [HF.out]
  exact ⟨rfl,below_drewN hb2 _⟩
theorem plocal_any (xs:List Pair) (A:Option Addr) (c:Nat) (net ev part:Int) (w:World) (hr:RdP w w.heap.size A xs) (hm:xs.length≤9223372036854775807) :
  Calls Tryz.prog 45 #[.slice A xs.length c,.int .i64 net,.int .i64 ev,.int .i64 part] w fun e w'=>e=.returned (.tuple #[.int .i64 (locOf (findF (fNEP net ev part) xs)),.bool (findF (fNEP net ev part) xs).isSome])∧Below w.heap.size w w':=by
 have hb0:Below w.heap.size w (((w.alloc (.cells #[.int .i64 net] 3)).alloc (.cells #[.int .i64 ev] 3)).alloc (.cells #[.int .i64 part] 3)):=(((Below.refl _ _).alloc (Nat.le_refl _) _).alloc (by first | omega | (simp;done) | (simp;omega)) _).alloc (by first | omega | (simp;done) | (simp;omega)) _
 have hc:=@indexF_any xs A c 80 #[.pointer (some ⟨w.heap.size,0,none⟩),.pointer (some ⟨w.heap.size+1,0,none⟩),.pointer (some ⟨w.heap.size+1+1,0,none⟩)] (fNEP net ev part) (((w.alloc (.cells #[.int .i64 net] 3)).alloc (.cells #[.int .i64 ev] 3)).alloc (.cells #[.int .i64 part] 3)) (hr.now hb0) hm enters_pLocal1
  (fun w' p hb=>local1_any p net ev part w.heap.size (w.heap.size+1) (w.heap.size+1+1) w' ((hb.cell (by first | omega | (simp;done) | (simp;omega))).trans ((cell_old _ _ _ _ (by first | omega | (simp;done) | (simp;omega))).trans ((cell_old _ _ _ _ (by first | omega | (simp;done) | (simp;omega))).trans (cell_new1 _ _ _ _ (by first | omega | (simp;done) | (simp;omega)))))) ((hb.cell (by first | omega | (simp;done) | (simp;omega))).trans ((cell_old _ _ _ _ (by first | omega | (simp;done) | (simp;omega))).trans (cell_new1 _ _ _ _ (by first | omega | (simp;done) | (simp;omega))))) ((hb.cell (by first | omega | (simp;done) | (simp;omega))).trans (cell_new1 _ _ _ _ (by first | omega | (simp;done) | (simp;omega)))))
 have HC:=hid hc
 have HB:=hid hb0
 clear hc hb0
 go_enter Tryz.func45,Tryz.ntmps45
 rcases idxF_cases (fNEP net ev part) xs with ⟨hi,hf⟩ | ⟨i,p,hi,hlt,hp,hf⟩
 ·have HI:=hid hi
  have HF:=hid hf
  clear hi hf
  go_wp2_with (go_at_call 79;refine HC.out.mono ?_;rintro e w1 ⟨rfl,hb1⟩;rw [HI.out])
  go_ret2
  rw [HF.out]
  exact ⟨rfl,HB.out.trans (hb1.mono (by first | omega | (simp;done) | (simp;omega)))⟩
 ·have HI:=hid hi
  have HF:=hid hf
  clear hi hf
  have HP:=hid hp
  clear hp
  go_wp2_with fail
  refine HC.out.mono ?_
  rintro e w1 ⟨rfl,hb1⟩
  rw [HI.out]
  have hb2:=HB.out.trans (hb1.mono (by first | omega | (simp;done) | (simp;omega)))
  obtain ⟨b,off,p',rfl,hbb,hp',c0,c1,c2,c3⟩:=RdP_at (hr.now hb2) hlt
  obtain rfl:p'=p:=by have:=HP.out;rw [hp'] at this;injection this
  clear hp'
  go_wp2
  go_ret2
  rw [HF.out]
  exact ⟨rfl,hb2⟩
theorem rightGo_step (xs:List Pair) (k:Nat) (p:Pair) (h:xs[k]?=some p) :
  rightGo (xs.take k) (xs.drop k)=(validP p && (xs.take k).all (fun q=>!excl p q) && rightGo (xs.take (k+1)) (xs.drop (k+1))):=by
 obtain ⟨hk,rfl⟩:=List.getElem?_eq_some_iff.1 h
 rw [List.drop_eq_getElem_cons hk,List.take_succ_eq_append_getElem hk]
 rfl
end Go.Proofs.YtlnnjdibkbabiaaGreatDoor
