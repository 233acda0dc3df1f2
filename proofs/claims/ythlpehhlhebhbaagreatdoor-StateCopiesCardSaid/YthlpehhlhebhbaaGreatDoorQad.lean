/- Contracts and plain laws, joined: TgA, TgC, TgD, TgB. -/
import Derived.Test.YthlpehhlhebhbaaGreatDoorRows
import Derived.Test.YthlpehhlhebhbaaGreatDoorQac
set_option linter.unusedSimpArgs false
set_option linter.unusedVariables false
namespace Go.Proofs.YthlpehhlhebhbaaGreatDoor
open Go.RowKit
set_option maxRecDepth 100000
structure Pair where
 net:Int
 loc:Int
 ev:Int
 part:Int
deriving DecidableEq
def Pair.cells (p:Pair):List Value:=[.int .i64 p.net,.int .i64 p.loc,.int .i64 p.ev,.int .i64 p.part]
def Pair.v (p:Pair):Value:=.agg #[.int .i64 p.net,.int .i64 p.loc,.int .i64 p.ev,.int .i64 p.part]
abbrev RdP:=RdL 4 Pair.cells
theorem RdP_at {w:World} {B:Nat} {A:Option Addr} {xs:List Pair} {k:Nat} (h:RdP w B A xs) (hk:k<xs.length):∃ b off p,A=some ⟨b,off,none⟩∧b<B∧xs[k]?=some p ∧
  w.cell? ⟨b,off+k * 4,none⟩=some (.int .i64 p.net)∧w.cell? ⟨b,off+k * 4+1,none⟩=some (.int .i64 p.loc)∧w.cell? ⟨b,off+k * 4+2,none⟩=some (.int .i64 p.ev)∧w.cell? ⟨b,off+k * 4+3,none⟩=some (.int .i64 p.part):=by
 obtain ⟨b,off,e,hb,hc⟩:=h.at_ hk
 exact ⟨b,off,_,e,hb,List.getElem?_eq_getElem hk,hc 0 _ rfl,hc 1 _ rfl,hc 2 _ rfl,hc 3 _ rfl⟩
def excl (a b:Pair):Bool:=a.net==b.net && (a.loc==b.loc || a.ev==b.ev && a.part==b.part)
def inB (n m:Int):Bool:=decide (0≤n) && decide (n≤m)
def validP (p:Pair):Bool:=inB p.net 11 && inB p.loc 1099511627776 && inB p.ev 99999 && inB p.part 99
def rightGo (pre:List Pair):List Pair→Bool
 | []=>true
 | p::r=>validP p && pre.all (fun q=>!excl p q) && rightGo (pre++[p]) r
def rightB (xs:List Pair):Bool:=rightGo [] xs
set_option maxHeartbeats 400000 in
theorem pvalid_any (p:Pair) (w:World) :
  Calls Tryz.prog 186 #[p.v] w fun e w'=>e=.returned (.bool (validP p))∧Below w.heap.size w w':=by
 obtain ⟨a,b,c,d⟩:=p
 unfold Pair.v validP inB
 go_enter Tryz.func186,Tryz.ntmps186
 go_wp2
 all_goals go_ret
 all_goals refine ⟨?_,((Below.refl _ _).alloc (Nat.le_refl _) _)⟩
 all_goals first | (simp;omega) | (simp_all;omega) | simp_all
/- Contracts of layer 22: the searches of the reference,IndexFunc,Find and Local. -/
/- Contracts of layer 22: Find and Local of the program,and the comparison of two lists. -/
theorem rightGo_step (xs:List Pair) (k:Nat) (p:Pair) (h:xs[k]?=some p) :
  rightGo (xs.take k) (xs.drop k)=(validP p && (xs.take k).all (fun q=>!excl p q) && rightGo (xs.take (k+1)) (xs.drop (k+1))):=by
 obtain ⟨hk,rfl⟩:=List.getElem?_eq_some_iff.1 h
 rw [List.drop_eq_getElem_cons hk,List.take_succ_eq_append_getElem hk]
 rfl
end Go.Proofs.YthlpehhlhebhbaaGreatDoor
