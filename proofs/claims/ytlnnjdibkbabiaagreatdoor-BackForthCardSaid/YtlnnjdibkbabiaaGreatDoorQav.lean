/- Contracts and plain laws, joined: WyI. -/
import Derived.Test.YtlnnjdibkbabiaaGreatDoorQar
import Derived.Deep.RegionHeld3
import Derived.Deep.DrawnRows
/- Contract of the reference of ways.Compile. -/
set_option linter.unusedSimpArgs false
set_option linter.unusedVariables false
namespace Go.Proofs.YtlnnjdibkbabiaaGreatDoor
open Go.RowKit
attribute [local go_sem ↓] Go.wp_at_zero Go.wp_at_succ
def wayC (x:Int × Int):List Value:=[.int .i64 x.1,.int .i64 x.2]
def wayL (p:Prof):List (Int × Int):=[(0,0),longW p,editW p,goneW p,reactW p,replyW p,ownW p.quote,ownW p.mention,fileW p]
def waysOf (p:Prof):List (Int × Int):=if profCheck p=0 then wayL p else []
def WaysOut (p:Prof) (w:World) (e:Ending) (w':World):Prop :=
 Below w.heap.size w w'∧∃ A c,e=.returned (.tuple #[.slice A (waysOf p).length c,.int .i64 (profCheck p)])∧RdL 2 wayC w' w'.heap.size A (waysOf p)
theorem check_bounds (p:Prof) (h:profCheck p=0):40≤p.size∧p.size≤4000∧1≤p.parts∧p.parts≤20:=by
 unfold profCheck at h
 split at h
 ·split at h
  ·cases h
  ·rename_i h2
   simp [offB,boundsB,inR] at h2
   omega
 ·cases h
theorem RdL.blockV {T:Type} {sz:Nat} {enc:T→List Value} (L:Lay sz enc) (w:World) (xs:List T) (cs:Array Value) (t:TypeId) (h:cs.toList=xs.flatMap enc) (b:Nat) (hb:b=w.heap.size) :
  RdL sz enc (w.alloc (.cells cs t)) (w.alloc (.cells cs t)).heap.size (some ⟨b,0,none⟩) xs:=by
 subst hb
 intro k x hx
 refine ⟨_,_,rfl,by simp,fun j v hj=>?_⟩
 have hg:=flat_get L xs k j x v hx hj
 rw [← h] at hg
 unfold World.cell?
 simp only [heap_alloc_new]
 simpa using hg
theorem wayLay:Lay 2 wayC:=⟨fun _=>rfl,fun x u hu=>by simp only [wayC,List.mem_cons,List.not_mem_nil,or_false] at hu;rcases hu with rfl | rfl <;> rfl⟩
end Go.Proofs.YtlnnjdibkbabiaaGreatDoor
