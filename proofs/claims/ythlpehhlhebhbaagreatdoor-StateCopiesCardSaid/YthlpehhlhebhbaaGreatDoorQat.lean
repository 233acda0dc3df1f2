/- Contracts and plain laws, joined: WyI, WyJ, WyK, WyL, BkA, BkB, BkC. -/
import Derived.Test.YthlpehhlhebhbaaGreatDoorQar
import Derived.Deep.RegionHeld3
import Derived.Deep.DrawnRows
import Derived.Test.YthlpehhlhebhbaaGreatDoorQal
import Derived.Test.YthlpehhlhebhbaaGreatDoorQas
import Derived.Test.YthlpehhlhebhbaaGreatDoorQaj
/- Contract of the reference of ways.Compile. -/
set_option linter.unusedSimpArgs false
set_option linter.unusedVariables false
namespace Go.Proofs.YthlpehhlhebhbaaGreatDoor
open Lib (hid)
open Go.RowKit
attribute [local go_sem ↓] Go.wp_at_zero Go.wp_at_succ
/- Contract of ways.first. -/
/- Contract of ways.Compile. -/
/- Contracts of Same,Few,and the laws' own profiles. -/
/- What an account has done,and what comes back (layer 23),in plain Lean;small contracts of package back. -/
structure RawM where
 account:Int
 seq:Int
 kind:Int
 group:Int
 on:Int
 quote:Int
 who:Int
 n:Int
 text:ByteArray
 files:List Int
abbrev RawM.cs (r:RawM) (fA:Option Addr) (fc:Nat):Array Value :=
 #[.int .i64 r.account,.int .i64 r.seq,.int .i64 r.kind,.int .i64 r.group,.int .i64 r.on,.int .i64 r.quote,.int .i64 r.who,.int .i64 r.n,.string r.text,.slice fA r.files.length fc]
abbrev RawM.v (r:RawM) (fA:Option Addr) (fc:Nat):Value:=.agg (r.cs fA fc)
structure RawOk (w:World) (B:Nat) (fA:Option Addr) (fc:Nat) (r:RawM):Prop where
 fi:RdI w B fA r.files
 fl:r.files.length≤9223372036854775807
 tx:r.text.size≤9223372036854775807
theorem RawOk.now {w w':World} {fA:Option Addr} {fc:Nat} {r:RawM} (h:RawOk w w.heap.size fA fc r) (hb:Below w.heap.size w w'):RawOk w' w'.heap.size fA fc r:=⟨h.fi.now hb,h.fl,h.tx⟩
/- Contract of means of package back. -/
/- Contract of back.Back,first part: where things lie,and what the early returns give. -/
theorem slIntE:SlTy Tryz.prog 54 3 1 8:=by
 obtain ⟨i,hi,h0,h1,h2⟩:=info_parts (show (Tryz.prog.info? 3).map (fun i=>(i.zero,i.size,i.bytes))=some (some (.int .i64 0),1,8) by kernel_rfl)
 exact ⟨Tryz.underlying54,⟨i,_,hi,h0,h1,h2,rfl⟩,by decide,by decide⟩
theorem equalIn_slice_nilE {P:Program} (w:World) (d:Nat) (t e:TypeId) (a:Option Addr) (l c:Nat) (h:P.underlying t=some (.slice e)):(Op.equalIn (d+1) t (.slice a l c) (.slice none 0 0)).run P w=.ok a.isNone w:=by
 cases a <;> simp [Op.equalIn,run_underlying h]
theorem run_eql_slice_nilE {P:Program} (w:World) (t e:TypeId) (a:Option Addr) (l c:Nat) (h:P.underlying t=some (.slice e)):(binOp .eql t (.slice a l c) (.slice none 0 0)).run P w=.ok (.bool a.isNone) w:=by
 simp [binOp,show Op.equal t (.slice a l c) (.slice none 0 0)=Op.equalIn (9999+1) t (.slice a l c) (.slice none 0 0) from rfl,equalIn_slice_nilE w 9999 t e a l c h]
theorem OwnL.len_le {T:Type} {sz:Nat} {enc:T→List Value} {w:World} {base:Nat} {e:TypeId} {A:Option Addr} {c:Nat} {xs:List T} (h:OwnL w base e sz enc A c xs):xs.length≤c:=by
 rcases h.2 with ⟨hv,hn⟩ | ⟨g,cap,cur,hv,_,_,hn,_⟩
 ·injection hv with _ _ e3
  omega
 ·injection hv with _ _ e3
  omega
set_option maxHeartbeats 1000000 in
theorem intClone_any (xs:List Int) (A:Option Addr) (n c:Nat) (w:World) (hn:n=xs.length) (hr:RdI w w.heap.size A xs) (hm:xs.length≤4194320) :
  Calls Tryz.prog 140 #[.slice A n c] w fun e w'=>∃ A' c',e=.returned (.slice A' xs.length c')∧OwnL w' w.heap.size 3 1 intC A' c' xs∧Below w.heap.size w w':=by
 subst hn
 have hq:=@run_eql_slice_nilE Tryz.prog
 rcases A with _ | a
 ·obtain rfl:xs=[]:=by
   rcases xs with _ | ⟨x,r⟩
   ·rfl
   ·obtain ⟨b,off,h,_⟩:=hr 0 x rfl
    cases h
  have q:=hq w 54 3 none 0 c Tryz.underlying54
  clear hq
  go_enter Tryz.func140,Tryz.ntmps140
  go_wp2
  go_ret
  exact ⟨none,0,rfl,OwnL.nil_,Below.refl _ _⟩
 ·have q:=hq w 54 3 (some a) xs.length c Tryz.underlying54
  clear hq
  have HO:=hid (OwnL.empty (T:=Int) (sz:=1) (enc:=intC) w 3 w.heap.size (Nat.le_refl _) _ rfl)
  have HR:=hid (hr.now ((Below.refl _ _).alloc (Nat.le_refl _) (.cells #[] 3)))
  go_enter Tryz.func140,Tryz.ntmps140
  go_wp2_with (at_builtin;refine wp_append_l rfl (.tmp 5) (.tmp 6) rfl slIntE intLayV w.heap.size (xs:=([]:List Int)) (ys:=xs) rfl rfl HO.out rfl rfl HR.out (by simp;omega) (by simp) ?_;intro A2 c2 w2 hown hg hb hat;have HO2:=hid hown;have HB2:=hid hb;clear hown hg hb hat)
  go_ret
  exact ⟨A2,c2,rfl,HO2.out,((Below.refl _ _).alloc (Nat.le_refl _) _).trans HB2.out⟩
theorem ret_box2 {P:Program} {fn:Func} {R:Ending→World→Prop} {a:Act} {w:World} (s t:Nat) (ty:TypeId) (hf:fn.results=#[.cell s ty,.tmp t]) (b:Nat) (cs:List Value) (d:TypeDesc) (v:Value)
  (hs:a.tmps.getD s undef=.pointer (some ⟨b,0,none⟩)) (hv:a.tmps.getD t undef=v) (hc:w.rangeAt b 0 cs) (hu:P.underlying ty=some d) (hd:d.isRow=true) (hi:(P.info? ty).map (·.size)=some cs.length)
  (hdf:a.defers=[]) (hR:R (.returned (.tuple #[.agg cs.toArray,v])) w):bodyPost P fn R .ret a w:=by
 refine bodyPost_ret (v:=.tuple #[.agg cs.toArray,v]) ?_ hdf hR
 unfold results
 rw [hf]
 simp only [List.mapM_toArray,List.mapM_cons,List.mapM_nil,hs,hv,asAddr,Sem.run_bind,Sem.run_pure,Result.andThen_ok,Sem.run_map,run_loadVar_mid w b 0 ty cs d hc hu hd hi]
 simp
section
variable {p:Prof} {A:Option Addr} {c:Nat} {r:RawM} {fA:Option Addr} {fc:Nat} {w wx wy:World}
end
end Go.Proofs.YthlpehhlhebhbaaGreatDoor
