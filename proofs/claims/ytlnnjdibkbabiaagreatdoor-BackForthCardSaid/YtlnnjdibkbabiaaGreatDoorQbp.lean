/- Contracts and plain laws, joined: TlOpen. -/
import Derived.Test.YtlnnjdibkbabiaaGreatDoorQbe
import Derived.Test.YtlnnjdibkbabiaaGreatDoorQbb
import Derived.Test.YtlnnjdibkbabiaaGreatDoorQbk
/- A list of events among the arguments of a law. -/
set_option linter.unusedSimpArgs false
set_option linter.unusedVariables false
namespace Go.Proofs.YtlnnjdibkbabiaaGreatDoor
open Go.ChangeShapes Go.WideShapes Go.RowKit Go.Deep
set_option maxRecDepth 100000
theorem inInt_of_wf24 {n:Int} (h:(Lit.int .i64 n).wf=true):InInt n:=by
 simp [Lit.wf,IntKind.min,IntKind.max,IntKind.bits,IntKind.signed] at h
 unfold InInt
 omega
section
variable {H:Type} {enc0:TypeId × Value→H} {w:World} {base:Nat} {spare:Nat→Bool} {held:Bool}
theorem cellsInt24:Tryz.prog.cellsOf 3=1:=by kernel_rfl
theorem elemInt24:∀ m cs x,DataW.trod enc0 Tryz.prog w base spare held m 3 cs=some x→∃ y:Int,intC y=cs∧InInt y:=by
 intro m cs x h
 obtain ⟨n,rfl,_,hw⟩:=DataW.trod_int Tryz.underlying3 h
 exact ⟨n,rfl,inInt_of_wf24 hw⟩
theorem open_ints24 {A:Option Addr} {n c:Nat} {d:DataW H} {p:List MemPlace} (h:DataW.Trod enc0 Tryz.prog w base spare held 38 (.slice A n c) d p) :
  ∃ xs:List Int,n=xs.length∧RdL 1 intC w w.heap.size A xs∧(∀ x∈xs,InInt x)∧xs.length≤9223372036854775807∧xs.length≤c:=by
 obtain ⟨g4,_⟩:=open_list_cap Tryz.underlying38 h
 obtain ⟨xs,h1,h2,h3,h4⟩:=open_list Tryz.underlying38 cellsInt24 (by decide) (fun _=>rfl) elemInt24 h
 subst h1
 refine ⟨xs,rfl,h2,h3,?_,g4⟩
 simp only [maxLen] at h4
 omega
theorem fieldsEvent24:∃ fs:Array Field,Tryz.prog.underlying 40=some (.struct fs)∧fs.size=12∧fs.toList.map (·.type)=[3,3,38,3,3,3,3,3,3,9,38,3]∧oneCellFields Tryz.prog fs=true :=
 ⟨_,Tryz.underlying40,by kernel_rfl,by kernel_rfl,by kernel_rfl⟩
theorem cellsEvent24:Tryz.prog.cellsOf 40=12:=by kernel_rfl
theorem elemEvent24:∀ m cs x,DataW.trod enc0 Tryz.prog w base spare held m 40 cs=some x→∃ y:EvL,EvL.cs y=cs∧EvLOk w w.heap.size y:=by
 intro m l x hf
 obtain ⟨fs,hu,hsz,hty,hone⟩:=fieldsEvent24
 obtain ⟨hl,hc⟩:=struct_cells hu hone (by rw [cellsEvent24,hsz]) hf
 have hg:∀ (i:Nat) (t:TypeId),(fs.toList.map (·.type))[i]?=some t→∃ v n y,l[i]?=some v∧DataW.trod enc0 Tryz.prog w base spare held n t [v]=some y:=by
  intro i t hi
  rw [List.getElem?_map] at hi
  obtain ⟨f,hf,rfl⟩:=Option.map_eq_some_iff.1 hi
  exact hc i f (by simpa using hf)
 rw [hty] at hg
 have hlN:l.length=12:=by rw [← hsz];exact hl
 obtain ⟨v0,n0,y0,e0,h0⟩:=hg 0 _ rfl
 obtain ⟨x0,rfl,w0⟩:=int_cell Tryz.underlying3 h0
 obtain ⟨v1,n1,y1,e1,h1⟩:=hg 1 _ rfl
 obtain ⟨x1,rfl,w1⟩:=int_cell Tryz.underlying3 h1
 obtain ⟨v2,n2,y2,e2,h2⟩:=hg 2 _ rfl
 obtain ⟨A2,N2,c2,d2,p2,rfl,k2⟩:=slice_cell Tryz.underlying38 h2
 obtain ⟨ts2,rfl,f2⟩:=open_ints24 k2
 obtain ⟨v3,n3,y3,e3,h3⟩:=hg 3 _ rfl
 obtain ⟨x3,rfl,w3⟩:=int_cell Tryz.underlying3 h3
 obtain ⟨v4,n4,y4,e4,h4⟩:=hg 4 _ rfl
 obtain ⟨x4,rfl,w4⟩:=int_cell Tryz.underlying3 h4
 obtain ⟨v5,n5,y5,e5,h5⟩:=hg 5 _ rfl
 obtain ⟨x5,rfl,w5⟩:=int_cell Tryz.underlying3 h5
 obtain ⟨v6,n6,y6,e6,h6⟩:=hg 6 _ rfl
 obtain ⟨x6,rfl,w6⟩:=int_cell Tryz.underlying3 h6
 obtain ⟨v7,n7,y7,e7,h7⟩:=hg 7 _ rfl
 obtain ⟨x7,rfl,w7⟩:=int_cell Tryz.underlying3 h7
 obtain ⟨v8,n8,y8,e8,h8⟩:=hg 8 _ rfl
 obtain ⟨x8,rfl,w8⟩:=int_cell Tryz.underlying3 h8
 obtain ⟨v9,n9,y9,e9,h9⟩:=hg 9 _ rfl
 obtain ⟨x9,rfl,w9⟩:=string_cell Tryz.underlying9 h9
 obtain ⟨v10,n10,y10,e10,h10⟩:=hg 10 _ rfl
 obtain ⟨A10,N10,c10,d10,p10,rfl,k10⟩:=slice_cell Tryz.underlying38 h10
 obtain ⟨ts10,rfl,f10⟩:=open_ints24 k10
 obtain ⟨v11,n11,y11,e11,h11⟩:=hg 11 _ rfl
 obtain ⟨x11,rfl,w11⟩:=int_cell Tryz.underlying3 h11
 have hcs:l=[.int .i64 x0,.int .i64 x1,.slice A2 ts2.length c2,.int .i64 x3,.int .i64 x4,.int .i64 x5,.int .i64 x6,.int .i64 x7,.int .i64 x8,.string x9,.slice A10 ts10.length c10,.int .i64 x11]:=List.ext_getElem? (fun i=>match i with
  | 0=>e0
  | 1=>e1
  | 2=>e2
  | 3=>e3
  | 4=>e4
  | 5=>e5
  | 6=>e6
  | 7=>e7
  | 8=>e8
  | 9=>e9
  | 10=>e10
  | 11=>e11
  | n+12=>by rw [List.getElem?_eq_none (by omega),List.getElem?_eq_none (by simp)])
 subst hcs
 simp only [maxLen] at w9
 exact ⟨⟨⟨x0,x1,ts2,x3,x4,x5,x6,x7,x8,x9,ts10,x11⟩,A2,c2,A10,c10⟩,rfl,⟨⟨f2.1,f10.1,f2.2.2.1,f10.2.2.1,by simp only;omega⟩,f10.2.2.2⟩⟩
theorem openEvents24 {A:Option Addr} {n c:Nat} {d:DataW H} {p:List MemPlace} (h:DataW.Trod enc0 Tryz.prog w base spare held 25 (.slice A n c) d p) :
  ∃ xs:List EvL,n=xs.length∧RdL 12 EvL.cs w w.heap.size A xs∧(∀ x∈xs,EvLOk w w.heap.size x)∧xs.length≤9223372036854775807∧xs.length≤c:=by
 obtain ⟨g4,_⟩:=open_list_cap Tryz.underlying25 h
 obtain ⟨xs,h1,h2,h3,h4⟩:=open_list Tryz.underlying25 cellsEvent24 (by decide) (fun _=>rfl) elemEvent24 h
 subst h1
 refine ⟨xs,rfl,h2,h3,?_,g4⟩
 simp only [maxLen] at h4
 omega
end
end Go.Proofs.YtlnnjdibkbabiaaGreatDoor
