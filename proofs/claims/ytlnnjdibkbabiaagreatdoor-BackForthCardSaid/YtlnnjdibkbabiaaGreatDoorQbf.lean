/- Contracts and plain laws, joined: WyOpen. -/
import Derived.Test.YtlnnjdibkbabiaaGreatDoorQam
import Derived.Test.YtlnnjdibkbabiaaGreatDoorQbb
/- A profile among the arguments of a law. -/
set_option linter.unusedSimpArgs false
set_option linter.unusedVariables false
namespace Go.Proofs.YtlnnjdibkbabiaaGreatDoor
open Go.ChangeShapes Go.WideShapes Go.RowKit Go.Deep
section
variable {H:Type} {enc0:TypeId × Value→H} {w:World} {base:Nat} {spare:Nat→Bool} {held:Bool}
theorem fieldsProf:∃ fs:Array Field,Tryz.prog.underlying 24=some (.struct fs)∧fs.size=22∧fs.toList.map (·.type)=[9,3,3,3,4,3,4,4,3,3,3,3,22,3,3,3,3,4,3,3,3,3]∧oneCellFields Tryz.prog fs=true :=
 ⟨_,Tryz.underlying24,by kernel_rfl,by kernel_rfl,by kernel_rfl⟩
theorem cells22:Tryz.prog.cellsOf 24=22:=by kernel_rfl
theorem cellsStrW:Tryz.prog.cellsOf 9=1:=by kernel_rfl
theorem elemStrW:∀ m cs x,DataW.trod enc0 Tryz.prog w base spare held m 9 cs=some x→∃ y:ByteArray,strCells y=cs∧y.size≤9223372036854775807:=by
 intro m cs x h
 obtain ⟨s,rfl,_,hw⟩:=DataW.trod_string Tryz.underlying9 h
 refine ⟨s,rfl,?_⟩
 simp only [maxLen] at hw
 omega
set_option maxRecDepth 100000 in
set_option maxHeartbeats 1000000 in
theorem open_prof {r:Reach} {b0:Nat} {v:Value} {d:DataW H} {p:List MemPlace} (hv:Value.okWide Tryz.prog w r b0 24 v) (h:DataW.Trod enc0 Tryz.prog w base spare held 24 v d p) :
  ∃ (y:Prof) (A:Option Addr) (c:Nat),v=y.v A c∧ProfOk w w.heap.size A y∧y.types.length≤c:=by
 obtain ⟨fs,hu,hsz,hty,hone⟩:=fieldsProf
 obtain ⟨cs,rfl,_⟩:=okWide_struct hu hv
 obtain ⟨fuel,hf⟩:=h
 obtain ⟨l⟩:=cs
 obtain ⟨hl,hc⟩:=struct_cells hu hone (by rw [cells22,hsz]) hf
 have hg:∀ (i:Nat) (t:TypeId),(fs.toList.map (·.type))[i]?=some t→∃ v n y,l[i]?=some v∧DataW.trod enc0 Tryz.prog w base spare held n t [v]=some y:=by
  intro i t hi
  rw [List.getElem?_map] at hi
  obtain ⟨f,hf,rfl⟩:=Option.map_eq_some_iff.1 hi
  exact hc i f (by simpa using hf)
 rw [hty] at hg
 have hl22:l.length=22:=by rw [← hsz];exact hl
 clear hc hl hone hty hf
 obtain ⟨v0,n0,y0,e0,h0⟩:=hg 0 _ rfl
 obtain ⟨x0,rfl,w0⟩:=string_cell Tryz.underlying9 h0
 obtain ⟨v1,n1,y1,e1,h1⟩:=hg 1 _ rfl
 obtain ⟨x1,rfl,_⟩:=int_cell Tryz.underlying3 h1
 obtain ⟨v2,n2,y2,e2,h2⟩:=hg 2 _ rfl
 obtain ⟨x2,rfl,_⟩:=int_cell Tryz.underlying3 h2
 obtain ⟨v3,n3,y3,e3,h3⟩:=hg 3 _ rfl
 obtain ⟨x3,rfl,_⟩:=int_cell Tryz.underlying3 h3
 obtain ⟨v4,n4,y4,e4,h4⟩:=hg 4 _ rfl
 obtain ⟨x4,rfl⟩:=bool_cell Tryz.underlying4 h4
 obtain ⟨v5,n5,y5,e5,h5⟩:=hg 5 _ rfl
 obtain ⟨x5,rfl,_⟩:=int_cell Tryz.underlying3 h5
 obtain ⟨v6,n6,y6,e6,h6⟩:=hg 6 _ rfl
 obtain ⟨x6,rfl⟩:=bool_cell Tryz.underlying4 h6
 obtain ⟨v7,n7,y7,e7,h7⟩:=hg 7 _ rfl
 obtain ⟨x7,rfl⟩:=bool_cell Tryz.underlying4 h7
 obtain ⟨v8,n8,y8,e8,h8⟩:=hg 8 _ rfl
 obtain ⟨x8,rfl,_⟩:=int_cell Tryz.underlying3 h8
 obtain ⟨v9,n9,y9,e9,h9⟩:=hg 9 _ rfl
 obtain ⟨x9,rfl,_⟩:=int_cell Tryz.underlying3 h9
 obtain ⟨v10,n10,y10,e10,h10⟩:=hg 10 _ rfl
 obtain ⟨x10,rfl,_⟩:=int_cell Tryz.underlying3 h10
 obtain ⟨v11,n11,y11,e11,h11⟩:=hg 11 _ rfl
 obtain ⟨x11,rfl,_⟩:=int_cell Tryz.underlying3 h11
 obtain ⟨v12,n12,y12,e12,h12⟩:=hg 12 _ rfl
 obtain ⟨A,n,c,d12,p12,rfl,k12⟩:=slice_cell Tryz.underlying22 h12
 obtain ⟨v13,n13,y13,e13,h13⟩:=hg 13 _ rfl
 obtain ⟨x13,rfl,_⟩:=int_cell Tryz.underlying3 h13
 obtain ⟨v14,n14,y14,e14,h14⟩:=hg 14 _ rfl
 obtain ⟨x14,rfl,_⟩:=int_cell Tryz.underlying3 h14
 obtain ⟨v15,n15,y15,e15,h15⟩:=hg 15 _ rfl
 obtain ⟨x15,rfl,_⟩:=int_cell Tryz.underlying3 h15
 obtain ⟨v16,n16,y16,e16,h16⟩:=hg 16 _ rfl
 obtain ⟨x16,rfl,_⟩:=int_cell Tryz.underlying3 h16
 obtain ⟨v17,n17,y17,e17,h17⟩:=hg 17 _ rfl
 obtain ⟨x17,rfl⟩:=bool_cell Tryz.underlying4 h17
 obtain ⟨v18,n18,y18,e18,h18⟩:=hg 18 _ rfl
 obtain ⟨x18,rfl,_⟩:=int_cell Tryz.underlying3 h18
 obtain ⟨v19,n19,y19,e19,h19⟩:=hg 19 _ rfl
 obtain ⟨x19,rfl,_⟩:=int_cell Tryz.underlying3 h19
 obtain ⟨v20,n20,y20,e20,h20⟩:=hg 20 _ rfl
 obtain ⟨x20,rfl,_⟩:=int_cell Tryz.underlying3 h20
 obtain ⟨v21,n21,y21,e21,h21⟩:=hg 21 _ rfl
 obtain ⟨x21,rfl,_⟩:=int_cell Tryz.underlying3 h21
 obtain ⟨ts,rfl,g1,g2,g3⟩:=open_list Tryz.underlying22 cellsStrW (by decide) (fun _=>rfl) elemStrW k12
 obtain ⟨g4,_⟩:=open_list_cap Tryz.underlying22 k12
 have hcs:l=[.string x0,.int .i64 x1,.int .i64 x2,.int .i64 x3,.bool x4,.int .i64 x5,.bool x6,.bool x7,.int .i64 x8,.int .i64 x9,.int .i64 x10,.int .i64 x11,.slice A ts.length c,.int .i64 x13,.int .i64 x14,.int .i64 x15,.int .i64 x16,.bool x17,.int .i64 x18,.int .i64 x19,.int .i64 x20,.int .i64 x21]:=List.ext_getElem? (fun i=>match i with
  | 0=>e0
  | 1=>e1
  | 2=>e2
  | 3=>e3
  | 4=>e4
  | 5=>e5
  | 6=>e6
  | 7=>e7
  | 8=>e8
  | 9=>e9
  | 10=>e10
  | 11=>e11
  | 12=>e12
  | 13=>e13
  | 14=>e14
  | 15=>e15
  | 16=>e16
  | 17=>e17
  | 18=>e18
  | 19=>e19
  | 20=>e20
  | 21=>e21
  | n+22=>by rw [List.getElem?_eq_none (by omega),List.getElem?_eq_none (by simp)])
 subst hcs
 simp only [maxLen] at w0 g3
 refine ⟨⟨x0,x1,x2,x3,x4,x5,x6,x7,x8,x9,x10,x11,ts,x13,x14,x15,x16,x17,x18,x19,x20,x21⟩,A,c,rfl,⟨g1,by simp only;omega,by simp only;omega,g2⟩,g4⟩
end
end Go.Proofs.YtlnnjdibkbabiaaGreatDoor
