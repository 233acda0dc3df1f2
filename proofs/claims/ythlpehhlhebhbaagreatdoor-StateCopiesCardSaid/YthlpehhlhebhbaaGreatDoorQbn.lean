/- Contracts and plain laws, joined: StOpen. -/
import Derived.Test.YthlpehhlhebhbaaGreatDoorQbd
import Derived.Test.YthlpehhlhebhbaaGreatDoorQav
/- A state among the arguments of a law (layer 46;written by genstopen.py). -/
set_option linter.unusedSimpArgs false
set_option linter.unusedVariables false
namespace Go.Proofs.YthlpehhlhebhbaaGreatDoor
open Go.ChangeShapes Go.WideShapes Go.RowKit Go.Deep
set_option maxRecDepth 100000
theorem inInt_of_wf {n:Int} (h:(Lit.int .i64 n).wf=true):InInt n:=by
 simp [Lit.wf,IntKind.min,IntKind.max,IntKind.bits,IntKind.signed] at h
 unfold InInt
 omega
def D2.wf (x:D2):Prop:=InInt x.a∧InInt x.b
def D3.wf (x:D3):Prop:=InInt x.a∧InInt x.b∧InInt x.c
def D4.wf (x:D4):Prop:=InInt x.a∧InInt x.b∧InInt x.c∧InInt x.d
def E3.wf (x:E3):Prop:=InInt x.a∧InInt x.b
def E5.wf (x:E5):Prop:=InInt x.a∧InInt x.b∧InInt x.c∧InInt x.d
section
variable {H:Type} {enc0:TypeId × Value→H} {w:World} {base:Nat} {spare:Nat→Bool} {held:Bool}
theorem cellsInt46:Tryz.prog.cellsOf 3=1:=by kernel_rfl
theorem elemInt46:∀ m cs x,DataW.trod enc0 Tryz.prog w base spare held m 3 cs=some x→∃ y:Int,intC y=cs∧InInt y:=by
 intro m cs x h
 obtain ⟨n,rfl,_,hw⟩:=DataW.trod_int Tryz.underlying3 h
 exact ⟨n,rfl,inInt_of_wf hw⟩
theorem open_ints46 {A:Option Addr} {n c:Nat} {d:DataW H} {p:List MemPlace} (h:DataW.Trod enc0 Tryz.prog w base spare held 54 (.slice A n c) d p) :
  ∃ xs:List Int,n=xs.length∧RdL 1 intC w w.heap.size A xs∧(∀ x∈xs,InInt x)∧xs.length≤9223372036854775807∧xs.length≤c:=by
 obtain ⟨g4,_⟩:=open_list_cap Tryz.underlying54 h
 obtain ⟨xs,h1,h2,h3,h4⟩:=open_list Tryz.underlying54 cellsInt46 (by decide) (fun _=>rfl) elemInt46 h
 subst h1
 refine ⟨xs,rfl,h2,h3,?_,g4⟩
 simp only [maxLen] at h4
 omega
theorem fieldsWaiting:∃ fs:Array Field,Tryz.prog.underlying 61=some (.struct fs)∧fs.size=4∧fs.toList.map (·.type)=[3,3,3,3]∧oneCellFields Tryz.prog fs=true :=
 ⟨_,Tryz.underlying61,by kernel_rfl,by kernel_rfl,by kernel_rfl⟩
theorem cellsWaiting:Tryz.prog.cellsOf 61=4:=by kernel_rfl
theorem elemWaiting:∀ m cs x,DataW.trod enc0 Tryz.prog w base spare held m 61 cs=some x→∃ y:D4,D4.cs y=cs∧y.wf:=by
 intro m l x hf
 obtain ⟨fs,hu,hsz,hty,hone⟩:=fieldsWaiting
 obtain ⟨hl,hc⟩:=struct_cells hu hone (by rw [cellsWaiting,hsz]) hf
 have hg:∀ (i:Nat) (t:TypeId),(fs.toList.map (·.type))[i]?=some t→∃ v n y,l[i]?=some v∧DataW.trod enc0 Tryz.prog w base spare held n t [v]=some y:=by
  intro i t hi
  rw [List.getElem?_map] at hi
  obtain ⟨f,hf,rfl⟩:=Option.map_eq_some_iff.1 hi
  exact hc i f (by simpa using hf)
 rw [hty] at hg
 have hlN:l.length=4:=by rw [← hsz];exact hl
 obtain ⟨v0,n0,y0,e0,h0⟩:=hg 0 _ rfl
 obtain ⟨x0,rfl,w0⟩:=int_cell Tryz.underlying3 h0
 obtain ⟨v1,n1,y1,e1,h1⟩:=hg 1 _ rfl
 obtain ⟨x1,rfl,w1⟩:=int_cell Tryz.underlying3 h1
 obtain ⟨v2,n2,y2,e2,h2⟩:=hg 2 _ rfl
 obtain ⟨x2,rfl,w2⟩:=int_cell Tryz.underlying3 h2
 obtain ⟨v3,n3,y3,e3,h3⟩:=hg 3 _ rfl
 obtain ⟨x3,rfl,w3⟩:=int_cell Tryz.underlying3 h3
 have hcs:l=[.int .i64 x0,.int .i64 x1,.int .i64 x2,.int .i64 x3]:=List.ext_getElem? (fun i=>match i with
  | 0=>e0
  | 1=>e1
  | 2=>e2
  | 3=>e3
  | n+4=>by rw [List.getElem?_eq_none (by omega),List.getElem?_eq_none (by simp)])
 subst hcs
 exact ⟨⟨x0,x1,x2,x3⟩,rfl,⟨inInt_of_wf w0,inInt_of_wf w1,inInt_of_wf w2,inInt_of_wf w3⟩⟩
theorem openWaitings {A:Option Addr} {n c:Nat} {d:DataW H} {p:List MemPlace} (h:DataW.Trod enc0 Tryz.prog w base spare held 23 (.slice A n c) d p) :
  ∃ xs:List D4,n=xs.length∧RdL 4 D4.cs w w.heap.size A xs∧(∀ x∈xs,x.wf)∧xs.length≤9223372036854775807∧xs.length≤c:=by
 obtain ⟨g4,_⟩:=open_list_cap Tryz.underlying23 h
 obtain ⟨xs,h1,h2,h3,h4⟩:=open_list Tryz.underlying23 cellsWaiting (by decide) (fun _=>rfl) elemWaiting h
 subst h1
 refine ⟨xs,rfl,h2,h3,?_,g4⟩
 simp only [maxLen] at h4
 omega
theorem fieldsSent:∃ fs:Array Field,Tryz.prog.underlying 46=some (.struct fs)∧fs.size=3∧fs.toList.map (·.type)=[3,3,3]∧oneCellFields Tryz.prog fs=true :=
 ⟨_,Tryz.underlying46,by kernel_rfl,by kernel_rfl,by kernel_rfl⟩
theorem cellsSent:Tryz.prog.cellsOf 46=3:=by kernel_rfl
theorem elemSent:∀ m cs x,DataW.trod enc0 Tryz.prog w base spare held m 46 cs=some x→∃ y:D3,D3.cs y=cs∧y.wf:=by
 intro m l x hf
 obtain ⟨fs,hu,hsz,hty,hone⟩:=fieldsSent
 obtain ⟨hl,hc⟩:=struct_cells hu hone (by rw [cellsSent,hsz]) hf
 have hg:∀ (i:Nat) (t:TypeId),(fs.toList.map (·.type))[i]?=some t→∃ v n y,l[i]?=some v∧DataW.trod enc0 Tryz.prog w base spare held n t [v]=some y:=by
  intro i t hi
  rw [List.getElem?_map] at hi
  obtain ⟨f,hf,rfl⟩:=Option.map_eq_some_iff.1 hi
  exact hc i f (by simpa using hf)
 rw [hty] at hg
 have hlN:l.length=3:=by rw [← hsz];exact hl
 obtain ⟨v0,n0,y0,e0,h0⟩:=hg 0 _ rfl
 obtain ⟨x0,rfl,w0⟩:=int_cell Tryz.underlying3 h0
 obtain ⟨v1,n1,y1,e1,h1⟩:=hg 1 _ rfl
 obtain ⟨x1,rfl,w1⟩:=int_cell Tryz.underlying3 h1
 obtain ⟨v2,n2,y2,e2,h2⟩:=hg 2 _ rfl
 obtain ⟨x2,rfl,w2⟩:=int_cell Tryz.underlying3 h2
 have hcs:l=[.int .i64 x0,.int .i64 x1,.int .i64 x2]:=List.ext_getElem? (fun i=>match i with
  | 0=>e0
  | 1=>e1
  | 2=>e2
  | n+3=>by rw [List.getElem?_eq_none (by omega),List.getElem?_eq_none (by simp)])
 subst hcs
 exact ⟨⟨x0,x1,x2⟩,rfl,⟨inInt_of_wf w0,inInt_of_wf w1,inInt_of_wf w2⟩⟩
theorem openSents {A:Option Addr} {n c:Nat} {d:DataW H} {p:List MemPlace} (h:DataW.Trod enc0 Tryz.prog w base spare held 24 (.slice A n c) d p) :
  ∃ xs:List D3,n=xs.length∧RdL 3 D3.cs w w.heap.size A xs∧(∀ x∈xs,x.wf)∧xs.length≤9223372036854775807∧xs.length≤c:=by
 obtain ⟨g4,_⟩:=open_list_cap Tryz.underlying24 h
 obtain ⟨xs,h1,h2,h3,h4⟩:=open_list Tryz.underlying24 cellsSent (by decide) (fun _=>rfl) elemSent h
 subst h1
 refine ⟨xs,rfl,h2,h3,?_,g4⟩
 simp only [maxLen] at h4
 omega
theorem fieldsDebt:∃ fs:Array Field,Tryz.prog.underlying 48=some (.struct fs)∧fs.size=2∧fs.toList.map (·.type)=[3,3]∧oneCellFields Tryz.prog fs=true :=
 ⟨_,Tryz.underlying48,by kernel_rfl,by kernel_rfl,by kernel_rfl⟩
theorem cellsDebt:Tryz.prog.cellsOf 48=2:=by kernel_rfl
theorem elemDebt:∀ m cs x,DataW.trod enc0 Tryz.prog w base spare held m 48 cs=some x→∃ y:D2,D2.cs y=cs∧y.wf:=by
 intro m l x hf
 obtain ⟨fs,hu,hsz,hty,hone⟩:=fieldsDebt
 obtain ⟨hl,hc⟩:=struct_cells hu hone (by rw [cellsDebt,hsz]) hf
 have hg:∀ (i:Nat) (t:TypeId),(fs.toList.map (·.type))[i]?=some t→∃ v n y,l[i]?=some v∧DataW.trod enc0 Tryz.prog w base spare held n t [v]=some y:=by
  intro i t hi
  rw [List.getElem?_map] at hi
  obtain ⟨f,hf,rfl⟩:=Option.map_eq_some_iff.1 hi
  exact hc i f (by simpa using hf)
 rw [hty] at hg
 have hlN:l.length=2:=by rw [← hsz];exact hl
 obtain ⟨v0,n0,y0,e0,h0⟩:=hg 0 _ rfl
 obtain ⟨x0,rfl,w0⟩:=int_cell Tryz.underlying3 h0
 obtain ⟨v1,n1,y1,e1,h1⟩:=hg 1 _ rfl
 obtain ⟨x1,rfl,w1⟩:=int_cell Tryz.underlying3 h1
 have hcs:l=[.int .i64 x0,.int .i64 x1]:=List.ext_getElem? (fun i=>match i with
  | 0=>e0
  | 1=>e1
  | n+2=>by rw [List.getElem?_eq_none (by omega),List.getElem?_eq_none (by simp)])
 subst hcs
 exact ⟨⟨x0,x1⟩,rfl,⟨inInt_of_wf w0,inInt_of_wf w1⟩⟩
theorem openDebts {A:Option Addr} {n c:Nat} {d:DataW H} {p:List MemPlace} (h:DataW.Trod enc0 Tryz.prog w base spare held 25 (.slice A n c) d p) :
  ∃ xs:List D2,n=xs.length∧RdL 2 D2.cs w w.heap.size A xs∧(∀ x∈xs,x.wf)∧xs.length≤9223372036854775807∧xs.length≤c:=by
 obtain ⟨g4,_⟩:=open_list_cap Tryz.underlying25 h
 obtain ⟨xs,h1,h2,h3,h4⟩:=open_list Tryz.underlying25 cellsDebt (by decide) (fun _=>rfl) elemDebt h
 subst h1
 refine ⟨xs,rfl,h2,h3,?_,g4⟩
 simp only [maxLen] at h4
 omega
theorem fieldsPair:∃ fs:Array Field,Tryz.prog.underlying 88=some (.struct fs)∧fs.size=4∧fs.toList.map (·.type)=[3,3,3,3]∧oneCellFields Tryz.prog fs=true :=
 ⟨_,Tryz.underlying88,by kernel_rfl,by kernel_rfl,by kernel_rfl⟩
theorem cellsPair:Tryz.prog.cellsOf 88=4:=by kernel_rfl
theorem elemPair:∀ m cs x,DataW.trod enc0 Tryz.prog w base spare held m 88 cs=some x→∃ y:D4,D4.cs y=cs∧y.wf:=by
 intro m l x hf
 obtain ⟨fs,hu,hsz,hty,hone⟩:=fieldsPair
 obtain ⟨hl,hc⟩:=struct_cells hu hone (by rw [cellsPair,hsz]) hf
 have hg:∀ (i:Nat) (t:TypeId),(fs.toList.map (·.type))[i]?=some t→∃ v n y,l[i]?=some v∧DataW.trod enc0 Tryz.prog w base spare held n t [v]=some y:=by
  intro i t hi
  rw [List.getElem?_map] at hi
  obtain ⟨f,hf,rfl⟩:=Option.map_eq_some_iff.1 hi
  exact hc i f (by simpa using hf)
 rw [hty] at hg
 have hlN:l.length=4:=by rw [← hsz];exact hl
 obtain ⟨v0,n0,y0,e0,h0⟩:=hg 0 _ rfl
 obtain ⟨x0,rfl,w0⟩:=int_cell Tryz.underlying3 h0
 obtain ⟨v1,n1,y1,e1,h1⟩:=hg 1 _ rfl
 obtain ⟨x1,rfl,w1⟩:=int_cell Tryz.underlying3 h1
 obtain ⟨v2,n2,y2,e2,h2⟩:=hg 2 _ rfl
 obtain ⟨x2,rfl,w2⟩:=int_cell Tryz.underlying3 h2
 obtain ⟨v3,n3,y3,e3,h3⟩:=hg 3 _ rfl
 obtain ⟨x3,rfl,w3⟩:=int_cell Tryz.underlying3 h3
 have hcs:l=[.int .i64 x0,.int .i64 x1,.int .i64 x2,.int .i64 x3]:=List.ext_getElem? (fun i=>match i with
  | 0=>e0
  | 1=>e1
  | 2=>e2
  | 3=>e3
  | n+4=>by rw [List.getElem?_eq_none (by omega),List.getElem?_eq_none (by simp)])
 subst hcs
 exact ⟨⟨x0,x1,x2,x3⟩,rfl,⟨inInt_of_wf w0,inInt_of_wf w1,inInt_of_wf w2,inInt_of_wf w3⟩⟩
theorem openPairs {A:Option Addr} {n c:Nat} {d:DataW H} {p:List MemPlace} (h:DataW.Trod enc0 Tryz.prog w base spare held 26 (.slice A n c) d p) :
  ∃ xs:List D4,n=xs.length∧RdL 4 D4.cs w w.heap.size A xs∧(∀ x∈xs,x.wf)∧xs.length≤9223372036854775807∧xs.length≤c:=by
 obtain ⟨g4,_⟩:=open_list_cap Tryz.underlying26 h
 obtain ⟨xs,h1,h2,h3,h4⟩:=open_list Tryz.underlying26 cellsPair (by decide) (fun _=>rfl) elemPair h
 subst h1
 refine ⟨xs,rfl,h2,h3,?_,g4⟩
 simp only [maxLen] at h4
 omega
theorem fieldsProof:∃ fs:Array Field,Tryz.prog.underlying 92=some (.struct fs)∧fs.size=3∧fs.toList.map (·.type)=[3,3,3]∧oneCellFields Tryz.prog fs=true :=
 ⟨_,Tryz.underlying92,by kernel_rfl,by kernel_rfl,by kernel_rfl⟩
theorem cellsProof:Tryz.prog.cellsOf 92=3:=by kernel_rfl
theorem elemProof:∀ m cs x,DataW.trod enc0 Tryz.prog w base spare held m 92 cs=some x→∃ y:D3,D3.cs y=cs∧y.wf:=by
 intro m l x hf
 obtain ⟨fs,hu,hsz,hty,hone⟩:=fieldsProof
 obtain ⟨hl,hc⟩:=struct_cells hu hone (by rw [cellsProof,hsz]) hf
 have hg:∀ (i:Nat) (t:TypeId),(fs.toList.map (·.type))[i]?=some t→∃ v n y,l[i]?=some v∧DataW.trod enc0 Tryz.prog w base spare held n t [v]=some y:=by
  intro i t hi
  rw [List.getElem?_map] at hi
  obtain ⟨f,hf,rfl⟩:=Option.map_eq_some_iff.1 hi
  exact hc i f (by simpa using hf)
 rw [hty] at hg
 have hlN:l.length=3:=by rw [← hsz];exact hl
 obtain ⟨v0,n0,y0,e0,h0⟩:=hg 0 _ rfl
 obtain ⟨x0,rfl,w0⟩:=int_cell Tryz.underlying3 h0
 obtain ⟨v1,n1,y1,e1,h1⟩:=hg 1 _ rfl
 obtain ⟨x1,rfl,w1⟩:=int_cell Tryz.underlying3 h1
 obtain ⟨v2,n2,y2,e2,h2⟩:=hg 2 _ rfl
 obtain ⟨x2,rfl,w2⟩:=int_cell Tryz.underlying3 h2
 have hcs:l=[.int .i64 x0,.int .i64 x1,.int .i64 x2]:=List.ext_getElem? (fun i=>match i with
  | 0=>e0
  | 1=>e1
  | 2=>e2
  | n+3=>by rw [List.getElem?_eq_none (by omega),List.getElem?_eq_none (by simp)])
 subst hcs
 exact ⟨⟨x0,x1,x2⟩,rfl,⟨inInt_of_wf w0,inInt_of_wf w1,inInt_of_wf w2⟩⟩
theorem openProofs {A:Option Addr} {n c:Nat} {d:DataW H} {p:List MemPlace} (h:DataW.Trod enc0 Tryz.prog w base spare held 27 (.slice A n c) d p) :
  ∃ xs:List D3,n=xs.length∧RdL 3 D3.cs w w.heap.size A xs∧(∀ x∈xs,x.wf)∧xs.length≤9223372036854775807∧xs.length≤c:=by
 obtain ⟨g4,_⟩:=open_list_cap Tryz.underlying27 h
 obtain ⟨xs,h1,h2,h3,h4⟩:=open_list Tryz.underlying27 cellsProof (by decide) (fun _=>rfl) elemProof h
 subst h1
 refine ⟨xs,rfl,h2,h3,?_,g4⟩
 simp only [maxLen] at h4
 omega
theorem fieldsNote:∃ fs:Array Field,Tryz.prog.underlying 59=some (.struct fs)∧fs.size=5∧fs.toList.map (·.type)=[3,3,3,3,4]∧oneCellFields Tryz.prog fs=true :=
 ⟨_,Tryz.underlying59,by kernel_rfl,by kernel_rfl,by kernel_rfl⟩
theorem cellsNote:Tryz.prog.cellsOf 59=5:=by kernel_rfl
theorem elemNote:∀ m cs x,DataW.trod enc0 Tryz.prog w base spare held m 59 cs=some x→∃ y:E5,E5.cs y=cs∧y.wf:=by
 intro m l x hf
 obtain ⟨fs,hu,hsz,hty,hone⟩:=fieldsNote
 obtain ⟨hl,hc⟩:=struct_cells hu hone (by rw [cellsNote,hsz]) hf
 have hg:∀ (i:Nat) (t:TypeId),(fs.toList.map (·.type))[i]?=some t→∃ v n y,l[i]?=some v∧DataW.trod enc0 Tryz.prog w base spare held n t [v]=some y:=by
  intro i t hi
  rw [List.getElem?_map] at hi
  obtain ⟨f,hf,rfl⟩:=Option.map_eq_some_iff.1 hi
  exact hc i f (by simpa using hf)
 rw [hty] at hg
 have hlN:l.length=5:=by rw [← hsz];exact hl
 obtain ⟨v0,n0,y0,e0,h0⟩:=hg 0 _ rfl
 obtain ⟨x0,rfl,w0⟩:=int_cell Tryz.underlying3 h0
 obtain ⟨v1,n1,y1,e1,h1⟩:=hg 1 _ rfl
 obtain ⟨x1,rfl,w1⟩:=int_cell Tryz.underlying3 h1
 obtain ⟨v2,n2,y2,e2,h2⟩:=hg 2 _ rfl
 obtain ⟨x2,rfl,w2⟩:=int_cell Tryz.underlying3 h2
 obtain ⟨v3,n3,y3,e3,h3⟩:=hg 3 _ rfl
 obtain ⟨x3,rfl,w3⟩:=int_cell Tryz.underlying3 h3
 obtain ⟨v4,n4,y4,e4,h4⟩:=hg 4 _ rfl
 obtain ⟨x4,rfl⟩:=bool_cell Tryz.underlying4 h4
 have hcs:l=[.int .i64 x0,.int .i64 x1,.int .i64 x2,.int .i64 x3,.bool x4]:=List.ext_getElem? (fun i=>match i with
  | 0=>e0
  | 1=>e1
  | 2=>e2
  | 3=>e3
  | 4=>e4
  | n+5=>by rw [List.getElem?_eq_none (by omega),List.getElem?_eq_none (by simp)])
 subst hcs
 exact ⟨⟨x0,x1,x2,x3,x4⟩,rfl,⟨inInt_of_wf w0,inInt_of_wf w1,inInt_of_wf w2,inInt_of_wf w3⟩⟩
theorem openNotes {A:Option Addr} {n c:Nat} {d:DataW H} {p:List MemPlace} (h:DataW.Trod enc0 Tryz.prog w base spare held 57 (.slice A n c) d p) :
  ∃ xs:List E5,n=xs.length∧RdL 5 E5.cs w w.heap.size A xs∧(∀ x∈xs,x.wf)∧xs.length≤9223372036854775807∧xs.length≤c:=by
 obtain ⟨g4,_⟩:=open_list_cap Tryz.underlying57 h
 obtain ⟨xs,h1,h2,h3,h4⟩:=open_list Tryz.underlying57 cellsNote (by decide) (fun _=>rfl) elemNote h
 subst h1
 refine ⟨xs,rfl,h2,h3,?_,g4⟩
 simp only [maxLen] at h4
 omega
theorem fieldsVerdict:∃ fs:Array Field,Tryz.prog.underlying 99=some (.struct fs)∧fs.size=3∧fs.toList.map (·.type)=[3,3,4]∧oneCellFields Tryz.prog fs=true :=
 ⟨_,Tryz.underlying99,by kernel_rfl,by kernel_rfl,by kernel_rfl⟩
theorem cellsVerdict:Tryz.prog.cellsOf 99=3:=by kernel_rfl
theorem elemVerdict:∀ m cs x,DataW.trod enc0 Tryz.prog w base spare held m 99 cs=some x→∃ y:E3,E3.cs y=cs∧y.wf:=by
 intro m l x hf
 obtain ⟨fs,hu,hsz,hty,hone⟩:=fieldsVerdict
 obtain ⟨hl,hc⟩:=struct_cells hu hone (by rw [cellsVerdict,hsz]) hf
 have hg:∀ (i:Nat) (t:TypeId),(fs.toList.map (·.type))[i]?=some t→∃ v n y,l[i]?=some v∧DataW.trod enc0 Tryz.prog w base spare held n t [v]=some y:=by
  intro i t hi
  rw [List.getElem?_map] at hi
  obtain ⟨f,hf,rfl⟩:=Option.map_eq_some_iff.1 hi
  exact hc i f (by simpa using hf)
 rw [hty] at hg
 have hlN:l.length=3:=by rw [← hsz];exact hl
 obtain ⟨v0,n0,y0,e0,h0⟩:=hg 0 _ rfl
 obtain ⟨x0,rfl,w0⟩:=int_cell Tryz.underlying3 h0
 obtain ⟨v1,n1,y1,e1,h1⟩:=hg 1 _ rfl
 obtain ⟨x1,rfl,w1⟩:=int_cell Tryz.underlying3 h1
 obtain ⟨v2,n2,y2,e2,h2⟩:=hg 2 _ rfl
 obtain ⟨x2,rfl⟩:=bool_cell Tryz.underlying4 h2
 have hcs:l=[.int .i64 x0,.int .i64 x1,.bool x2]:=List.ext_getElem? (fun i=>match i with
  | 0=>e0
  | 1=>e1
  | 2=>e2
  | n+3=>by rw [List.getElem?_eq_none (by omega),List.getElem?_eq_none (by simp)])
 subst hcs
 exact ⟨⟨x0,x1,x2⟩,rfl,⟨inInt_of_wf w0,inInt_of_wf w1⟩⟩
theorem openVerdicts {A:Option Addr} {n c:Nat} {d:DataW H} {p:List MemPlace} (h:DataW.Trod enc0 Tryz.prog w base spare held 29 (.slice A n c) d p) :
  ∃ xs:List E3,n=xs.length∧RdL 3 E3.cs w w.heap.size A xs∧(∀ x∈xs,x.wf)∧xs.length≤9223372036854775807∧xs.length≤c:=by
 obtain ⟨g4,_⟩:=open_list_cap Tryz.underlying29 h
 obtain ⟨xs,h1,h2,h3,h4⟩:=open_list Tryz.underlying29 cellsVerdict (by decide) (fun _=>rfl) elemVerdict h
 subst h1
 refine ⟨xs,rfl,h2,h3,?_,g4⟩
 simp only [maxLen] at h4
 omega
theorem fieldsHold:∃ fs:Array Field,Tryz.prog.underlying 103=some (.struct fs)∧fs.size=4∧fs.toList.map (·.type)=[3,3,3,3]∧oneCellFields Tryz.prog fs=true :=
 ⟨_,Tryz.underlying103,by kernel_rfl,by kernel_rfl,by kernel_rfl⟩
theorem cellsHold:Tryz.prog.cellsOf 103=4:=by kernel_rfl
theorem elemHold:∀ m cs x,DataW.trod enc0 Tryz.prog w base spare held m 103 cs=some x→∃ y:D4,D4.cs y=cs∧y.wf:=by
 intro m l x hf
 obtain ⟨fs,hu,hsz,hty,hone⟩:=fieldsHold
 obtain ⟨hl,hc⟩:=struct_cells hu hone (by rw [cellsHold,hsz]) hf
 have hg:∀ (i:Nat) (t:TypeId),(fs.toList.map (·.type))[i]?=some t→∃ v n y,l[i]?=some v∧DataW.trod enc0 Tryz.prog w base spare held n t [v]=some y:=by
  intro i t hi
  rw [List.getElem?_map] at hi
  obtain ⟨f,hf,rfl⟩:=Option.map_eq_some_iff.1 hi
  exact hc i f (by simpa using hf)
 rw [hty] at hg
 have hlN:l.length=4:=by rw [← hsz];exact hl
 obtain ⟨v0,n0,y0,e0,h0⟩:=hg 0 _ rfl
 obtain ⟨x0,rfl,w0⟩:=int_cell Tryz.underlying3 h0
 obtain ⟨v1,n1,y1,e1,h1⟩:=hg 1 _ rfl
 obtain ⟨x1,rfl,w1⟩:=int_cell Tryz.underlying3 h1
 obtain ⟨v2,n2,y2,e2,h2⟩:=hg 2 _ rfl
 obtain ⟨x2,rfl,w2⟩:=int_cell Tryz.underlying3 h2
 obtain ⟨v3,n3,y3,e3,h3⟩:=hg 3 _ rfl
 obtain ⟨x3,rfl,w3⟩:=int_cell Tryz.underlying3 h3
 have hcs:l=[.int .i64 x0,.int .i64 x1,.int .i64 x2,.int .i64 x3]:=List.ext_getElem? (fun i=>match i with
  | 0=>e0
  | 1=>e1
  | 2=>e2
  | 3=>e3
  | n+4=>by rw [List.getElem?_eq_none (by omega),List.getElem?_eq_none (by simp)])
 subst hcs
 exact ⟨⟨x0,x1,x2,x3⟩,rfl,⟨inInt_of_wf w0,inInt_of_wf w1,inInt_of_wf w2,inInt_of_wf w3⟩⟩
theorem openHolds {A:Option Addr} {n c:Nat} {d:DataW H} {p:List MemPlace} (h:DataW.Trod enc0 Tryz.prog w base spare held 30 (.slice A n c) d p) :
  ∃ xs:List D4,n=xs.length∧RdL 4 D4.cs w w.heap.size A xs∧(∀ x∈xs,x.wf)∧xs.length≤9223372036854775807∧xs.length≤c:=by
 obtain ⟨g4,_⟩:=open_list_cap Tryz.underlying30 h
 obtain ⟨xs,h1,h2,h3,h4⟩:=open_list Tryz.underlying30 cellsHold (by decide) (fun _=>rfl) elemHold h
 subst h1
 refine ⟨xs,rfl,h2,h3,?_,g4⟩
 simp only [maxLen] at h4
 omega
theorem fieldsOrder:∃ fs:Array Field,Tryz.prog.underlying 50=some (.struct fs)∧fs.size=4∧fs.toList.map (·.type)=[3,3,3,3]∧oneCellFields Tryz.prog fs=true :=
 ⟨_,Tryz.underlying50,by kernel_rfl,by kernel_rfl,by kernel_rfl⟩
theorem cellsOrder:Tryz.prog.cellsOf 50=4:=by kernel_rfl
theorem elemOrder:∀ m cs x,DataW.trod enc0 Tryz.prog w base spare held m 50 cs=some x→∃ y:D4,D4.cs y=cs∧y.wf:=by
 intro m l x hf
 obtain ⟨fs,hu,hsz,hty,hone⟩:=fieldsOrder
 obtain ⟨hl,hc⟩:=struct_cells hu hone (by rw [cellsOrder,hsz]) hf
 have hg:∀ (i:Nat) (t:TypeId),(fs.toList.map (·.type))[i]?=some t→∃ v n y,l[i]?=some v∧DataW.trod enc0 Tryz.prog w base spare held n t [v]=some y:=by
  intro i t hi
  rw [List.getElem?_map] at hi
  obtain ⟨f,hf,rfl⟩:=Option.map_eq_some_iff.1 hi
  exact hc i f (by simpa using hf)
 rw [hty] at hg
 have hlN:l.length=4:=by rw [← hsz];exact hl
 obtain ⟨v0,n0,y0,e0,h0⟩:=hg 0 _ rfl
 obtain ⟨x0,rfl,w0⟩:=int_cell Tryz.underlying3 h0
 obtain ⟨v1,n1,y1,e1,h1⟩:=hg 1 _ rfl
 obtain ⟨x1,rfl,w1⟩:=int_cell Tryz.underlying3 h1
 obtain ⟨v2,n2,y2,e2,h2⟩:=hg 2 _ rfl
 obtain ⟨x2,rfl,w2⟩:=int_cell Tryz.underlying3 h2
 obtain ⟨v3,n3,y3,e3,h3⟩:=hg 3 _ rfl
 obtain ⟨x3,rfl,w3⟩:=int_cell Tryz.underlying3 h3
 have hcs:l=[.int .i64 x0,.int .i64 x1,.int .i64 x2,.int .i64 x3]:=List.ext_getElem? (fun i=>match i with
  | 0=>e0
  | 1=>e1
  | 2=>e2
  | 3=>e3
  | n+4=>by rw [List.getElem?_eq_none (by omega),List.getElem?_eq_none (by simp)])
 subst hcs
 exact ⟨⟨x0,x1,x2,x3⟩,rfl,⟨inInt_of_wf w0,inInt_of_wf w1,inInt_of_wf w2,inInt_of_wf w3⟩⟩
theorem openOrders {A:Option Addr} {n c:Nat} {d:DataW H} {p:List MemPlace} (h:DataW.Trod enc0 Tryz.prog w base spare held 31 (.slice A n c) d p) :
  ∃ xs:List D4,n=xs.length∧RdL 4 D4.cs w w.heap.size A xs∧(∀ x∈xs,x.wf)∧xs.length≤9223372036854775807∧xs.length≤c:=by
 obtain ⟨g4,_⟩:=open_list_cap Tryz.underlying31 h
 obtain ⟨xs,h1,h2,h3,h4⟩:=open_list Tryz.underlying31 cellsOrder (by decide) (fun _=>rfl) elemOrder h
 subst h1
 refine ⟨xs,rfl,h2,h3,?_,g4⟩
 simp only [maxLen] at h4
 omega
theorem fieldsSealed:∃ fs:Array Field,Tryz.prog.underlying 52=some (.struct fs)∧fs.size=3∧fs.toList.map (·.type)=[3,3,3]∧oneCellFields Tryz.prog fs=true :=
 ⟨_,Tryz.underlying52,by kernel_rfl,by kernel_rfl,by kernel_rfl⟩
theorem cellsSealed:Tryz.prog.cellsOf 52=3:=by kernel_rfl
theorem elemSealed:∀ m cs x,DataW.trod enc0 Tryz.prog w base spare held m 52 cs=some x→∃ y:D3,D3.cs y=cs∧y.wf:=by
 intro m l x hf
 obtain ⟨fs,hu,hsz,hty,hone⟩:=fieldsSealed
 obtain ⟨hl,hc⟩:=struct_cells hu hone (by rw [cellsSealed,hsz]) hf
 have hg:∀ (i:Nat) (t:TypeId),(fs.toList.map (·.type))[i]?=some t→∃ v n y,l[i]?=some v∧DataW.trod enc0 Tryz.prog w base spare held n t [v]=some y:=by
  intro i t hi
  rw [List.getElem?_map] at hi
  obtain ⟨f,hf,rfl⟩:=Option.map_eq_some_iff.1 hi
  exact hc i f (by simpa using hf)
 rw [hty] at hg
 have hlN:l.length=3:=by rw [← hsz];exact hl
 obtain ⟨v0,n0,y0,e0,h0⟩:=hg 0 _ rfl
 obtain ⟨x0,rfl,w0⟩:=int_cell Tryz.underlying3 h0
 obtain ⟨v1,n1,y1,e1,h1⟩:=hg 1 _ rfl
 obtain ⟨x1,rfl,w1⟩:=int_cell Tryz.underlying3 h1
 obtain ⟨v2,n2,y2,e2,h2⟩:=hg 2 _ rfl
 obtain ⟨x2,rfl,w2⟩:=int_cell Tryz.underlying3 h2
 have hcs:l=[.int .i64 x0,.int .i64 x1,.int .i64 x2]:=List.ext_getElem? (fun i=>match i with
  | 0=>e0
  | 1=>e1
  | 2=>e2
  | n+3=>by rw [List.getElem?_eq_none (by omega),List.getElem?_eq_none (by simp)])
 subst hcs
 exact ⟨⟨x0,x1,x2⟩,rfl,⟨inInt_of_wf w0,inInt_of_wf w1,inInt_of_wf w2⟩⟩
theorem openSealeds {A:Option Addr} {n c:Nat} {d:DataW H} {p:List MemPlace} (h:DataW.Trod enc0 Tryz.prog w base spare held 32 (.slice A n c) d p) :
  ∃ xs:List D3,n=xs.length∧RdL 3 D3.cs w w.heap.size A xs∧(∀ x∈xs,x.wf)∧xs.length≤9223372036854775807∧xs.length≤c:=by
 obtain ⟨g4,_⟩:=open_list_cap Tryz.underlying32 h
 obtain ⟨xs,h1,h2,h3,h4⟩:=open_list Tryz.underlying32 cellsSealed (by decide) (fun _=>rfl) elemSealed h
 subst h1
 refine ⟨xs,rfl,h2,h3,?_,g4⟩
 simp only [maxLen] at h4
 omega
theorem fieldsEvent:∃ fs:Array Field,Tryz.prog.underlying 56=some (.struct fs)∧fs.size=12∧fs.toList.map (·.type)=[3,3,54,3,3,3,3,3,3,9,54,3]∧oneCellFields Tryz.prog fs=true :=
 ⟨_,Tryz.underlying56,by kernel_rfl,by kernel_rfl,by kernel_rfl⟩
theorem cellsEvent:Tryz.prog.cellsOf 56=12:=by kernel_rfl
theorem elemEvent:∀ m cs x,DataW.trod enc0 Tryz.prog w base spare held m 56 cs=some x→∃ y:EvL,EvL.cs y=cs∧EvLOk w w.heap.size y:=by
 intro m l x hf
 obtain ⟨fs,hu,hsz,hty,hone⟩:=fieldsEvent
 obtain ⟨hl,hc⟩:=struct_cells hu hone (by rw [cellsEvent,hsz]) hf
 have hg:∀ (i:Nat) (t:TypeId),(fs.toList.map (·.type))[i]?=some t→∃ v n y,l[i]?=some v∧DataW.trod enc0 Tryz.prog w base spare held n t [v]=some y:=by
  intro i t hi
  rw [List.getElem?_map] at hi
  obtain ⟨f,hf,rfl⟩:=Option.map_eq_some_iff.1 hi
  exact hc i f (by simpa using hf)
 rw [hty] at hg
 have hlN:l.length=12:=by rw [← hsz];exact hl
 obtain ⟨v0,n0,y0,e0,h0⟩:=hg 0 _ rfl
 obtain ⟨x0,rfl,w0⟩:=int_cell Tryz.underlying3 h0
 obtain ⟨v1,n1,y1,e1,h1⟩:=hg 1 _ rfl
 obtain ⟨x1,rfl,w1⟩:=int_cell Tryz.underlying3 h1
 obtain ⟨v2,n2,y2,e2,h2⟩:=hg 2 _ rfl
 obtain ⟨A2,N2,c2,d2,p2,rfl,k2⟩:=slice_cell Tryz.underlying54 h2
 obtain ⟨ts2,rfl,f2⟩:=open_ints46 k2
 obtain ⟨v3,n3,y3,e3,h3⟩:=hg 3 _ rfl
 obtain ⟨x3,rfl,w3⟩:=int_cell Tryz.underlying3 h3
 obtain ⟨v4,n4,y4,e4,h4⟩:=hg 4 _ rfl
 obtain ⟨x4,rfl,w4⟩:=int_cell Tryz.underlying3 h4
 obtain ⟨v5,n5,y5,e5,h5⟩:=hg 5 _ rfl
 obtain ⟨x5,rfl,w5⟩:=int_cell Tryz.underlying3 h5
 obtain ⟨v6,n6,y6,e6,h6⟩:=hg 6 _ rfl
 obtain ⟨x6,rfl,w6⟩:=int_cell Tryz.underlying3 h6
 obtain ⟨v7,n7,y7,e7,h7⟩:=hg 7 _ rfl
 obtain ⟨x7,rfl,w7⟩:=int_cell Tryz.underlying3 h7
 obtain ⟨v8,n8,y8,e8,h8⟩:=hg 8 _ rfl
 obtain ⟨x8,rfl,w8⟩:=int_cell Tryz.underlying3 h8
 obtain ⟨v9,n9,y9,e9,h9⟩:=hg 9 _ rfl
 obtain ⟨x9,rfl,w9⟩:=string_cell Tryz.underlying9 h9
 obtain ⟨v10,n10,y10,e10,h10⟩:=hg 10 _ rfl
 obtain ⟨A10,N10,c10,d10,p10,rfl,k10⟩:=slice_cell Tryz.underlying54 h10
 obtain ⟨ts10,rfl,f10⟩:=open_ints46 k10
 obtain ⟨v11,n11,y11,e11,h11⟩:=hg 11 _ rfl
 obtain ⟨x11,rfl,w11⟩:=int_cell Tryz.underlying3 h11
 have hcs:l=[.int .i64 x0,.int .i64 x1,.slice A2 ts2.length c2,.int .i64 x3,.int .i64 x4,.int .i64 x5,.int .i64 x6,.int .i64 x7,.int .i64 x8,.string x9,.slice A10 ts10.length c10,.int .i64 x11]:=List.ext_getElem? (fun i=>match i with
  | 0=>e0
  | 1=>e1
  | 2=>e2
  | 3=>e3
  | 4=>e4
  | 5=>e5
  | 6=>e6
  | 7=>e7
  | 8=>e8
  | 9=>e9
  | 10=>e10
  | 11=>e11
  | n+12=>by rw [List.getElem?_eq_none (by omega),List.getElem?_eq_none (by simp)])
 subst hcs
 simp only [maxLen] at w9
 exact ⟨⟨⟨x0,x1,ts2,x3,x4,x5,x6,x7,x8,x9,ts10,x11⟩,A2,c2,A10,c10⟩,rfl,⟨⟨f2.1,f10.1,f2.2.2.1,f10.2.2.1,by simp only;omega⟩,f10.2.2.2⟩⟩
theorem openEvents {A:Option Addr} {n c:Nat} {d:DataW H} {p:List MemPlace} (h:DataW.Trod enc0 Tryz.prog w base spare held 22 (.slice A n c) d p) :
  ∃ xs:List EvL,n=xs.length∧RdL 12 EvL.cs w w.heap.size A xs∧(∀ x∈xs,EvLOk w w.heap.size x)∧xs.length≤9223372036854775807∧xs.length≤c:=by
 obtain ⟨g4,_⟩:=open_list_cap Tryz.underlying22 h
 obtain ⟨xs,h1,h2,h3,h4⟩:=open_list Tryz.underlying22 cellsEvent (by decide) (fun _=>rfl) elemEvent h
 subst h1
 refine ⟨xs,rfl,h2,h3,?_,g4⟩
 simp only [maxLen] at h4
 omega
theorem cellsNotes:Tryz.prog.cellsOf 57=1:=by kernel_rfl
theorem elemNotes:∀ m cs x,DataW.trod enc0 Tryz.prog w base spare held m 57 cs=some x→∃ y:NL,NL.cs y=cs∧(RdL 5 E5.cs w w.heap.size y.A y.l∧(∀ x∈y.l,x.wf)∧y.l.length≤9223372036854775807∧y.l.length≤y.c):=by
 intro m cs x h
 rcases open_slice Tryz.underlying57 h with ⟨hcs,_⟩ | ⟨a,len,cap,m',n',D,Pl,hcs,_⟩
 ·have hcs':cs=[.slice none 0 0]:=by simpa using hcs
  subst hcs'
  obtain ⟨d,p⟩:=x
  obtain ⟨ts,hn,f⟩:=openNotes (show DataW.Trod enc0 Tryz.prog w base spare held 57 (.slice none 0 0) d p from ⟨m,h⟩)
  exact ⟨⟨ts,none,0⟩,by simp only [NL.cs];rw [← hn],f⟩
 ·have hcs':∃ A n c,cs=[.slice A n c]:=⟨_,_,_,by simpa using hcs⟩
  obtain ⟨A,n,c,rfl⟩:=hcs'
  obtain ⟨d,p⟩:=x
  obtain ⟨ts,hn,f⟩:=openNotes (show DataW.Trod enc0 Tryz.prog w base spare held 57 (.slice A n c) d p from ⟨m,h⟩)
  exact ⟨⟨ts,A,c⟩,by simp only [NL.cs];rw [← hn],f⟩
theorem openNotess {A:Option Addr} {n c:Nat} {d:DataW H} {p:List MemPlace} (h:DataW.Trod enc0 Tryz.prog w base spare held 28 (.slice A n c) d p) :
  ∃ xs:List NL,n=xs.length∧RdL 1 NL.cs w w.heap.size A xs∧(∀ y∈xs,RdL 5 E5.cs w w.heap.size y.A y.l∧(∀ x∈y.l,x.wf)∧y.l.length≤9223372036854775807∧y.l.length≤y.c)∧xs.length≤9223372036854775807∧xs.length≤c:=by
 obtain ⟨g4,_⟩:=open_list_cap Tryz.underlying28 h
 obtain ⟨xs,h1,h2,h3,h4⟩:=open_list Tryz.underlying28 cellsNotes (by decide) (fun _=>rfl) elemNotes h
 subst h1
 refine ⟨xs,rfl,h2,h3,?_,g4⟩
 simp only [maxLen] at h4
 omega
theorem fieldsState:∃ fs:Array Field,Tryz.prog.underlying 34=some (.struct fs)∧fs.size=13∧fs.toList.map (·.type)=[3,22,23,24,25,26,27,28,29,30,31,32,25]∧oneCellFields Tryz.prog fs=true :=
 ⟨_,Tryz.underlying34,by kernel_rfl,by kernel_rfl,by kernel_rfl⟩
theorem cellsState:Tryz.prog.cellsOf 34=13:=by kernel_rfl
structure StWf (s:Stt):Prop where
 step:InInt s.step
 queue:∀ x∈s.queue,x.wf
 sent:∀ x∈s.sent,x.wf
 refused:∀ x∈s.refused,x.wf
 pairs:∀ x∈s.pairs,x.wf
 proofs:∀ x∈s.proofs,x.wf
 notes:∀ y∈s.notes,∀ x∈y.l,x.wf
 bad:∀ x∈s.bad,x.wf
 holds:∀ x∈s.holds,x.wf
 orders:∀ x∈s.orders,x.wf
 sealed:∀ x∈s.sealed,x.wf
 debts:∀ x∈s.debts,x.wf
set_option maxHeartbeats 1000000 in
theorem open_state {r:Reach} {b0:Nat} {v:Value} {d:DataW H} {p:List MemPlace} (hv:Value.okWide Tryz.prog w r b0 34 v) (h:DataW.Trod enc0 Tryz.prog w base spare held 34 v d p) :
  ∃ (s:Stt) (a:StAd) (_:Unit),v=s.v a∧StOk w w.heap.size s a∧StWf s:=by
 obtain ⟨fs,hu,hsz,hty,hone⟩:=fieldsState
 obtain ⟨cs,rfl,_⟩:=okWide_struct hu hv
 obtain ⟨fuel,hf⟩:=h
 obtain ⟨l⟩:=cs
 obtain ⟨hl,hc⟩:=struct_cells hu hone (by rw [cellsState,hsz]) hf
 have hg:∀ (i:Nat) (t:TypeId),(fs.toList.map (·.type))[i]?=some t→∃ v n y,l[i]?=some v∧DataW.trod enc0 Tryz.prog w base spare held n t [v]=some y:=by
  intro i t hi
  rw [List.getElem?_map] at hi
  obtain ⟨f,hf,rfl⟩:=Option.map_eq_some_iff.1 hi
  exact hc i f (by simpa using hf)
 rw [hty] at hg
 have hlN:l.length=13:=by rw [← hsz];exact hl
 clear hc hl hone hty hf
 obtain ⟨v0,n0,y0,e0,h0⟩:=hg 0 _ rfl
 obtain ⟨x0,rfl,w0⟩:=int_cell Tryz.underlying3 h0
 obtain ⟨v1,n1,y1,e1,h1⟩:=hg 1 _ rfl
 obtain ⟨A1,N1,c1,d1,p1,rfl,k1⟩:=slice_cell Tryz.underlying22 h1
 obtain ⟨ts1,rfl,f1⟩:=openEvents k1
 obtain ⟨v2,n2,y2,e2,h2⟩:=hg 2 _ rfl
 obtain ⟨A2,N2,c2,d2,p2,rfl,k2⟩:=slice_cell Tryz.underlying23 h2
 obtain ⟨ts2,rfl,f2⟩:=openWaitings k2
 obtain ⟨v3,n3,y3,e3,h3⟩:=hg 3 _ rfl
 obtain ⟨A3,N3,c3,d3,p3,rfl,k3⟩:=slice_cell Tryz.underlying24 h3
 obtain ⟨ts3,rfl,f3⟩:=openSents k3
 obtain ⟨v4,n4,y4,e4,h4⟩:=hg 4 _ rfl
 obtain ⟨A4,N4,c4,d4,p4,rfl,k4⟩:=slice_cell Tryz.underlying25 h4
 obtain ⟨ts4,rfl,f4⟩:=openDebts k4
 obtain ⟨v5,n5,y5,e5,h5⟩:=hg 5 _ rfl
 obtain ⟨A5,N5,c5,d5,p5,rfl,k5⟩:=slice_cell Tryz.underlying26 h5
 obtain ⟨ts5,rfl,f5⟩:=openPairs k5
 obtain ⟨v6,n6,y6,e6,h6⟩:=hg 6 _ rfl
 obtain ⟨A6,N6,c6,d6,p6,rfl,k6⟩:=slice_cell Tryz.underlying27 h6
 obtain ⟨ts6,rfl,f6⟩:=openProofs k6
 obtain ⟨v7,n7,y7,e7,h7⟩:=hg 7 _ rfl
 obtain ⟨A7,N7,c7,d7,p7,rfl,k7⟩:=slice_cell Tryz.underlying28 h7
 obtain ⟨ts7,rfl,f7⟩:=openNotess k7
 obtain ⟨v8,n8,y8,e8,h8⟩:=hg 8 _ rfl
 obtain ⟨A8,N8,c8,d8,p8,rfl,k8⟩:=slice_cell Tryz.underlying29 h8
 obtain ⟨ts8,rfl,f8⟩:=openVerdicts k8
 obtain ⟨v9,n9,y9,e9,h9⟩:=hg 9 _ rfl
 obtain ⟨A9,N9,c9,d9,p9,rfl,k9⟩:=slice_cell Tryz.underlying30 h9
 obtain ⟨ts9,rfl,f9⟩:=openHolds k9
 obtain ⟨v10,n10,y10,e10,h10⟩:=hg 10 _ rfl
 obtain ⟨A10,N10,c10,d10,p10,rfl,k10⟩:=slice_cell Tryz.underlying31 h10
 obtain ⟨ts10,rfl,f10⟩:=openOrders k10
 obtain ⟨v11,n11,y11,e11,h11⟩:=hg 11 _ rfl
 obtain ⟨A11,N11,c11,d11,p11,rfl,k11⟩:=slice_cell Tryz.underlying32 h11
 obtain ⟨ts11,rfl,f11⟩:=openSealeds k11
 obtain ⟨v12,n12,y12,e12,h12⟩:=hg 12 _ rfl
 obtain ⟨A12,N12,c12,d12,p12,rfl,k12⟩:=slice_cell Tryz.underlying25 h12
 obtain ⟨ts12,rfl,f12⟩:=openDebts k12
 have hcs:l=[.int .i64 x0,.slice A1 ts1.length c1,.slice A2 ts2.length c2,.slice A3 ts3.length c3,.slice A4 ts4.length c4,.slice A5 ts5.length c5,.slice A6 ts6.length c6,.slice A7 ts7.length c7,.slice A8 ts8.length c8,.slice A9 ts9.length c9,.slice A10 ts10.length c10,.slice A11 ts11.length c11,.slice A12 ts12.length c12]:=List.ext_getElem? (fun i=>match i with
  | 0=>e0
  | 1=>e1
  | 2=>e2
  | 3=>e3
  | 4=>e4
  | 5=>e5
  | 6=>e6
  | 7=>e7
  | 8=>e8
  | 9=>e9
  | 10=>e10
  | 11=>e11
  | 12=>e12
  | n+13=>by rw [List.getElem?_eq_none (by omega),List.getElem?_eq_none (by simp)])
 subst hcs
 refine ⟨⟨x0,ts1,ts2,ts3,ts4,ts5,ts6,ts7,ts8,ts9,ts10,ts11,ts12⟩,⟨(A1,c1),(A2,c2),(A3,c3),(A4,c4),(A5,c5),(A6,c6),(A7,c7),(A8,c8),(A9,c9),(A10,c10),(A11,c11),(A12,c12)⟩,(),rfl,?_,?_⟩
 ·exact ⟨f1.1,f2.1,f3.1,f4.1,f5.1,f6.1,f7.1,f8.1,f9.1,f10.1,f11.1,f12.1,f1.2.1,fun x hx=>⟨(f7.2.1 x hx).1,(f7.2.1 x hx).2.2⟩,f1.2.2.1,f1.2.2.2,f2.2.2.1,f2.2.2.2,f3.2.2.1,f3.2.2.2,f4.2.2.1,f4.2.2.2,f5.2.2.1,f5.2.2.2,f6.2.2.1,f6.2.2.2,f7.2.2.1,f7.2.2.2,f8.2.2.1,f8.2.2.2,f9.2.2.1,f9.2.2.2,f10.2.2.1,f10.2.2.2,f11.2.2.1,f11.2.2.2,f12.2.2.1,f12.2.2.2⟩
 ·exact ⟨inInt_of_wf w0,f2.2.1,f3.2.1,f4.2.1,f5.2.1,f6.2.1,fun y hy=>(f7.2.1 y hy).2.1,f8.2.1,f9.2.1,f10.2.1,f11.2.1,f12.2.1⟩
end
end Go.Proofs.YthlpehhlhebhbaaGreatDoor
