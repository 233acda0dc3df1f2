/- Leases and acts of gateways among the arguments of a law of layer 47. -/
import Derived.Test.YtoibgenhbpppdaaDoorWrOpen
import Derived.Test.YtoibgenhbpppdaaDoorLsA
namespace Go.Proofs.YtoibgenhbpppdaaDoor
open Go.ChangeShapes Go.WideShapes Go.RowKit Go.Deep

/-- What a gateway does. -/
structure WM where
  kind : Int
  who : Int
  later : Int
  span : Int
  txt : List UInt8
def WM.cs (v : WM) : List Value := [.int .i64 v.kind, .int .i64 v.who, .int .i64 v.later, .int .i64 v.span, .string (bs v.txt)]
structure WM.Ok (v : WM) : Prop where
  k : InInt v.kind
  w : InInt v.who
  l : InInt v.later
  s : InInt v.span
  r : v.txt.length ≤ 9223372036854775807
theorem wmLay : Lay 5 WM.cs := ⟨fun _ => rfl, fun x u hu => by
  simp only [WM.cs, List.mem_cons, List.not_mem_nil, or_false] at hu
  rcases hu with rfl | rfl | rfl | rfl | rfl <;> rfl⟩
theorem str_len {s : ByteArray} (h : s.size ≤ maxLen) : s.data.toList.length ≤ 9223372036854775807 := by
  have e : s.data.toList.length = s.size := by rw [Array.length_toList]; rfl
  simp only [maxLen] at h
  omega
theorem u8_of_wf {n : Int} (h : (Lit.int .u8 n).wf = true) : 0 ≤ n ∧ n ≤ 255 := by
  simp [Lit.wf, IntKind.min, IntKind.max, IntKind.bits, IntKind.signed] at h
  omega
section
variable {H : Type} {enc0 : TypeId × Value → H} {w : World} {base : Nat} {spare : Nat → Bool} {held : Bool}
theorem fieldsWM : ∃ fs : Array Field, Tryd.prog.underlying 39 = some (.struct fs) ∧ fs.size = 5 ∧ fs.toList.map (·.type) = [3, 3, 3, 3, 9] ∧ oneCellFields Tryd.prog fs = true :=
  ⟨_, Tryd.underlying39, by kernel_rfl, by kernel_rfl, by kernel_rfl⟩
theorem cellsWM : Tryd.prog.cellsOf 39 = 5 := by kernel_rfl
theorem elemWM : ∀ m cs x, DataW.trod enc0 Tryd.prog w base spare held m 39 cs = some x → ∃ y : WM, y.cs = cs ∧ y.Ok := by
  intro m l x hf
  obtain ⟨fs, hu, hsz, hty, hone⟩ := fieldsWM
  obtain ⟨hl, hc⟩ := struct_cells hu hone (by rw [cellsWM, hsz]) hf
  have hg : ∀ (i : Nat) (t : TypeId), (fs.toList.map (·.type))[i]? = some t → ∃ v n y, l[i]? = some v ∧ DataW.trod enc0 Tryd.prog w base spare held n t [v] = some y := by
    intro i t hi
    rw [List.getElem?_map] at hi
    obtain ⟨f, hf, rfl⟩ := Option.map_eq_some_iff.1 hi
    exact hc i f (by simpa using hf)
  rw [hty] at hg
  have hl5 : l.length = 5 := by rw [← hsz]; exact hl
  obtain ⟨v0, n0, y0, e0, h0⟩ := hg 0 _ rfl
  obtain ⟨x0, rfl, w0⟩ := int_cell Tryd.underlying3 h0
  obtain ⟨v1, n1, y1, e1, h1⟩ := hg 1 _ rfl
  obtain ⟨x1, rfl, w1⟩ := int_cell Tryd.underlying3 h1
  obtain ⟨v2, n2, y2, e2, h2⟩ := hg 2 _ rfl
  obtain ⟨x2, rfl, w2⟩ := int_cell Tryd.underlying3 h2
  obtain ⟨v3, n3, y3, e3, h3⟩ := hg 3 _ rfl
  obtain ⟨x3, rfl, w3⟩ := int_cell Tryd.underlying3 h3
  obtain ⟨v4, n4, y4, e4, h4⟩ := hg 4 _ rfl
  obtain ⟨x4, rfl, w4⟩ := string_cell Tryd.underlying9 h4
  have hcs : l = [.int .i64 x0, .int .i64 x1, .int .i64 x2, .int .i64 x3, .string x4] := List.ext_getElem? (fun i => match i with
    | 0 => e0
    | 1 => e1
    | 2 => e2
    | 3 => e3
    | 4 => e4
    | n + 5 => by rw [List.getElem?_eq_none (by omega), List.getElem?_eq_none (by simp)])
  subst hcs
  simp only [maxLen] at w4
  have e : x4.data.toList.length = x4.size := by rw [Array.length_toList]; rfl
  exact ⟨⟨x0, x1, x2, x3, x4.data.toList⟩, rfl, inInt_of_wf w0, inInt_of_wf w1, inInt_of_wf w2, inInt_of_wf w3, by simp only; omega⟩
theorem open_writes {A : Option Addr} {n c : Nat} {d : DataW H} {p : List MemPlace} (h : DataW.Trod enc0 Tryd.prog w base spare held 36 (.slice A n c) d p) :
    ∃ xs : List WM, n = xs.length ∧ RdL 5 WM.cs w w.heap.size A xs ∧ (∀ x ∈ xs, x.Ok) ∧ xs.length ≤ 9223372036854775807 := by
  obtain ⟨xs, h1, h2, h3, h4⟩ := open_list Tryd.underlying36 cellsWM (by decide) (fun _ => rfl) elemWM h
  refine ⟨xs, h1, h2, h3, ?_⟩
  simp only [maxLen] at h4
  omega
theorem fieldsLs : ∃ fs : Array Field, Tryd.prog.underlying 23 = some (.struct fs) ∧ fs.size = 3 ∧ fs.toList.map (·.type) = [3, 3, 3] ∧ oneCellFields Tryd.prog fs = true :=
  ⟨_, Tryd.underlying23, by kernel_rfl, by kernel_rfl, by kernel_rfl⟩
theorem cellsLs : Tryd.prog.cellsOf 23 = 3 := by kernel_rfl
set_option maxRecDepth 100000 in
theorem open_lease {r : Reach} {b0 : Nat} {v : Value} {d : DataW H} {p : List MemPlace} (hv : Value.okWide Tryd.prog w r b0 23 v) (h : DataW.Trod enc0 Tryd.prog w base spare held 23 v d p) :
    ∃ y : Ls, v = y.v ∧ True := by
  obtain ⟨fs, hu, hsz, hty, hone⟩ := fieldsLs
  obtain ⟨cs, rfl, _⟩ := okWide_struct hu hv
  obtain ⟨fuel, hf⟩ := h
  obtain ⟨l⟩ := cs
  have hf : DataW.trod enc0 Tryd.prog w base spare held fuel 23 l = some (d, p) := hf
  obtain ⟨hl, hc⟩ := struct_cells hu hone (by rw [cellsLs, hsz]) hf
  have hg : ∀ (i : Nat) (t : TypeId), (fs.toList.map (·.type))[i]? = some t → ∃ v n y, l[i]? = some v ∧ DataW.trod enc0 Tryd.prog w base spare held n t [v] = some y := by
    intro i t hi
    rw [List.getElem?_map] at hi
    obtain ⟨f, hf, rfl⟩ := Option.map_eq_some_iff.1 hi
    exact hc i f (by simpa using hf)
  rw [hty] at hg
  have hl3 : l.length = 3 := by rw [← hsz]; exact hl
  obtain ⟨v0, n0, y0, e0, h0⟩ := hg 0 _ rfl
  obtain ⟨x0, rfl, w0⟩ := int_cell Tryd.underlying3 h0
  obtain ⟨v1, n1, y1, e1, h1⟩ := hg 1 _ rfl
  obtain ⟨x1, rfl, w1⟩ := int_cell Tryd.underlying3 h1
  obtain ⟨v2, n2, y2, e2, h2⟩ := hg 2 _ rfl
  obtain ⟨x2, rfl, w2⟩ := int_cell Tryd.underlying3 h2
  have hcs : l = [.int .i64 x0, .int .i64 x1, .int .i64 x2] := List.ext_getElem? (fun i => match i with
    | 0 => e0
    | 1 => e1
    | 2 => e2
    | n + 3 => by rw [List.getElem?_eq_none (by omega), List.getElem?_eq_none (by simp)])
  subst hcs
  exact ⟨⟨x0, x1, x2⟩, rfl, trivial⟩
end
end Go.Proofs.YtoibgenhbpppdaaDoor
