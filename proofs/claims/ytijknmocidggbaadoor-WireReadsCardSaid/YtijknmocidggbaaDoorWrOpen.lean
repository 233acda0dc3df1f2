/- Values among the arguments of a law of layer 1. -/
import Derived.Test.YtijknmocidggbaaDoorWrG
import Derived.Test.YtijknmocidggbaaDoorOpen
namespace Go.Proofs.YtijknmocidggbaaDoor
open Go.ChangeShapes Go.WideShapes Go.RowKit Go.Deep

structure VM where
  kind : Int
  n : Int
  s : List UInt8
  l : List Int
  lA : Option Addr
  lc : Nat
  t : List (List UInt8)
  tA : Option Addr
  tc : Nat
def VM.cs (v : VM) : List Value := [.int .i64 v.kind, .int .i64 v.n, .string (bs v.s), .slice v.lA v.l.length v.lc, .slice v.tA v.t.length v.tc]
def VM.v (v : VM) : Value := .agg v.cs.toArray
structure VM.Ok (w : World) (B : Nat) (v : VM) : Prop where
  k : InInt v.kind
  n : InInt v.n
  s : v.s.length ≤ 9223372036854775807
  rl : RdL 1 intE w B v.lA v.l
  li : ∀ x ∈ v.l, InInt x
  ll : v.l.length ≤ 9223372036854775807
  rt : RdL 1 strE w B v.tA v.t
  ti : ∀ x ∈ v.t, x.length ≤ 9223372036854775807
  tl : v.t.length ≤ 9223372036854775807
theorem VM.Ok.now {w w' : World} {v : VM} (h : v.Ok w w.heap.size) (hb : Below w.heap.size w w') : v.Ok w' w'.heap.size :=
  ⟨h.k, h.n, h.s, h.rl.now hb, h.li, h.ll, h.rt.now hb, h.ti, h.tl⟩
theorem valLay : Lay 5 VM.cs := ⟨fun _ => rfl, fun x u hu => by
  simp only [VM.cs, List.mem_cons, List.not_mem_nil, or_false] at hu
  rcases hu with rfl | rfl | rfl | rfl | rfl <;> rfl⟩

theorem inInt_of_wf {n : Int} (h : (Lit.int .i64 n).wf = true) : InInt n := by
  simp [Lit.wf, IntKind.min, IntKind.max, IntKind.bits, IntKind.signed] at h
  unfold InInt
  omega
section
variable {H : Type} {enc0 : TypeId × Value → H} {w : World} {base : Nat} {spare : Nat → Bool} {held : Bool}
theorem cellsInt : Tryd.prog.cellsOf 3 = 1 := by kernel_rfl
theorem cellsStr : Tryd.prog.cellsOf 9 = 1 := by kernel_rfl
theorem elemInt : ∀ m cs x, DataW.trod enc0 Tryd.prog w base spare held m 3 cs = some x → ∃ y : Int, intE y = cs ∧ InInt y := by
  intro m cs x h
  obtain ⟨n, rfl, _, hw⟩ := DataW.trod_int Tryd.underlying3 h
  exact ⟨n, rfl, inInt_of_wf hw⟩
theorem elemStr : ∀ m cs x, DataW.trod enc0 Tryd.prog w base spare held m 9 cs = some x → ∃ y : List UInt8, strE y = cs ∧ y.length ≤ 9223372036854775807 := by
  intro m cs x h
  obtain ⟨s, rfl, _, hs⟩ := DataW.trod_string Tryd.underlying9 h
  have e : s.data.toList.length = s.size := by rw [Array.length_toList]; rfl
  simp only [maxLen] at hs
  exact ⟨s.data.toList, rfl, by omega⟩
theorem open_ints {A : Option Addr} {n c : Nat} {d : DataW H} {p : List MemPlace} (h : DataW.Trod enc0 Tryd.prog w base spare held 22 (.slice A n c) d p) :
    ∃ xs : List Int, n = xs.length ∧ RdL 1 intE w w.heap.size A xs ∧ (∀ x ∈ xs, InInt x) ∧ xs.length ≤ 9223372036854775807 := by
  obtain ⟨xs, h1, h2, h3, h4⟩ := open_list Tryd.underlying22 cellsInt (by decide) (fun _ => rfl) elemInt h
  refine ⟨xs, h1, h2, h3, ?_⟩
  simp only [maxLen] at h4
  omega
theorem open_strs {A : Option Addr} {n c : Nat} {d : DataW H} {p : List MemPlace} (h : DataW.Trod enc0 Tryd.prog w base spare held 23 (.slice A n c) d p) :
    ∃ xs : List (List UInt8), n = xs.length ∧ RdL 1 strE w w.heap.size A xs ∧ (∀ x ∈ xs, x.length ≤ 9223372036854775807) ∧ xs.length ≤ 9223372036854775807 := by
  obtain ⟨xs, h1, h2, h3, h4⟩ := open_list Tryd.underlying23 cellsStr (by decide) (fun _ => rfl) elemStr h
  refine ⟨xs, h1, h2, h3, ?_⟩
  simp only [maxLen] at h4
  omega
theorem fieldsVal : ∃ fs : Array Field, Tryd.prog.underlying 25 = some (.struct fs) ∧ fs.size = 5 ∧ fs.toList.map (·.type) = [3, 3, 9, 22, 23] ∧ oneCellFields Tryd.prog fs = true :=
  ⟨_, Tryd.underlying25, by kernel_rfl, by kernel_rfl, by kernel_rfl⟩
theorem cellsVal : Tryd.prog.cellsOf 25 = 5 := by kernel_rfl
theorem elemVal : ∀ m cs x, DataW.trod enc0 Tryd.prog w base spare held m 25 cs = some x → ∃ y : VM, y.cs = cs ∧ y.Ok w w.heap.size := by
  intro m l x hf
  obtain ⟨fs, hu, hsz, hty, hone⟩ := fieldsVal
  obtain ⟨hl, hc⟩ := struct_cells hu hone (by rw [cellsVal, hsz]) hf
  have hg : ∀ (i : Nat) (t : TypeId), (fs.toList.map (·.type))[i]? = some t → ∃ v n y, l[i]? = some v ∧ DataW.trod enc0 Tryd.prog w base spare held n t [v] = some y := by
    intro i t hi
    rw [List.getElem?_map] at hi
    obtain ⟨f, hf, rfl⟩ := Option.map_eq_some_iff.1 hi
    exact hc i f (by simpa using hf)
  rw [hty] at hg
  have hl5 : l.length = 5 := by rw [← hsz]; exact hl
  obtain ⟨v0, n0, y0, e0, h0⟩ := hg 0 _ rfl
  obtain ⟨x0, rfl, w0⟩ := int_cell Tryd.underlying3 h0
  obtain ⟨v1, n1, y1, e1, h1⟩ := hg 1 _ rfl
  obtain ⟨x1, rfl, w1⟩ := int_cell Tryd.underlying3 h1
  obtain ⟨v2, n2, y2, e2, h2⟩ := hg 2 _ rfl
  obtain ⟨x2, rfl, w2⟩ := string_cell Tryd.underlying9 h2
  obtain ⟨v3, n3, y3, e3, h3⟩ := hg 3 _ rfl
  obtain ⟨A3, m3, c3, d3, p3, rfl, k3⟩ := slice_cell Tryd.underlying22 h3
  obtain ⟨ts, rfl, g1, g2, g3⟩ := open_ints k3
  obtain ⟨v4, n4, y4, e4, h4⟩ := hg 4 _ rfl
  obtain ⟨A4, m4, c4, d4, p4, rfl, k4⟩ := slice_cell Tryd.underlying23 h4
  obtain ⟨us, rfl, k1, k2, k3'⟩ := open_strs k4
  have hcs : l = [.int .i64 x0, .int .i64 x1, .string x2, .slice A3 ts.length c3, .slice A4 us.length c4] := List.ext_getElem? (fun i => match i with
    | 0 => e0
    | 1 => e1
    | 2 => e2
    | 3 => e3
    | 4 => e4
    | n + 5 => by rw [List.getElem?_eq_none (by omega), List.getElem?_eq_none (by simp)])
  subst hcs
  simp only [maxLen] at w2
  have e : x2.data.toList.length = x2.size := by rw [Array.length_toList]; rfl
  exact ⟨⟨x0, x1, x2.data.toList, ts, A3, c3, us, A4, c4⟩, rfl, inInt_of_wf w0, inInt_of_wf w1, by simp only; omega, g1, g2, g3, k1, k2, k3'⟩
set_option maxRecDepth 100000 in
theorem open_val {r : Reach} {b0 : Nat} {v : Value} {d : DataW H} {p : List MemPlace} (hv : Value.okWide Tryd.prog w r b0 25 v) (h : DataW.Trod enc0 Tryd.prog w base spare held 25 v d p) :
    ∃ y : VM, v = y.v ∧ y.Ok w w.heap.size := by
  obtain ⟨fs, hu, hsz, hty, hone⟩ := fieldsVal
  obtain ⟨cs, rfl, _⟩ := okWide_struct hu hv
  obtain ⟨fuel, hf⟩ := h
  obtain ⟨l⟩ := cs
  obtain ⟨y, hy, hk⟩ := elemVal fuel l _ hf
  refine ⟨y, ?_, hk⟩
  unfold VM.v
  rw [hy]
theorem open_vals {A : Option Addr} {n c : Nat} {d : DataW H} {p : List MemPlace} (h : DataW.Trod enc0 Tryd.prog w base spare held 28 (.slice A n c) d p) :
    ∃ xs : List VM, n = xs.length ∧ RdL 5 VM.cs w w.heap.size A xs ∧ (∀ x ∈ xs, x.Ok w w.heap.size) ∧ xs.length ≤ 9223372036854775807 := by
  obtain ⟨xs, h1, h2, h3, h4⟩ := open_list Tryd.underlying28 cellsVal (by decide) (fun _ => rfl) elemVal h
  refine ⟨xs, h1, h2, h3, ?_⟩
  simp only [maxLen] at h4
  omega
end
end Go.Proofs.YtijknmocidggbaaDoor
