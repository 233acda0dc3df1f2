/- Contracts and plain laws, joined: WrOpen. -/
import Derived.Test.YtjmkodkechahdaaGreatDoorQau
import Derived.Test.YtjmkodkechahdaaGreatDoorQao
/- Values among the arguments of a law of layer 1. -/
set_option linter.unusedSimpArgs false
set_option linter.unusedVariables false
namespace Go.Proofs.YtjmkodkechahdaaGreatDoor
open Go.ChangeShapes Go.WideShapes Go.RowKit Go.Deep

structure VM where
  kind : Int
  n : Int
  s : List UInt8
  l : List Int
  lA : Option Addr
  lc : Nat
  t : List (List UInt8)
  tA : Option Addr
  tc : Nat
def VM.cs (v : VM) : List Value := [.int .i64 v.kind, .int .i64 v.n, .string (bs v.s), .slice v.lA v.l.length v.lc, .slice v.tA v.t.length v.tc]
def VM.v (v : VM) : Value := .agg v.cs.toArray
structure VM.Ok (w : World) (B : Nat) (v : VM) : Prop where
  k : InInt v.kind
  n : InInt v.n
  s : v.s.length ≤ 9223372036854775807
  rl : RdL 1 intE w B v.lA v.l
  li : ∀ x ∈ v.l, InInt x
  ll : v.l.length ≤ 9223372036854775807
  rt : RdL 1 strE w B v.tA v.t
  ti : ∀ x ∈ v.t, x.length ≤ 9223372036854775807
  tl : v.t.length ≤ 9223372036854775807
theorem VM.Ok.now {w w' : World} {v : VM} (h : v.Ok w w.heap.size) (hb : Below w.heap.size w w') : v.Ok w' w'.heap.size :=
  ⟨h.k, h.n, h.s, h.rl.now hb, h.li, h.ll, h.rt.now hb, h.ti, h.tl⟩
theorem valLay : Lay 5 VM.cs := ⟨fun _ => rfl, fun x u hu => by
  simp only [VM.cs, List.mem_cons, List.not_mem_nil, or_false] at hu
  rcases hu with rfl | rfl | rfl | rfl | rfl <;> rfl⟩

theorem inInt_of_wf {n : Int} (h : (Lit.int .i64 n).wf = true) : InInt n := by
  simp [Lit.wf, IntKind.min, IntKind.max, IntKind.bits, IntKind.signed] at h
  unfold InInt
  omega
section
variable {H : Type} {enc0 : TypeId × Value → H} {w : World} {base : Nat} {spare : Nat → Bool} {held : Bool}
theorem cellsInt : Tryz.prog.cellsOf 3 = 1 := by kernel_rfl
theorem cellsStr : Tryz.prog.cellsOf 9 = 1 := by kernel_rfl
theorem elemInt : ∀ m cs x, DataW.trod enc0 Tryz.prog w base spare held m 3 cs = some x → ∃ y : Int, intE y = cs ∧ InInt y := by
  intro m cs x h
  obtain ⟨n, rfl, _, hw⟩ := DataW.trod_int Tryz.underlying3 h
  exact ⟨n, rfl, inInt_of_wf hw⟩
theorem elemStr : ∀ m cs x, DataW.trod enc0 Tryz.prog w base spare held m 9 cs = some x → ∃ y : List UInt8, strE y = cs ∧ y.length ≤ 9223372036854775807 := by
  intro m cs x h
  obtain ⟨s, rfl, _, hs⟩ := DataW.trod_string Tryz.underlying9 h
  have e : s.data.toList.length = s.size := by rw [Array.length_toList]; rfl
  simp only [maxLen] at hs
  exact ⟨s.data.toList, rfl, by omega⟩
theorem open_ints {A : Option Addr} {n c : Nat} {d : DataW H} {p : List MemPlace} (h : DataW.Trod enc0 Tryz.prog w base spare held 31 (.slice A n c) d p) :
    ∃ xs : List Int, n = xs.length ∧ RdL 1 intE w w.heap.size A xs ∧ (∀ x ∈ xs, InInt x) ∧ xs.length ≤ 9223372036854775807 := by
  obtain ⟨xs, h1, h2, h3, h4⟩ := open_list Tryz.underlying31 cellsInt (by decide) (fun _ => rfl) elemInt h
  refine ⟨xs, h1, h2, h3, ?_⟩
  simp only [maxLen] at h4
  omega
theorem open_strs {A : Option Addr} {n c : Nat} {d : DataW H} {p : List MemPlace} (h : DataW.Trod enc0 Tryz.prog w base spare held 32 (.slice A n c) d p) :
    ∃ xs : List (List UInt8), n = xs.length ∧ RdL 1 strE w w.heap.size A xs ∧ (∀ x ∈ xs, x.length ≤ 9223372036854775807) ∧ xs.length ≤ 9223372036854775807 := by
  obtain ⟨xs, h1, h2, h3, h4⟩ := open_list Tryz.underlying32 cellsStr (by decide) (fun _ => rfl) elemStr h
  refine ⟨xs, h1, h2, h3, ?_⟩
  simp only [maxLen] at h4
  omega
end
end Go.Proofs.YtjmkodkechahdaaGreatDoor
