/- Lists of ints and strings: their slices, their openers, comparing; for seats without the wire's readers (the names are those of WrG, WrH, WrOpen). -/
import Derived.Test.YtpcfmmiiokbjbaaDoorWrC
import Derived.Test.YtpcfmmiiokbjbaaDoorOpen
namespace Go.Proofs.YtpcfmmiiokbjbaaDoor
open Go.ChangeShapes Go.WideShapes Go.RowKit Go.Deep
theorem slInt : SlTy Tryd.prog 30 3 1 8 := by
  obtain ⟨i, hi, h0, h1, h2⟩ := info_parts (show (Tryd.prog.info? 3).map (fun i => (i.zero, i.size, i.bytes)) = some (some (.int .i64 0), 1, 8) by kernel_rfl)
  exact ⟨Tryd.underlying30, ⟨i, _, hi, h0, h1, h2, rfl⟩, by decide, by decide⟩
theorem slStr : SlTy Tryd.prog 22 9 1 16 := by
  obtain ⟨i, hi, h0, h1, h2⟩ := info_parts (show (Tryd.prog.info? 9).map (fun i => (i.zero, i.size, i.bytes)) = some (some (.string ByteArray.empty), 1, 16) by kernel_rfl)
  exact ⟨Tryd.underlying22, ⟨i, _, hi, h0, h1, h2, rfl⟩, by decide, by decide⟩
theorem intLay : Lay 1 intE := ⟨fun _ => rfl, fun x u hu => by simp only [intE, List.mem_singleton] at hu; subst hu; rfl⟩
theorem strLay : Lay 1 strE := ⟨fun _ => rfl, fun x u hu => by simp only [strE, List.mem_singleton] at hu; subst hu; rfl⟩
theorem eq_take {T : Type} (xs ys : List T) (k : Nat) (hk : k < xs.length) (hk2 : k < ys.length) (h : xs.take k = ys.take k) (he : xs[k] = ys[k]) : xs.take (k + 1) = ys.take (k + 1) := by
  rw [List.take_succ_eq_append_getElem hk, List.take_succ_eq_append_getElem hk2, h, he]
theorem ne_at {T : Type} (xs ys : List T) (k : Nat) (hk : k < xs.length) (hk2 : k < ys.length) (he : ¬ xs[k] = ys[k]) : ¬ xs = ys := fun h => he (by subst h; rfl)
theorem rd_int' {w : World} {A : Option Addr} {xs : List Int} {k : Nat} (h : RdL 1 intE w w.heap.size A xs) (hk : k < xs.length) : ∃ b off, A = some ⟨b, off, none⟩ ∧ b < w.heap.size ∧ w.cell? ⟨b, off + k, none⟩ = some (.int .i64 xs[k]) := by
  obtain ⟨b, off, e, hb, hc⟩ := h.at_ hk
  exact ⟨b, off, e, hb, by simpa using hc 0 _ rfl⟩
theorem rd_str' {w : World} {A : Option Addr} {xs : List (List UInt8)} {k : Nat} (h : RdL 1 strE w w.heap.size A xs) (hk : k < xs.length) : ∃ b off, A = some ⟨b, off, none⟩ ∧ b < w.heap.size ∧ w.cell? ⟨b, off + k, none⟩ = some (.string (bs xs[k])) := by
  obtain ⟨b, off, e, hb, hc⟩ := h.at_ hk
  exact ⟨b, off, e, hb, by simpa using hc 0 _ rfl⟩
theorem inInt_of_wf {n : Int} (h : (Lit.int .i64 n).wf = true) : InInt n := by
  simp [Lit.wf, IntKind.min, IntKind.max, IntKind.bits, IntKind.signed] at h
  unfold InInt
  omega
section
variable {H : Type} {enc0 : TypeId × Value → H} {w : World} {base : Nat} {spare : Nat → Bool} {held : Bool}
theorem cellsInt : Tryd.prog.cellsOf 3 = 1 := by kernel_rfl
theorem cellsStr : Tryd.prog.cellsOf 9 = 1 := by kernel_rfl
theorem elemInt : ∀ m cs x, DataW.trod enc0 Tryd.prog w base spare held m 3 cs = some x → ∃ y : Int, intE y = cs ∧ InInt y := by
  intro m cs x h
  obtain ⟨n, rfl, _, hw⟩ := DataW.trod_int Tryd.underlying3 h
  exact ⟨n, rfl, inInt_of_wf hw⟩
theorem elemStr : ∀ m cs x, DataW.trod enc0 Tryd.prog w base spare held m 9 cs = some x → ∃ y : List UInt8, strE y = cs ∧ y.length ≤ 9223372036854775807 := by
  intro m cs x h
  obtain ⟨s, rfl, _, hs⟩ := DataW.trod_string Tryd.underlying9 h
  have e : s.data.toList.length = s.size := by rw [Array.length_toList]; rfl
  simp only [maxLen] at hs
  exact ⟨s.data.toList, rfl, by omega⟩
theorem open_ints {A : Option Addr} {n c : Nat} {d : DataW H} {p : List MemPlace} (h : DataW.Trod enc0 Tryd.prog w base spare held 30 (.slice A n c) d p) :
    ∃ xs : List Int, n = xs.length ∧ RdL 1 intE w w.heap.size A xs ∧ (∀ x ∈ xs, InInt x) ∧ xs.length ≤ 9223372036854775807 := by
  obtain ⟨xs, h1, h2, h3, h4⟩ := open_list Tryd.underlying30 cellsInt (by decide) (fun _ => rfl) elemInt h
  refine ⟨xs, h1, h2, h3, ?_⟩
  simp only [maxLen] at h4
  omega
theorem open_strs {A : Option Addr} {n c : Nat} {d : DataW H} {p : List MemPlace} (h : DataW.Trod enc0 Tryd.prog w base spare held 22 (.slice A n c) d p) :
    ∃ xs : List (List UInt8), n = xs.length ∧ RdL 1 strE w w.heap.size A xs ∧ (∀ x ∈ xs, x.length ≤ 9223372036854775807) ∧ xs.length ≤ 9223372036854775807 := by
  obtain ⟨xs, h1, h2, h3, h4⟩ := open_list Tryd.underlying22 cellsStr (by decide) (fun _ => rfl) elemStr h
  refine ⟨xs, h1, h2, h3, ?_⟩
  simp only [maxLen] at h4
  omega
end
end Go.Proofs.YtpcfmmiiokbjbaaDoor
