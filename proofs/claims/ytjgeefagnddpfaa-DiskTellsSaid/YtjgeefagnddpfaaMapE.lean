/- m[k] = v in a statement with other stores: the entry is made, then its value is stored; over any program. -/
import Derived.Test.YtjgeefagnddpfaaMap
namespace Go.Proofs.Ytjgeefagnddpfaa
open Go.RowKit
open Go.ChangeMaps (setBlock)

theorem push_modify (es : Array MapEntry) (x : MapEntry) (g : MapEntry → MapEntry) : (es.push x).modify es.size g = es.push (g x) := by
  apply Array.ext_getElem?
  intro i
  rw [Array.getElem?_modify, Array.getElem?_push, Array.getElem?_push]
  by_cases h : i = es.size
  · subst h
    simp
  · have h' : ¬ es.size = i := fun e => h e.symm
    simp [h, h']
theorem find_pushed (es : Array MapEntry) (x : MapEntry) (h : ∀ e ∈ es.toList, e.born < x.born) : (es.push x).findIdx? (fun e => ((e.born : Int) == (x.born : Int))) = some es.size := by
  rw [Array.findIdx?_eq_some_iff_getElem]
  refine ⟨by simp, by simp, fun j hj => ?_⟩
  have h1 := h (es[j]'hj) (by simp)
  simp only [Array.getElem_push_lt hj]
  simp
  omega
theorem MapF.entry {α β : Type} [DecidableEq α] {P : Program} {w : World} {b : Nat} {ok : α → Prop} {kv : α → Value} {vv : β → Value} {f : α → Option β} {t k e : TypeId} (h : MapF w b ok kv vv f) (KT : KeyTy P k ok kv) (ht : P.underlying t = some (.map k e)) {z : β} (hz : ∀ w, (zeroValue e).run P w = .ok (vv z) w) (a : α) (ha : ok a) (hn : f a = none) :
    ∃ (c : Nat) (w' : World), (Instr.mapEntry t (.map (some b)) (kv a)).run P w = .ok (.tuple #[vv z, .int .i64 (c : Int)]) w' ∧ w.grownBy w' (some b) ∧ w'.heap.size = w.heap.size ∧
      ∀ (w2 : World) (v : β), w2.heap[b]? = w'.heap[b]? → ∃ w3, (Instr.entryStore t (.map (some b)) (.int .i64 (c : Int)) (vv v)).run P w2 = .ok () w3 ∧ MapF w3 b ok kv vv (fun x => if x = a then some v else f x) ∧ w2.grownBy w3 (some b) ∧ w3.heap.size = w2.heap.size := by
  obtain ⟨es, clock, hb, E⟩ := h
  obtain ⟨l, hl⟩ := KT.lit a ha
  rcases E.find KT w a ha with ⟨h1, h2, h3⟩ | ⟨j, x, v, h1, h2, h3, h4, h5⟩
  · refine ⟨clock, setBlock w b (.map (es.push ⟨kv a, vv z, clock⟩) (clock + 1)), ?_, ⟨rfl, rfl, rfl, by simp [setBlock], fun i _ hi => ChangeMaps.heap_setBlock_other hb _ (fun e => hi (by rw [e]))⟩, by simp [setBlock], ?_⟩
    · simp [Instr.mapEntry, run_underlying ht, MapKept.run_getObj_map hb, KT.K.check w false hl, h1, hz, MapKept.run_setObj_map _ hb, Result.andThen, setBlock, goInt]
    · intro w2 v hw2
      have hb2 : w2.heap[b]? = some (.map (es.push ⟨kv a, vv z, clock⟩) (clock + 1)) := hw2.trans (ChangeMaps.heap_setBlock_same hb _)
      refine ⟨setBlock w2 b (.map (es.push ⟨kv a, vv v, clock⟩) (clock + 1)), ?_, ⟨_, _, ChangeMaps.heap_setBlock_same hb2 _, ?_⟩, ⟨rfl, rfl, rfl, by simp [setBlock], fun i _ hi => ChangeMaps.heap_setBlock_other hb2 _ (fun e => hi (by rw [e]))⟩, by simp [setBlock]⟩
      · have hf := find_pushed es ⟨kv a, vv z, clock⟩ (fun e he => E.old e he)
        simp only at hf
        simp [Instr.entryStore, MapKept.run_getObj_map hb2, asInt, asIntOf, hf, push_modify, MapKept.run_setObj_map _ hb2, Result.andThen, setBlock]
      · rw [Array.toList_push]
        exact E.push a ha v h3
  · rw [hn] at h5
    cases h5
end Go.Proofs.Ytjgeefagnddpfaa
