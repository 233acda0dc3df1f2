/- Contracts and plain laws, joined: Map, DkA, MapE. -/
import Derived.Test.YtjmkodkechahdaaGreatDoorQaf
import Derived.Maps.RangeWalk
/- A map as a function of its keys, over any program: making, looking up, storing, striking, copying, and walking through it while entries are replaced or struck. -/
set_option linter.unusedSimpArgs false
set_option linter.unusedVariables false
namespace Go.Proofs.YtjmkodkechahdaaGreatDoor
open Go.RowKit
open Go.ChangeMaps (setBlock)

/-- The entries es, with stamps below clock, are the map f. -/
structure EntF {α β : Type} (ok : α → Prop) (kv : α → Value) (vv : β → Value) (f : α → Option β) (es : List MapEntry) (clock : Nat) : Prop where
  all : ∀ e ∈ es, ∃ a v, ok a ∧ e.key = kv a ∧ e.val = vv v ∧ f a = some v
  has : ∀ a v, f a = some v → ∃ e ∈ es, e.key = kv a
  one : ∀ (i j : Nat) (e e' : MapEntry), es[i]? = some e → es[j]? = some e' → e.key = e'.key → i = j
  old : ∀ e ∈ es, e.born < clock
  bor : (es.map (·.born)).Nodup

/-- Block b is the map f. -/
def MapF {α β : Type} (w : World) (b : Nat) (ok : α → Prop) (kv : α → Value) (vv : β → Value) (f : α → Option β) : Prop :=
  ∃ es clock, w.heap[b]? = some (.map es clock) ∧ EntF ok kv vv f es.toList clock

/-- A walk through the map f in block b, whose iterator lies in block r; left says which keys are still to come. -/
def MapR {α β : Type} (w : World) (b r : Nat) (ok : α → Prop) (kv : α → Value) (vv : β → Value) (f : α → Option β) (left : α → Bool) : Prop :=
  ∃ es clock since seen c0, w.heap[b]? = some (.map es clock) ∧ EntF ok kv vv f es.toList clock ∧ w.heap[r]? = some (.mapIter (some b) since seen c0) ∧ (∀ x ∈ es.toList, x.born < since) ∧ since ≤ c0 ∧ since ≤ clock ∧
    ∀ a, left a = true ↔ ∃ x ∈ es.toList, x.key = kv a ∧ seen.contains x.born = false

section
variable {α β : Type} {P : Program} {w w' : World} {b r : Nat} {ok : α → Prop} {kv : α → Value} {vv : β → Value} {f : α → Option β} {t k e : TypeId} {es : List MapEntry} {clock : Nat} {left : α → Bool}

theorem EntF.keys (h : EntF ok kv vv f es clock) (KT : KeyTy P k ok kv) : ∀ x ∈ es, ∃ l, keyOf P k x.key = some l := by
  intro x hx
  obtain ⟨a, v, hok, hk, _⟩ := h.all x hx
  rw [hk]
  exact KT.lit a hok
theorem EntF.find (h : EntF ok kv vv f es clock) (KT : KeyTy P k ok kv) (w : World) (a : α) (ha : ok a) :
    ((Instr.findKey k (kv a) es).run P w = .ok none w ∧ f a = none ∧ ∀ x ∈ es, x.key ≠ kv a) ∨
    ∃ j x v, (Instr.findKey k (kv a) es).run P w = .ok (some (j, x.val)) w ∧ es[j]? = some x ∧ x.key = kv a ∧ x.val = vv v ∧ f a = some v := by
  obtain ⟨l, hl⟩ := KT.lit a ha
  rcases KT.K.find w hl es (h.keys KT) with ⟨h1, h2⟩ | ⟨j, x, h1, h2, h3⟩
  · refine .inl ⟨h1, ?_, h2⟩
    rcases hf : f a with _ | v
    · rfl
    · obtain ⟨x, hx, hk⟩ := h.has a v hf
      exact absurd hk (h2 x hx)
  · obtain ⟨a', v, _, hk, hv, hf⟩ := h.all x (List.mem_of_getElem? h2)
    have : a' = a := KT.inj _ _ (by rw [← hk, h3])
    subst this
    exact .inr ⟨j, x, v, h1, h2, h3, hv, hf⟩

theorem MapF.new (w : World) : MapF (w.alloc (.map #[] 0)) w.heap.size ok kv vv (fun _ => none) := by
  refine ⟨#[], 0, (MapKept.heap_alloc w _).1, ?_⟩
  constructor
  · intro x hx
    simp at hx
  · intro a v h
    cases h
  · intro i j e e' h
    simp at h
  · intro x hx
    simp at hx
  · simp
theorem MapF.lt (h : MapF w b ok kv vv f) : b < w.heap.size := by
  obtain ⟨es, clock, hb, _⟩ := h
  exact (Array.getElem?_eq_some_iff.1 hb).1
theorem MapF.of_block (h : MapF w b ok kv vv f) (hb : w'.heap[b]? = w.heap[b]?) : MapF w' b ok kv vv f := by
  obtain ⟨es, clock, h1, h2⟩ := h
  exact ⟨es, clock, hb.trans h1, h2⟩
theorem MapF.ok_of (h : MapF w b ok kv vv f) (KT : KeyTy P k ok kv) {a : α} {v : β} (hf : f a = some v) : ok a := by
  obtain ⟨es, clock, _, E⟩ := h
  obtain ⟨x, hx, hk⟩ := E.has a v hf
  obtain ⟨a', _, hok, hk', _⟩ := E.all x hx
  rwa [KT.inj a a' (by rw [← hk, hk'])]

/-- m[k] -/
theorem MapF.look (h : MapF w b ok kv vv f) (KT : KeyTy P k ok kv) (ht : P.underlying t = some (.map k e)) {z : Value} (hz : (zeroValue e).run P w = .ok z w) (a : α) (ha : ok a) (c : Bool) :
    (Instr.lookup t (.map (some b)) (kv a) c).run P w =
      .ok (match f a with
        | some v => if c then .tuple #[vv v, .bool true] else vv v
        | none => if c then .tuple #[z, .bool false] else z) w := by
  obtain ⟨es, clock, hb, E⟩ := h
  obtain ⟨l, hl⟩ := KT.lit a ha
  rcases E.find KT w a ha with ⟨h1, h2, _⟩ | ⟨j, x, v, h1, h2, h3, h4, h5⟩
  · rw [h2]
    simp [Instr.lookup, run_underlying ht, MapKept.run_getObj_map hb, KT.K.check w _ hl, h1, hz, Result.andThen]
  · rw [h5]
    simp [Instr.lookup, run_underlying ht, MapKept.run_getObj_map hb, KT.K.check w _ hl, h1, h4, Result.andThen]

theorem EntF.push [DecidableEq α] (h : EntF ok kv vv f es clock) (a : α) (ha : ok a) (v : β) (hno : ∀ x ∈ es, x.key ≠ kv a) :
    EntF ok kv vv (fun x => if x = a then some v else f x) (es ++ [⟨kv a, vv v, clock⟩]) (clock + 1) where
  all := fun x hx => by
    rw [List.mem_append, List.mem_singleton] at hx
    rcases hx with hx | rfl
    · obtain ⟨a', v', h1, h2, h3, h4⟩ := h.all x hx
      refine ⟨a', v', h1, h2, h3, ?_⟩
      rw [if_neg (fun e => hno x hx (by rw [h2, e]))]
      exact h4
    · exact ⟨a, v, ha, rfl, rfl, by simp⟩
  has := fun a' v' h' => by
    by_cases hx : a' = a
    · subst hx
      exact ⟨_, List.mem_append_right _ (List.mem_singleton.2 rfl), rfl⟩
    · rw [if_neg hx] at h'
      obtain ⟨x, hx, hk⟩ := h.has a' v' h'
      exact ⟨x, List.mem_append_left _ hx, hk⟩
  one := fun i j x y hi hj hk => by
    rw [List.getElem?_append] at hi hj
    split at hi <;> split at hj
    · exact h.one i j x y hi hj hk
    · have hy := List.mem_of_getElem? hj
      rw [List.mem_singleton] at hy
      subst hy
      exact absurd hk (hno x (List.mem_of_getElem? hi))
    · have hy := List.mem_of_getElem? hi
      rw [List.mem_singleton] at hy
      subst hy
      exact absurd hk.symm (hno y (List.mem_of_getElem? hj))
    · have := (List.getElem?_eq_some_iff.1 hi).1
      have := (List.getElem?_eq_some_iff.1 hj).1
      simp only [List.length_singleton] at *
      omega
  old := fun x hx => by
    rw [List.mem_append, List.mem_singleton] at hx
    rcases hx with hx | rfl
    · have := h.old x hx
      omega
    · simp
  bor := by
    rw [List.map_append, List.nodup_append]
    refine ⟨h.bor, by simp, fun x hx y hy => ?_⟩
    obtain ⟨z, hz, rfl⟩ := List.mem_map.1 hx
    have := h.old z hz
    simp at hy
    omega
theorem map_modify_born (es : List MapEntry) (j : Nat) (kx vx : Value) : (es.modify j fun x => { x with key := kx, val := vx }).map (·.born) = es.map (·.born) := by
  apply List.ext_getElem?
  intro i
  rw [List.getElem?_map, List.getElem?_map, List.getElem?_modify]
  by_cases h : j = i
  · simp [h, Option.map_map, Function.comp_def]
  · simp [h]
theorem EntF.modify [DecidableEq α] (h : EntF ok kv vv f es clock) (KT : KeyTy P k ok kv) (a : α) (ha : ok a) (v : β) (j : Nat) (x0 : MapEntry) (hj : es[j]? = some x0) (hk0 : x0.key = kv a) :
    EntF ok kv vv (fun x => if x = a then some v else f x) (es.modify j fun x => { x with key := kv a, val := vv v }) clock := by
  have at_ : ∀ i y, (es.modify j fun x => { x with key := kv a, val := vv v })[i]? = some y → (i = j ∧ y = { x0 with key := kv a, val := vv v }) ∨ (i ≠ j ∧ es[i]? = some y ∧ y.key ≠ kv a) := by
    intro i y hy
    rw [List.getElem?_modify] at hy
    by_cases hij : j = i
    · subst hij
      rw [hj] at hy
      simp at hy
      exact .inl ⟨rfl, hy.symm⟩
    · simp only [hij, if_false, Option.map_eq_map, Option.map_id_fun', id_eq] at hy
      exact .inr ⟨fun e => hij e.symm, hy, fun e => hij (h.one j i x0 y hj hy (by rw [hk0, e]))⟩
  constructor
  · intro y hy
    obtain ⟨i, hi⟩ := List.getElem?_of_mem hy
    rcases at_ i y hi with ⟨_, rfl⟩ | ⟨_, h1, h2⟩
    · exact ⟨a, v, ha, rfl, rfl, by simp⟩
    · obtain ⟨a', v', q1, q2, q3, q4⟩ := h.all y (List.mem_of_getElem? h1)
      refine ⟨a', v', q1, q2, q3, ?_⟩
      rw [if_neg (fun e => h2 (by rw [q2, e]))]
      exact q4
  · intro a' v' h'
    by_cases hx : a' = a
    · subst hx
      refine ⟨{ x0 with key := kv a', val := vv v }, List.mem_of_getElem? (i := j) ?_, rfl⟩
      rw [List.getElem?_modify, hj]
      simp
    · rw [if_neg hx] at h'
      obtain ⟨x, hx1, hk⟩ := h.has a' v' h'
      obtain ⟨i, hi⟩ := List.getElem?_of_mem hx1
      refine ⟨x, List.mem_of_getElem? (i := i) ?_, hk⟩
      rw [List.getElem?_modify, hi]
      have hne : ¬ j = i := fun e => by
        subst e
        rw [hj] at hi
        injection hi with hi
        exact hx (KT.inj _ _ (by rw [← hk, ← hi, hk0]))
      simp [hne]
  · intro i i' x y hi hj' hk
    rcases at_ i x hi with ⟨e1, q1⟩ | ⟨e1, q1, q2⟩ <;> rcases at_ i' y hj' with ⟨e2, q3⟩ | ⟨e2, q3, q4⟩
    · rw [e1, e2]
    · exact absurd (by rw [← hk, q1]) q4
    · exact absurd (by rw [hk, q3]) q2
    · exact h.one i i' x y q1 q3 hk
  · intro y hy
    obtain ⟨i, hi⟩ := List.getElem?_of_mem hy
    rcases at_ i y hi with ⟨_, rfl⟩ | ⟨_, h1, _⟩
    · exact h.old x0 (List.mem_of_getElem? hj)
    · exact h.old y (List.mem_of_getElem? h1)
  · rw [map_modify_born]
    exact h.bor
theorem EntF.erase [DecidableEq α] (h : EntF ok kv vv f es clock) (KT : KeyTy P k ok kv) (a : α) (j : Nat) (x0 : MapEntry) (hj : es[j]? = some x0) (hk0 : x0.key = kv a) :
    EntF ok kv vv (fun x => if x = a then none else f x) (es.eraseIdx j) clock := by
  have hsub : ∀ y ∈ es.eraseIdx j, y ∈ es ∧ y.key ≠ kv a := fun y hy => by
    obtain ⟨i, hne, hi⟩ := List.mem_eraseIdx_iff_getElem?.1 hy
    exact ⟨List.mem_of_getElem? hi, fun e => hne (h.one i j y x0 hi hj (by rw [e, hk0]))⟩
  have hat : ∀ i y, (es.eraseIdx j)[i]? = some y → es[if i < j then i else i + 1]? = some y := fun i y hy => by
    rw [List.getElem?_eraseIdx] at hy
    split at hy <;> rename_i hc <;> simp [hc, hy]
  constructor
  · intro y hy
    obtain ⟨hy1, hy2⟩ := hsub y hy
    obtain ⟨a', v', q1, q2, q3, q4⟩ := h.all y hy1
    refine ⟨a', v', q1, q2, q3, ?_⟩
    rw [if_neg (fun e => hy2 (by rw [q2, e]))]
    exact q4
  · intro a' v' h'
    by_cases hx : a' = a
    · simp [hx] at h'
    · rw [if_neg hx] at h'
      obtain ⟨x, hx1, hk⟩ := h.has a' v' h'
      refine ⟨x, List.mem_eraseIdx_iff_getElem?.2 ?_, hk⟩
      obtain ⟨i, hi⟩ := List.getElem?_of_mem hx1
      refine ⟨i, fun e => hx ?_, hi⟩
      subst e
      rw [hj] at hi
      injection hi with hi
      exact KT.inj _ _ (by rw [← hk, ← hi, hk0])
  · intro i i' x y hi hi' hk
    have := h.one _ _ x y (hat i x hi) (hat i' y hi') hk
    split at this <;> split at this <;> omega
  · intro y hy
    exact h.old y (hsub y hy).1
  · exact List.Nodup.sublist ((List.eraseIdx_sublist _ _).map _) h.bor

/-- m[k] = v -/
theorem MapF.store [DecidableEq α] (h : MapF w b ok kv vv f) (KT : KeyTy P k ok kv) (ht : P.underlying t = some (.map k e)) (a : α) (ha : ok a) (v : β) :
    ∃ w', (Instr.mapUpdate t (.map (some b)) (kv a) (vv v)).run P w = .ok () w' ∧ MapF w' b ok kv vv (fun x => if x = a then some v else f x) ∧ w.grownBy w' (some b) ∧ w'.heap.size = w.heap.size := by
  obtain ⟨es, clock, hb, E⟩ := h
  obtain ⟨l, hl⟩ := KT.lit a ha
  rcases E.find KT w a ha with ⟨h1, h2, h3⟩ | ⟨j, x, v0, h1, h2, h3, h4, h5⟩
  · refine ⟨setBlock w b (.map (es.push ⟨kv a, vv v, clock⟩) (clock + 1)), ?_, ⟨_, _, ChangeMaps.heap_setBlock_same hb _, ?_⟩, ⟨rfl, rfl, rfl, by simp [setBlock], fun i _ hi => ChangeMaps.heap_setBlock_other hb _ (fun e => hi (by rw [e]))⟩, by simp [setBlock]⟩
    · simp [Instr.mapUpdate, run_underlying ht, MapKept.run_getObj_map hb, KT.K.check w false hl, h1, MapKept.run_setObj_map _ hb, Result.andThen, setBlock]
    · rw [Array.toList_push]
      exact E.push a ha v h3
  · have hst := KT.K.stays w hl
    have he0 : es[j]? = some x := by simpa using h2
    refine ⟨setBlock w b (.map (es.modify j fun x => { x with key := kv a, val := vv v }) clock), ?_, ⟨_, _, ChangeMaps.heap_setBlock_same hb _, ?_⟩, ⟨rfl, rfl, rfl, by simp [setBlock], fun i _ hi => ChangeMaps.heap_setBlock_other hb _ (fun e => hi (by rw [e]))⟩, by simp [setBlock]⟩
    · simp [Instr.mapUpdate, run_underlying ht, MapKept.run_getObj_map hb, KT.K.check w false hl, h1, he0, h3, hst, MapKept.run_setObj_map _ hb, Result.andThen, setBlock]
    · rw [Array.toList_modify]
      exact E.modify KT a ha v j x h2 h3

/-! A walk through the map. -/
theorem MapR.map (h : MapR w b r ok kv vv f left) : MapF w b ok kv vv f := by
  obtain ⟨es, clock, _, _, _, hb, E, _⟩ := h
  exact ⟨es, clock, hb, E⟩
theorem MapR.lt (h : MapR w b r ok kv vv f left) : b < w.heap.size ∧ r < w.heap.size := by
  obtain ⟨es, clock, _, _, _, hb, E, hr, _⟩ := h
  exact ⟨(Array.getElem?_eq_some_iff.1 hb).1, (Array.getElem?_eq_some_iff.1 hr).1⟩
theorem MapR.ne (h : MapR w b r ok kv vv f left) : r ≠ b := by
  obtain ⟨es, clock, _, _, _, hb, E, hr, _⟩ := h
  intro e
  rw [e, hb] at hr
  cases hr
theorem MapR.of_block (h : MapR w b r ok kv vv f left) (hb : w'.heap[b]? = w.heap[b]?) (hr : w'.heap[r]? = w.heap[r]?) : MapR w' b r ok kv vv f left ∧ w'.rangeLeft b r = w.rangeLeft b r := by
  obtain ⟨es, clock, since, seen, c0, h1, E, h2, rest⟩ := h
  exact ⟨⟨es, clock, since, seen, c0, hb.trans h1, E, hr.trans h2, rest⟩, by simp [World.rangeLeft, hb, hr]⟩
theorem left_size (es : Array MapEntry) (seen : Array Nat) : (leftOf es seen).size = ((es.toList.map (·.born)).filter (fun n => !seen.contains n)).length := by
  rw [List.filter_map, List.length_map, leftOf, ← Array.length_toList, Array.toList_filter]
  rfl
/-- 'range m' -/
theorem MapF.range (h : MapF w b ok kv vv f) (KT : KeyTy P k ok kv) (ht : P.underlying t = some (.map k e)) :
    ∃ w', (Instr.range t (.map (some b))).run P w = .ok (.pointer (some ⟨w.heap.size, 0, none⟩)) w' ∧ MapR w' b w.heap.size ok kv vv f (fun a => (f a).isSome) ∧ w.grownBy w' none ∧ w'.heap.size = w.heap.size + 1 := by
  have hlt := h.lt
  obtain ⟨es, clock, hb, E⟩ := h
  refine ⟨_, run_range_map w t k e b es clock ht hb, ⟨es, clock, clock, #[], clock, ((MapKept.heap_alloc w _).2 b hlt).trans hb, E, (MapKept.heap_alloc w _).1, E.old, Nat.le_refl _, Nat.le_refl _, fun a => ?_⟩, World.grownBy_alloc w _ none, by simp⟩
  constructor
  · intro ha
    obtain ⟨v, hv⟩ := Option.isSome_iff_exists.1 ha
    obtain ⟨x, hx, hk⟩ := E.has a v hv
    exact ⟨x, hx, hk, by simp⟩
  · rintro ⟨x, hx, hk, _⟩
    obtain ⟨a', v', _, q2, _, q4⟩ := E.all x hx
    have : a = a' := KT.inj a a' (by rw [← hk, q2])
    subst this
    show (f a).isSome = true
    rw [q4]
    rfl
/-- The step. -/
theorem MapR.next [DecidableEq α] (h : MapR w b r ok kv vv f left) (KT : KeyTy P k ok kv) (ty : TypeId) :
    ((∀ a, left a = false) ∧ (Instr.next (.pointer (some ⟨r, 0, none⟩)) false ty).run P w = .ok (.tuple #[.bool false]) w) ∨
    ∃ a v w', ok a ∧ left a = true ∧ f a = some v ∧ (Instr.next (.pointer (some ⟨r, 0, none⟩)) false ty).run P w = .ok (.tuple #[.bool true, kv a, vv v]) w' ∧ MapR w' b r ok kv vv f (fun x => left x && !decide (x = a)) ∧
      w'.rangeLeft b r < w.rangeLeft b r ∧ w.grownBy w' (some r) ∧ w'.heap.size = w.heap.size ∧ (Instr.entry (.pointer (some ⟨r, 0, none⟩))).run P w' = .ok (.tuple #[kv a, vv v]) w' := by
  have hne := h.ne
  obtain ⟨es, clock, since, seen, c0, hb, E, hr, hold, hsc, hsk, hl⟩ := h
  rcases run_next_at (P := P) w ty r b since c0 seen es clock hr hb hold hsc with ⟨h0, hrun⟩ | ⟨x, hx, w1, hal, hrun⟩
  · refine .inl ⟨fun a => ?_, hrun⟩
    cases hk : left a
    · rfl
    · obtain ⟨x, hx, _, hc⟩ := (hl a).1 hk
      rw [all_seen es seen h0 x hx] at hc
      cases hc
  · obtain ⟨hem, hes⟩ := mem_left hx
    obtain ⟨a, v, hok, hk, hv, hf⟩ := E.all x hem
    have hr1 : w1.heap[r]? = some (.mapIter (some b) since seen c0) := by rcases hal with rfl | rfl <;> exact hr
    have hb1 : w1.heap[b]? = some (.map es clock) := by rcases hal with rfl | rfl <;> exact hb
    have hset := MapKept.heap_set (o' := .mapIter (some b) since (seen.push x.born) clock) hr1
    have hb' : (setBlock w1 r (.mapIter (some b) since (seen.push x.born) clock)).heap[b]? = some (.map es clock) := (hset.2 b (fun e1 => hne e1.symm)).trans hb1
    rw [hk, hv] at hrun
    refine .inr ⟨a, v, _, hok, (hl a).2 ⟨x, hem, hk, hes⟩, hf, hrun, ⟨es, clock, since, seen.push x.born, clock, hb', E, hset.1, hold, hsk, hsk, fun a' => ?_⟩, ?_, ?_, ?_, ?_⟩
    · rw [Bool.and_eq_true, hl a']
      constructor
      · rintro ⟨⟨y, hy, hyk, hyc⟩, hn⟩
        refine ⟨y, hy, hyk, ?_⟩
        rw [contains_push, hyc, Bool.false_or, beq_eq_false_iff_ne]
        intro hbe
        have := born_inj E.bor hy hem hbe
        subst this
        have : a' = a := KT.inj _ _ (by rw [← hyk, hk])
        simp [this] at hn
      · rintro ⟨y, hy, hyk, hyc⟩
        rw [contains_push, Bool.or_eq_false_iff, beq_eq_false_iff_ne] at hyc
        refine ⟨⟨y, hy, hyk, hyc.1⟩, ?_⟩
        simp only [Bool.not_eq_true', decide_eq_false_iff_not]
        intro he
        subst he
        obtain ⟨i, hi⟩ := List.getElem?_of_mem hy
        obtain ⟨j, hj⟩ := List.getElem?_of_mem hem
        have := E.one i j y x hi hj (by rw [hyk, hk])
        subst this
        rw [hi] at hj
        injection hj with hj
        exact hyc.2 (by rw [hj])
    · simp only [World.rangeLeft, hb', hb, hr]
      rw [show (setBlock w1 r (.mapIter (some b) since (seen.push x.born) clock)).heap[r]? = _ from hset.1]
      exact left_shrinks es seen x hx
    · rcases hal with rfl | rfl <;> exact ⟨rfl, rfl, rfl, by simp [setBlock], fun i _ hi => hset.2 i (fun e1 => hi (by rw [e1]))⟩
    · rcases hal with rfl | rfl <;> simp [setBlock]
    · rw [← hk, ← hv]
      exact run_entry_at _ r b since seen es clock x hset.1 hb' hem E.bor
/-- m[k] = v at a key that is there, in the round. -/
theorem MapR.store [DecidableEq α] (h : MapR w b r ok kv vv f left) (KT : KeyTy P k ok kv) (ht : P.underlying t = some (.map k e)) (a : α) (ha : ok a) (v : β) (hs : (f a).isSome = true) :
    ∃ w', (Instr.mapUpdate t (.map (some b)) (kv a) (vv v)).run P w = .ok () w' ∧ MapR w' b r ok kv vv (fun x => if x = a then some v else f x) left ∧ w'.rangeLeft b r = w.rangeLeft b r ∧ w.grownBy w' (some b) ∧ w'.heap.size = w.heap.size := by
  have hne := h.ne
  obtain ⟨es, clock, since, seen, c0, hb, E, hr, hold, hsc, hsk, hl⟩ := h
  obtain ⟨l, hl'⟩ := KT.lit a ha
  rcases E.find KT w a ha with ⟨h1, h2, h3⟩ | ⟨j, x, v0, h1, h2, h3, h4, h5⟩
  · rw [h2] at hs
    cases hs
  · have hst := KT.K.stays w hl'
    have he0 : es[j]? = some x := by simpa using h2
    have hr' : (setBlock w b (.map (es.modify j fun x => { x with key := kv a, val := vv v }) clock)).heap[r]? = some (.mapIter (some b) since seen c0) := (ChangeMaps.heap_setBlock_other hb _ hne).trans hr
    have hmem : ∀ P : MapEntry → Prop, (∀ y z : MapEntry, y.key = z.key → y.born = z.born → P y → P z) → ((∃ y ∈ es.toList, P y) ↔ ∃ y ∈ (es.modify j fun x => { x with key := kv a, val := vv v }).toList, P y) := by
      intro P hP
      rw [Array.toList_modify]
      constructor
      · rintro ⟨y, hy, hp⟩
        obtain ⟨i, hi⟩ := List.getElem?_of_mem hy
        by_cases hij : j = i
        · subst hij
          rw [h2] at hi
          injection hi with hi
          subst hi
          exact ⟨{ x with key := kv a, val := vv v }, List.mem_of_getElem? (i := j) (by rw [List.getElem?_modify, h2]; simp), hP x _ h3 rfl hp⟩
        · exact ⟨y, List.mem_of_getElem? (i := i) (by rw [List.getElem?_modify, hi]; simp [hij]), hp⟩
      · rintro ⟨y, hy, hp⟩
        obtain ⟨i, hi⟩ := List.getElem?_of_mem hy
        rw [List.getElem?_modify] at hi
        by_cases hij : j = i
        · subst hij
          rw [h2] at hi
          simp at hi
          exact ⟨x, List.mem_of_getElem? h2, hP y x (by rw [← hi, h3]) (by rw [← hi]) hp⟩
        · simp only [hij, if_false, Option.map_eq_map, Option.map_id_fun', id_eq] at hi
          exact ⟨y, List.mem_of_getElem? hi, hp⟩
    refine ⟨setBlock w b (.map (es.modify j fun x => { x with key := kv a, val := vv v }) clock), ?_, ⟨_, _, since, seen, c0, ChangeMaps.heap_setBlock_same hb _, ?_, hr', ?_, hsc, hsk, fun a' => ?_⟩, ?_, ⟨rfl, rfl, rfl, by simp [setBlock], fun i _ hi => ChangeMaps.heap_setBlock_other hb _ (fun e => hi (by rw [e]))⟩, by simp [setBlock]⟩
    · simp [Instr.mapUpdate, run_underlying ht, MapKept.run_getObj_map hb, KT.K.check w false hl', h1, he0, h3, hst, MapKept.run_setObj_map _ hb, Result.andThen, setBlock]
    · rw [Array.toList_modify]
      exact E.modify KT a ha v j x h2 h3
    · intro y hy
      obtain ⟨z, hz, hzb⟩ := (hmem (fun z => z.born = y.born) (fun p q _ hpq hp => by rw [← hpq]; exact hp)).2 ⟨y, hy, rfl⟩
      rw [← hzb]
      exact hold z hz
    · rw [hl a']
      exact hmem (fun y => y.key = kv a' ∧ seen.contains y.born = false) (fun p q h1 h2 h3 => ⟨by rw [← h1]; exact h3.1, by rw [← h2]; exact h3.2⟩)
    · simp only [World.rangeLeft, hb, hr, hr', ChangeMaps.heap_setBlock_same hb _]
      rw [left_size, left_size, Array.toList_modify, map_modify_born]
/-- delete(m, k) in the round. -/
theorem MapR.delete [DecidableEq α] (h : MapR w b r ok kv vv f left) (KT : KeyTy P k ok kv) (ht : P.underlying t = some (.map k e)) (a : α) (ha : ok a) (hs : (f a).isSome = true) (hna : left a = false) (ty : TypeId) :
    ∃ w', (Builtin.delete_ #[t, k] ty #[.map (some b), kv a]).run P w = .ok (.tuple #[]) w' ∧ MapR w' b r ok kv vv (fun x => if x = a then none else f x) left ∧ w'.rangeLeft b r ≤ w.rangeLeft b r ∧ w.grownBy w' (some b) ∧ w'.heap.size = w.heap.size := by
  have hne := h.ne
  obtain ⟨es, clock, since, seen, c0, hb, E, hr, hold, hsc, hsk, hl⟩ := h
  obtain ⟨l, hl'⟩ := KT.lit a ha
  rcases E.find KT w a ha with ⟨h1, h2, h3⟩ | ⟨j, x, v0, h1, h2, h3, h4, h5⟩
  · rw [h2] at hs
    cases hs
  · have hjs : j < es.size := by simpa using (List.getElem?_eq_some_iff.1 h2).1
    have hsub : (es.eraseIdxIfInBounds j).toList = es.toList.eraseIdx j := by
      unfold Array.eraseIdxIfInBounds
      rw [dif_pos hjs]
      simp
    have hr' : (setBlock w b (.map (es.eraseIdxIfInBounds j) clock)).heap[r]? = some (.mapIter (some b) since seen c0) := (ChangeMaps.heap_setBlock_other hb _ hne).trans hr
    refine ⟨setBlock w b (.map (es.eraseIdxIfInBounds j) clock), ?_, ⟨_, _, since, seen, c0, ChangeMaps.heap_setBlock_same hb _, ?_, hr', ?_, hsc, hsk, fun a' => ?_⟩, ?_, ⟨rfl, rfl, rfl, by simp [setBlock], fun i _ hi => ChangeMaps.heap_setBlock_other hb _ (fun e => hi (by rw [e]))⟩, by simp [setBlock]⟩
    · simp [Builtin.delete_, run_underlying ht, MapKept.run_getObj_map hb, KT.K.check w _ hl', h1, MapKept.run_setObj_map _ hb, Result.andThen, setBlock]
    · rw [hsub]
      exact E.erase KT a j x h2 h3
    · intro y hy
      rw [hsub] at hy
      exact hold y ((List.eraseIdx_sublist _ _).subset hy)
    · rw [hl a']
      constructor
      · rintro ⟨y, hy, hyk, hyc⟩
        obtain ⟨i, hi⟩ := List.getElem?_of_mem hy
        refine ⟨y, ?_, hyk, hyc⟩
        rw [hsub, List.mem_eraseIdx_iff_getElem?]
        refine ⟨i, fun e => ?_, hi⟩
        subst e
        rw [h2] at hi
        injection hi with hi
        subst hi
        have : left a = true := (hl a).2 ⟨x, hy, h3, hyc⟩
        rw [hna] at this
        cases this
      · rintro ⟨y, hy, hyk, hyc⟩
        rw [hsub] at hy
        exact ⟨y, (List.eraseIdx_sublist _ _).subset hy, hyk, hyc⟩
    · simp only [World.rangeLeft, hb, hr, hr', ChangeMaps.heap_setBlock_same hb _]
      rw [left_size, left_size, hsub]
      exact (((List.eraseIdx_sublist _ _).map _).filter _).length_le
end
end Go.Proofs.YtjmkodkechahdaaGreatDoor
/- The machine of the disk in plain Lean: its state, what each call does to it, and what always holds of it. -/
set_option linter.unusedSimpArgs false
set_option linter.unusedVariables false
namespace Go.Proofs.YtjmkodkechahdaaGreatDoor
open Go.RowKit

/-- A string, filled with zeros up to n bytes. -/
def padL (s : List UInt8) (n : Nat) : List UInt8 := s ++ List.replicate (n - s.length) 0
/-- Bytes t at offset a. -/
def putL (s : List UInt8) (a : Nat) (t : List UInt8) : List UInt8 := (padL s (a + t.length)).take a ++ (t ++ (padL s (a + t.length)).drop (a + t.length))
def putB (s : ByteArray) (a : Nat) (t : ByteArray) : ByteArray := if t.size = 0 then s else ⟨(putL s.data.toList a t.data.toList).toArray⟩

theorem padL_len (s : List UInt8) (n : Nat) : (padL s n).length = max s.length n := by
  rw [padL, List.length_append, List.length_replicate]
  omega
theorem putL_len (s : List UInt8) (a : Nat) (t : List UInt8) : (putL s a t).length = max s.length (a + t.length) := by
  have := padL_len s (a + t.length)
  rw [putL, List.length_append, List.length_append, List.length_take, List.length_drop, this]
  omega
theorem putB_size (s : ByteArray) (a : Nat) (t : ByteArray) (h : t.size ≠ 0) : (putB s a t).size = max s.size (a + t.size) := by
  rw [putB, if_neg h]
  have := putL_len s.data.toList a t.data.toList
  show (List.toArray (putL s.data.toList a t.data.toList)).size = _
  rw [List.size_toArray, this, Array.length_toList, Array.length_toList]
  rfl

abbrev FileT := ByteArray × ByteArray
def e0 : ByteArray := ⟨#[]⟩
structure DS where
  files : Int → FileT
  queue : List (Int × Int)
  lost : Int
  down : Bool
  armed : Int
  keep : List Int

def updF (F : Int → FileT) (f : Int) (x : FileT) : Int → FileT := fun g => if g = f then x else F g
def addQ (q : List (Int × Int)) (f lo : Int) : Nat → List (Int × Int)
  | 0 => q
  | n + 1 => addQ (if (f, lo) ∈ q then q else q ++ [(f, lo)]) f (lo + 1) n
def DS.wadd (S : DS) (f a : Int) (s : ByteArray) : DS :=
  if s.size = 0 then S else { S with files := updF S.files f (putB (S.files f).1 a.toNat s, (S.files f).2), queue := addQ S.queue f (a / 64) ((a + s.size - 1) / 64 - a / 64 + 1).toNat }
def DS.may (S : DS) (f : Int) : Int := if S.down = true then 8 else if f < 0 ∨ 16 ≤ f then 1 else 0
def fitsB (a : Int) (s : ByteArray) : Bool := decide (0 ≤ a) && (decide (a ≤ 16777216) && decide (a + s.size ≤ 16777216))
/-- write: the code, and the state behind it. -/
def DS.wcode (S : DS) (f a : Int) (s : ByteArray) : Int := if S.may f ≠ 0 then S.may f else if a < 0 then 1 else if fitsB a s = true then 0 else 6
def DS.wr (S : DS) (f a : Int) (s : ByteArray) : DS := if S.wcode f a s = 0 then S.wadd f a s else S
def surv1 (F : Int → FileT) (p : Int × Int) : Int → FileT :=
  if 64 * p.2 < (F p.1).1.size then updF F p.1 ((F p.1).1, putB (F p.1).2 (64 * p.2).toNat ((F p.1).1.extract (64 * p.2).toNat (min (64 * p.2 + 64) (F p.1).1.size).toNat)) else F
def keepBit (keep : List Int) (i : Nat) : Bool := match keep[i % keep.length]? with
  | some k => k % 2 == 1
  | none => false
def survQ (keep : List Int) : Nat → List (Int × Int) → (Int → FileT) → (Int → FileT)
  | _, [], F => F
  | i, p :: r, F => survQ keep (i + 1) r (if keepBit keep i = true then surv1 F p else F)
def lastF (F : Int → FileT) : Int → FileT := fun f => ((F f).2, (F f).2)
def DS.crash (S : DS) (keep : List Int) : DS :=
  if S.down = true then S else { files := lastF (survQ keep 0 S.queue S.files), queue := [], lost := S.lost, down := true, armed := 0, keep := S.keep }
def DS.endsB (S : DS) : Bool := !S.down && decide (S.armed = 1)
def DS.tick (S : DS) : DS := if S.down = true ∨ S.armed = 0 then S else { S with armed := S.armed - 1 }
def DS.settle (S : DS) (f : Int) (s : ByteArray) : DS := { S with files := updF S.files f (s, s), queue := S.queue.filter (fun p => !(p.1 == f)) }
def DS.come (S : DS) : DS := if S.endsB = true then S.tick.crash S.keep else S.tick
def DS.writeC (S : DS) (f a : Int) (s : ByteArray) : Int := if S.endsB = true then 8 else S.tick.wcode f a s
def DS.write (S : DS) (f a : Int) (s : ByteArray) : DS := if S.endsB = true then (S.tick.wr f a s).crash S.keep else S.tick.wr f a s
def DS.syncC0 (S : DS) (f : Int) : Int := if S.may f ≠ 0 then S.may f else if 0 < S.lost then 9 else 0
def DS.sync0 (S : DS) (f : Int) : DS := if S.may f ≠ 0 then S else if 0 < S.lost then { S with lost := S.lost - 1 } else S.settle f (S.files f).1
def DS.syncC (S : DS) (f : Int) : Int := S.come.syncC0 f
def DS.sync (S : DS) (f : Int) : DS := S.come.sync0 f
def DS.truncC0 (S : DS) (f n : Int) : Int := if S.may f ≠ 0 then S.may f else if n < 0 ∨ (S.files f).1.size < n then 1 else 0
def DS.trunc0 (S : DS) (f n : Int) : DS := if S.truncC0 f n = 0 then S.settle f ((S.files f).1.extract 0 n.toNat) else S
def DS.truncC (S : DS) (f n : Int) : Int := S.come.truncC0 f n
def DS.trunc (S : DS) (f n : Int) : DS := S.come.trunc0 f n
def DS.lose (S : DS) (n : Int) : DS := { S with lost := max n 0 }
def DS.arm (S : DS) (n : Int) (keep : List Int) : DS := { S with armed := max n 0, keep := keep }
def DS.start (S : DS) : DS := { S with down := false }
def DS.readC (S : DS) (f a n : Int) : Int := if S.may f ≠ 0 then S.may f else if a < 0 ∨ n < 0 then 1 else 0
def DS.readS (S : DS) (f a n : Int) : ByteArray :=
  if S.readC f a n ≠ 0 then e0 else ((S.files f).1.extract (min a (S.files f).1.size).toNat (S.files f).1.size).extract 0 (min n ((S.files f).1.extract (min a (S.files f).1.size).toNat (S.files f).1.size).size).toNat
def DS.new : DS := { files := fun _ => (e0, e0), queue := [], lost := 0, down := false, armed := 0, keep := [] }

/-! What always holds. -/
def inI64 (x : Int) : Prop := -9223372036854775808 ≤ x ∧ x ≤ 9223372036854775807
structure DS.wf (S : DS) : Prop where
  out : ∀ f, f < 0 ∨ 16 ≤ f → S.files f = (e0, e0)
  now : ∀ f, (S.files f).1.size ≤ 16777216
  last : ∀ f, (S.files f).2.size ≤ 16777216
  q : ∀ p ∈ S.queue, 0 ≤ p.1 ∧ p.1 < 16 ∧ 0 ≤ p.2 ∧ p.2 ≤ 262144
  nd : S.queue.Nodup
  lost0 : 0 ≤ S.lost
  lost1 : inI64 S.lost
  armed0 : 0 ≤ S.armed
  armed1 : inI64 S.armed
  keep : ∀ k ∈ S.keep, inI64 k

/-- So many different numbers below n: n at most. -/
theorem nodup_len : ∀ (n : Nat) (l : List Nat), l.Nodup → (∀ x ∈ l, x < n) → l.length ≤ n
  | 0, l, _, h => by
    rcases l with _ | ⟨x, r⟩
    · simp
    · exact absurd (h x (by simp)) (by omega)
  | n + 1, l, hd, h => by
    have h1 := nodup_len n (l.filter (fun x => x != n)) (hd.filter _) (fun x hx => by
      have := h x ((List.mem_filter.1 hx).1)
      have h2 := (List.mem_filter.1 hx).2
      simp at h2
      omega)
    have h3 : l.length ≤ (l.filter (fun x => x != n)).length + 1 := by
      have hc : l.countP (fun x => x == n) ≤ 1 := by
        have := List.nodup_iff_count.1 hd n
        simpa [List.count] using this
      have he := List.length_eq_countP_add_countP (fun x => x == n) (l := l)
      have h4 : l.countP (fun x => !(x == n)) = (l.filter (fun x => x != n)).length := by
        rw [List.countP_eq_length_filter]
        rfl
      have h5 : l.countP (fun a => decide ¬(a == n) = true) = l.countP (fun x => !(x == n)) := by
        congr 1
        funext x
        cases x == n <;> rfl
      omega
    omega
theorem DS.wf.qlen {S : DS} (h : S.wf) : S.queue.length ≤ 4194320 := by
  have h1 := nodup_len 4194320 (S.queue.map (fun p => p.1.toNat * 262145 + p.2.toNat)) (by
    rw [List.nodup_iff_pairwise_ne, List.pairwise_map]
    refine (List.Pairwise.imp_of_mem ?_ (List.nodup_iff_pairwise_ne.1 h.nd))
    rintro ⟨a, b⟩ ⟨c, d⟩ hx hy hne he
    have q1 := h.q _ hx
    have q2 := h.q _ hy
    simp only at he q1 q2
    have : a = c ∧ b = d := by omega
    exact hne (by rw [this.1, this.2])) (by
    intro x hx
    obtain ⟨p, hp, rfl⟩ := List.mem_map.1 hx
    have q1 := h.q _ hp
    omega)
  simpa using h1

theorem DS.new_wf : DS.new.wf := ⟨fun _ _ => rfl, fun _ => by simp [DS.new, e0, ByteArray.size], fun _ => by simp [DS.new, e0, ByteArray.size], by simp [DS.new], by simp [DS.new], by simp [DS.new], by simp [DS.new, inI64], by simp [DS.new], by simp [DS.new, inI64], by simp [DS.new]⟩
theorem addQ_mem (f : Int) : ∀ (n : Nat) (q : List (Int × Int)) (lo : Int) (p : Int × Int), p ∈ addQ q f lo n ↔ p ∈ q ∨ (p.1 = f ∧ lo ≤ p.2 ∧ p.2 < lo + n)
  | 0, q, lo, p => by simp [addQ]; omega
  | n + 1, q, lo, p => by
    rw [addQ, addQ_mem f n]
    have h1 : p ∈ (if (f, lo) ∈ q then q else q ++ [(f, lo)]) ↔ p ∈ q ∨ p = (f, lo) := by
      by_cases h : (f, lo) ∈ q
      · rw [if_pos h]
        constructor
        · exact .inl
        · rintro (h1 | rfl)
          · exact h1
          · exact h
      · simp [h]
    rw [h1, Prod.ext_iff]
    push_cast
    constructor
    · rintro ((h | ⟨h2, h3⟩) | ⟨h2, h3, h4⟩)
      · exact .inl h
      · exact .inr ⟨h2, by omega, by omega⟩
      · exact .inr ⟨h2, by omega, by omega⟩
    · rintro (h | ⟨h2, h3, h4⟩)
      · exact .inl (.inl h)
      · by_cases h5 : p.2 = lo
        · exact .inl (.inr ⟨h2, h5⟩)
        · exact .inr ⟨h2, by omega, by omega⟩
theorem addQ_nodup (f : Int) : ∀ (n : Nat) (q : List (Int × Int)) (lo : Int), q.Nodup → (addQ q f lo n).Nodup
  | 0, q, lo, h => h
  | n + 1, q, lo, h => by
    rw [addQ]
    refine addQ_nodup f n _ _ ?_
    split
    · exact h
    · rename_i hn
      rw [List.nodup_append]
      refine ⟨h, by simp, fun x hx y hy => ?_⟩
      simp only [List.mem_singleton] at hy
      subst hy
      rintro rfl
      exact hn hx
theorem DS.wadd_wf {S : DS} (h : S.wf) (f a : Int) (s : ByteArray) (hf : 0 ≤ f ∧ f < 16) (ha : 0 ≤ a) (hs : a + s.size ≤ 16777216) : (S.wadd f a s).wf := by
  unfold DS.wadd
  split
  · exact h
  · rename_i h0
    have e : a.toNat + s.size ≤ 16777216 := by omega
    have hw := putB_size (S.files f).1 a.toNat s h0
    have hn := h.now f
    refine ⟨fun g hg => ?_, fun g => ?_, fun g => ?_, fun p hp => ?_, addQ_nodup _ _ _ _ h.nd, h.lost0, h.lost1, h.armed0, h.armed1, h.keep⟩
    · show updF _ _ _ g = _
      rw [updF, if_neg (by omega)]
      exact h.out g hg
    · show (updF _ _ _ g).1.size ≤ _
      unfold updF
      split
      · simp only
        omega
      · exact h.now g
    · show (updF _ _ _ g).2.size ≤ _
      unfold updF
      split
      · exact h.last f
      · exact h.last g
    · rcases (addQ_mem f _ _ _ p).1 hp with h1 | ⟨h1, h2, h3⟩
      · exact h.q p h1
      · omega
theorem fits_ok {a : Int} {s : ByteArray} (h : fitsB a s = true) : 0 ≤ a ∧ a + s.size ≤ 16777216 := by
  simp [fitsB] at h
  omega
theorem may_ok {S : DS} {f : Int} (h : S.may f = 0) : S.down = false ∧ 0 ≤ f ∧ f < 16 := by
  unfold DS.may at h
  split at h
  · cases h
  · rename_i h1
    split at h
    · cases h
    · exact ⟨by simpa using h1, by omega, by omega⟩
theorem wcode_ok {S : DS} {f a : Int} {s : ByteArray} (h : S.wcode f a s = 0) : S.may f = 0 ∧ fitsB a s = true := by
  unfold DS.wcode at h
  split at h
  · rename_i h1
    exact absurd h h1
  · rename_i h1
    split at h
    · cases h
    · split at h
      · rename_i h2
        exact ⟨by omega, h2⟩
      · cases h
theorem DS.wr_wf {S : DS} (h : S.wf) (f a : Int) (s : ByteArray) : (S.wr f a s).wf := by
  unfold DS.wr
  split
  · rename_i h0
    obtain ⟨h1, h2⟩ := wcode_ok h0
    exact DS.wadd_wf h f a s (may_ok h1).2 (fits_ok h2).1 (fits_ok h2).2
  · exact h
theorem surv1_wf (F : Int → FileT) (p : Int × Int) (hp : 0 ≤ p.1 ∧ p.1 < 16 ∧ 0 ≤ p.2) (h0 : ∀ f, f < 0 ∨ 16 ≤ f → F f = (e0, e0)) (h1 : ∀ f, (F f).1.size ≤ 16777216) (h2 : ∀ f, (F f).2.size ≤ 16777216) :
    (∀ f, f < 0 ∨ 16 ≤ f → surv1 F p f = (e0, e0)) ∧ (∀ f, (surv1 F p f).1 = (F f).1) ∧ (∀ f, (surv1 F p f).2.size ≤ 16777216) := by
  unfold surv1
  split
  · rename_i hl
    have hn := h1 p.1
    have hq := h2 p.1
    have hz : ((F p.1).1.extract (64 * p.2).toNat (min (64 * p.2 + 64) (F p.1).1.size).toNat).size = (min (64 * p.2 + 64) (F p.1).1.size).toNat - (64 * p.2).toNat := by
      rw [ByteArray.size_extract]
      omega
    have hs := putB_size (F p.1).2 (64 * p.2).toNat ((F p.1).1.extract (64 * p.2).toNat (min (64 * p.2 + 64) (F p.1).1.size).toNat) (by rw [hz]; omega)
    refine ⟨fun f hf => ?_, fun f => ?_, fun f => ?_⟩
    · rw [updF, if_neg (by omega)]
      exact h0 f hf
    · unfold updF
      split
      · rename_i e
        rw [e]
      · rfl
    · unfold updF
      split
      · simp only
        omega
      · exact h2 f
  · exact ⟨h0, fun _ => rfl, h2⟩
theorem survQ_wf (keep : List Int) : ∀ (q : List (Int × Int)) (i : Nat) (F : Int → FileT), (∀ p ∈ q, 0 ≤ p.1 ∧ p.1 < 16 ∧ 0 ≤ p.2) → (∀ f, f < 0 ∨ 16 ≤ f → F f = (e0, e0)) → (∀ f, (F f).1.size ≤ 16777216) → (∀ f, (F f).2.size ≤ 16777216) →
    (∀ f, f < 0 ∨ 16 ≤ f → survQ keep i q F f = (e0, e0)) ∧ (∀ f, (survQ keep i q F f).1 = (F f).1) ∧ (∀ f, (survQ keep i q F f).2.size ≤ 16777216)
  | [], i, F, _, h0, h1, h2 => ⟨h0, fun _ => rfl, h2⟩
  | p :: r, i, F, hq, h0, h1, h2 => by
    rw [survQ]
    split
    · obtain ⟨q0, q1, q2⟩ := surv1_wf F p (hq p (by simp)) h0 h1 h2
      obtain ⟨r0, r1, r2⟩ := survQ_wf keep r (i + 1) (surv1 F p) (fun x hx => hq x (by simp [hx])) q0 (fun f => by rw [q1]; exact h1 f) q2
      exact ⟨r0, fun f => by rw [r1, q1], r2⟩
    · exact survQ_wf keep r (i + 1) F (fun x hx => hq x (by simp [hx])) h0 h1 h2
theorem DS.crash_wf {S : DS} (h : S.wf) (keep : List Int) : (S.crash keep).wf := by
  unfold DS.crash
  split
  · exact h
  · obtain ⟨q0, q1, q2⟩ := survQ_wf keep S.queue 0 S.files (fun p hp => ⟨(h.q p hp).1, (h.q p hp).2.1, (h.q p hp).2.2.1⟩) h.out h.now h.last
    refine ⟨fun f hf => ?_, q2, q2, by simp, by simp, h.lost0, h.lost1, by simp, by simp [inI64], h.keep⟩
    simp only [lastF, q0 f hf]
theorem DS.tick_wf {S : DS} (h : S.wf) : S.tick.wf := by
  unfold DS.tick
  split
  · exact h
  · rename_i hn
    have h1 := h.armed0
    have h2 := h.armed1
    unfold inI64 at h2
    exact ⟨h.out, h.now, h.last, h.q, h.nd, h.lost0, h.lost1, by simp only; omega, by simp only [inI64]; omega, h.keep⟩
theorem DS.settle_wf {S : DS} (h : S.wf) (f : Int) (s : ByteArray) (hf : 0 ≤ f ∧ f < 16) (hs : s.size ≤ 16777216) : (S.settle f s).wf := by
  refine ⟨fun g hg => ?_, fun g => ?_, fun g => ?_, fun p hp => h.q p ((List.mem_filter.1 hp).1), h.nd.filter _, h.lost0, h.lost1, h.armed0, h.armed1, h.keep⟩
  · show updF _ _ _ g = _
    rw [updF, if_neg (by omega)]
    exact h.out g hg
  · show (updF _ _ _ g).1.size ≤ _
    unfold updF
    split
    · exact hs
    · exact h.now g
  · show (updF _ _ _ g).2.size ≤ _
    unfold updF
    split
    · exact hs
    · exact h.last g
theorem DS.come_wf {S : DS} (h : S.wf) : S.come.wf := by
  unfold DS.come
  split
  · exact DS.crash_wf (DS.tick_wf h) _
  · exact DS.tick_wf h
theorem DS.write_wf {S : DS} (h : S.wf) (f a : Int) (s : ByteArray) : (S.write f a s).wf := by
  unfold DS.write
  split
  · exact DS.crash_wf (DS.wr_wf (DS.tick_wf h) f a s) _
  · exact DS.wr_wf (DS.tick_wf h) f a s
theorem DS.sync0_wf {S : DS} (h : S.wf) (f : Int) : (S.sync0 f).wf := by
  unfold DS.sync0
  split
  · exact h
  · rename_i hm
    split
    · have h1 := h.lost0
      have h2 := h.lost1
      unfold inI64 at h2
      exact ⟨h.out, h.now, h.last, h.q, h.nd, by simp only; omega, by simp only [inI64]; omega, h.armed0, h.armed1, h.keep⟩
    · exact DS.settle_wf h f _ (may_ok (Classical.not_not.1 hm)).2 (h.now f)
theorem trunc_ok {S : DS} {f n : Int} (h : S.truncC0 f n = 0) : S.may f = 0 ∧ 0 ≤ n ∧ n ≤ (S.files f).1.size := by
  unfold DS.truncC0 at h
  split at h
  · rename_i h1
    exact absurd h h1
  · split at h
    · cases h
    · omega
theorem DS.trunc0_wf {S : DS} (h : S.wf) (f n : Int) : (S.trunc0 f n).wf := by
  unfold DS.trunc0
  split
  · rename_i h0
    obtain ⟨h1, h2, h3⟩ := trunc_ok h0
    have := h.now f
    exact DS.settle_wf h f _ (may_ok h1).2 (by rw [ByteArray.size_extract]; omega)
  · exact h
theorem DS.lose_wf {S : DS} (h : S.wf) (n : Int) (hn : inI64 n) : (S.lose n).wf := by
  unfold inI64 at hn
  exact ⟨h.out, h.now, h.last, h.q, h.nd, by simp only [DS.lose]; omega, by simp only [DS.lose, inI64]; omega, h.armed0, h.armed1, h.keep⟩
theorem DS.arm_wf {S : DS} (h : S.wf) (n : Int) (keep : List Int) (hn : inI64 n) (hk : ∀ k ∈ keep, inI64 k) : (S.arm n keep).wf := by
  unfold inI64 at hn
  exact ⟨h.out, h.now, h.last, h.q, h.nd, h.lost0, h.lost1, by simp only [DS.arm]; omega, by simp only [DS.arm, inI64]; omega, hk⟩
theorem DS.start_wf {S : DS} (h : S.wf) : S.start.wf := ⟨h.out, h.now, h.last, h.q, h.nd, h.lost0, h.lost1, h.armed0, h.armed1, h.keep⟩
theorem DS.tick_keep (S : DS) : S.tick.keep = S.keep := by
  unfold DS.tick
  split <;> rfl
theorem DS.wr_keep (S : DS) (f a : Int) (s : ByteArray) : (S.wr f a s).keep = S.keep := by
  unfold DS.wr DS.wadd
  split
  · split <;> rfl
  · rfl
end Go.Proofs.YtjmkodkechahdaaGreatDoor
/- m[k] = v in a statement with other stores: the entry is made, then its value is stored; over any program. -/
set_option linter.unusedSimpArgs false
set_option linter.unusedVariables false
namespace Go.Proofs.YtjmkodkechahdaaGreatDoor
open Go.RowKit
open Go.ChangeMaps (setBlock)

theorem push_modify (es : Array MapEntry) (x : MapEntry) (g : MapEntry → MapEntry) : (es.push x).modify es.size g = es.push (g x) := by
  apply Array.ext_getElem?
  intro i
  rw [Array.getElem?_modify, Array.getElem?_push, Array.getElem?_push]
  by_cases h : i = es.size
  · subst h
    simp
  · have h' : ¬ es.size = i := fun e => h e.symm
    simp [h, h']
theorem find_pushed (es : Array MapEntry) (x : MapEntry) (h : ∀ e ∈ es.toList, e.born < x.born) : (es.push x).findIdx? (fun e => ((e.born : Int) == (x.born : Int))) = some es.size := by
  rw [Array.findIdx?_eq_some_iff_getElem]
  refine ⟨by simp, by simp, fun j hj => ?_⟩
  have h1 := h (es[j]'hj) (by simp)
  simp only [Array.getElem_push_lt hj]
  simp
  omega
theorem MapF.entry {α β : Type} [DecidableEq α] {P : Program} {w : World} {b : Nat} {ok : α → Prop} {kv : α → Value} {vv : β → Value} {f : α → Option β} {t k e : TypeId} (h : MapF w b ok kv vv f) (KT : KeyTy P k ok kv) (ht : P.underlying t = some (.map k e)) {z : β} (hz : ∀ w, (zeroValue e).run P w = .ok (vv z) w) (a : α) (ha : ok a) (hn : f a = none) :
    ∃ (c : Nat) (w' : World), (Instr.mapEntry t (.map (some b)) (kv a)).run P w = .ok (.tuple #[vv z, .int .i64 (c : Int)]) w' ∧ w.grownBy w' (some b) ∧ w'.heap.size = w.heap.size ∧
      ∀ (w2 : World) (v : β), w2.heap[b]? = w'.heap[b]? → ∃ w3, (Instr.entryStore t (.map (some b)) (.int .i64 (c : Int)) (vv v)).run P w2 = .ok () w3 ∧ MapF w3 b ok kv vv (fun x => if x = a then some v else f x) ∧ w2.grownBy w3 (some b) ∧ w3.heap.size = w2.heap.size := by
  obtain ⟨es, clock, hb, E⟩ := h
  obtain ⟨l, hl⟩ := KT.lit a ha
  rcases E.find KT w a ha with ⟨h1, h2, h3⟩ | ⟨j, x, v, h1, h2, h3, h4, h5⟩
  · refine ⟨clock, setBlock w b (.map (es.push ⟨kv a, vv z, clock⟩) (clock + 1)), ?_, ⟨rfl, rfl, rfl, by simp [setBlock], fun i _ hi => ChangeMaps.heap_setBlock_other hb _ (fun e => hi (by rw [e]))⟩, by simp [setBlock], ?_⟩
    · simp [Instr.mapEntry, run_underlying ht, MapKept.run_getObj_map hb, KT.K.check w false hl, h1, hz, MapKept.run_setObj_map _ hb, Result.andThen, setBlock, goInt]
    · intro w2 v hw2
      have hb2 : w2.heap[b]? = some (.map (es.push ⟨kv a, vv z, clock⟩) (clock + 1)) := hw2.trans (ChangeMaps.heap_setBlock_same hb _)
      refine ⟨setBlock w2 b (.map (es.push ⟨kv a, vv v, clock⟩) (clock + 1)), ?_, ⟨_, _, ChangeMaps.heap_setBlock_same hb2 _, ?_⟩, ⟨rfl, rfl, rfl, by simp [setBlock], fun i _ hi => ChangeMaps.heap_setBlock_other hb2 _ (fun e => hi (by rw [e]))⟩, by simp [setBlock]⟩
      · have hf := find_pushed es ⟨kv a, vv z, clock⟩ (fun e he => E.old e he)
        simp only at hf
        simp [Instr.entryStore, MapKept.run_getObj_map hb2, asInt, asIntOf, hf, push_modify, MapKept.run_setObj_map _ hb2, Result.andThen, setBlock]
      · rw [Array.toList_push]
        exact E.push a ha v h3
  · rw [hn] at h5
    cases h5
end Go.Proofs.YtjmkodkechahdaaGreatDoor
