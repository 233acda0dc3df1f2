/- Contracts and plain laws, joined: Det. -/
import Derived.Test.YtjmkodkechahdaaGreatDoorQab
import Derived.Orders
import Derived.Deep.RegionHeld
/- A region that draws its order, in which every operation comes to one value whatever the order: walked once, from the first operation to the last; over any program. -/
set_option linter.unusedSimpArgs false
set_option linter.unusedVariables false
namespace Go.Proofs.YtjmkodkechahdaaGreatDoor
open Go.RowKit

section
variable {P : Program} {ops : Array Oper} {S : World → Prop} {Q : Exit → Act → World → Prop}
def NoExit : Exit → Act → World → Prop := fun _ _ _ => False
/-- In state a, in every world that meets S, the operation o comes to the value v, in a world that meets S. -/
def ComesTo (P : Program) (ops : Array Oper) (S : World → Prop) (o : Oper) (v : Value) (a : Act) : Prop :=
  (Region.wanted o (yielded ops a.tmps) = true ∧ ∀ w, S w → ∀ K : Act → World → Prop, (∀ a' w', S w' → a' = a.put o.dst v → K a' w') → Oper.wp P o a w K NoExit) ∨
  (Region.wanted o (yielded ops a.tmps) = false ∧ v = undef)
/-- The operations one behind the other. -/
def Det (P : Program) (ops : Array Oper) (S : World → Prop) (Z : Act → World → Prop) : List Oper → Act → Prop
  | [], a => ∀ w, S w → Z a w
  | o :: r, a => ∃ v, ComesTo P ops S o v a ∧ Det P ops S Z r (a.put o.dst v)

theorem put_eq {a b : Act} {d : Option Tmp} {u v : Value} (h : a.put d u = a.put d v) (hs : b.tmps.size = a.tmps.size) : b.put d u = b.put d v := by
  cases d with
  | none => rfl
  | some d =>
    simp only [Act.put] at *
    have h1 : a.tmps.setIfInBounds d u = a.tmps.setIfInBounds d v := congrArg Act.tmps h
    by_cases hd : d < a.tmps.size
    · have h2 := congrArg (fun x : Array Value => x[d]?) h1
      simp [hd] at h2
      rw [h2]
    · rw [Array.setIfInBounds_eq_of_size_le (by rw [hs]; exact Nat.not_lt.1 hd), Array.setIfInBounds_eq_of_size_le (by rw [hs]; exact Nat.not_lt.1 hd)]

theorem ComesTo.wp {o : Oper} {v : Value} {a b : Act} (h : ∀ w, S w → ∀ K : Act → World → Prop, (∀ a' w', S w' → a' = a.put o.dst v → K a' w') → Oper.wp P o a w K NoExit)
    (he : execOp b.eval o = execOp a.eval o) (hs : b.tmps.size = a.tmps.size) {w : World} (hS : S w) {K : Act → World → Prop} (hK : ∀ w', S w' → K (b.put o.dst v) w') : Oper.wp P o b w K Q := by
  have h0 := h w hS (fun a1 w1 => a1 = a.put o.dst v ∧ S w1) (fun a1 w1 hS e => ⟨e, hS⟩)
  unfold Oper.wp at h0 ⊢
  rw [he]
  generalize (execOp a.eval o).run P w = r at *
  cases r with
  | ok n w' =>
    cases n <;> simp only [Oper.upon] at h0 ⊢
    case value u => rw [put_eq h0.1 hs]; exact hK _ h0.2
    case skip => rw [put_eq h0.1 hs]; exact hK _ h0.2
    case defer d =>
      have h1 := congrArg (fun x : Act => x.defers.length) h0.1
      cases ho : o.dst <;> simp [Act.put, ho] at h1
    case enter f args =>
      refine Calls.mono h0 fun e w'' hE => ?_
      cases e with
      | returned u => show K (b.put o.dst u) w''; rw [put_eq hE.1 hs]; exact hK _ hE.2
      | panicked c => exact hE.elim
      | outgrown => obtain ⟨_, _, hE⟩ := hE; exact hE.elim
    case row row args => exact Rows.mono h0 fun u w'' hE => by rw [put_eq hE.1 hs]; exact hK _ hE.2
  | halt x w' =>
    cases x <;> simp only [Oper.upon] at h0
    exact h0.elim

/-- o waits for operation number j. -/
def waits (o : Oper) (j : Nat) : Bool := o.after.any fun e => Region.binds .any e && e.on == j
/-- The region is such: each waits for earlier ones alone; each place is written once; who reads a place that another one writes waits for it, or is waited for. -/
def detOk (ops : Array Oper) : Bool :=
  (List.range ops.size).all fun i => match ops[i]? with
    | none => true
    | some o => (o.after.all fun e => !Region.binds .any e || decide (e.on < i)) && (match o.op with | .select _ _ => false | _ => true) &&
      (List.range ops.size).all fun j => i == j || match ops[j]? with
        | none => true
        | some p => match p.dst with
          | none => true
          | some d => o.dst != some d && (!(o.looksAt ops).contains d || waits o j || waits p i)
theorem detOk_spec (h : detOk ops = true) {i : Nat} {o : Oper} (ho : ops[i]? = some o) :
    (∀ e ∈ o.after, Region.binds .any e = true → e.on < i) ∧ (∀ cs b, o.op ≠ .select cs b) ∧
    ∀ j p d, ops[j]? = some p → i ≠ j → p.dst = some d → o.dst ≠ some d ∧ (d ∈ o.looksAt ops → waits o j = true ∨ waits p i = true) := by
  have hi : i < ops.size := (Array.getElem?_eq_some_iff.1 ho).1
  have h1 := List.all_eq_true.1 h i (List.mem_range.2 hi)
  simp only [ho, Bool.and_eq_true, List.all_eq_true, Array.all_eq_true'] at h1
  obtain ⟨⟨h2, h3⟩, h4⟩ := h1
  refine ⟨fun e he hb => ?_, fun cs b hs => by rw [hs] at h3; simp at h3, fun j p d hp hij hd => ?_⟩
  · have := h2 e he
    simpa [hb] using this
  · have hj : j < ops.size := (Array.getElem?_eq_some_iff.1 hp).1
    have h5 := h4 j (List.mem_range.2 hj)
    simp only [hp, hd, Bool.or_eq_true, Bool.and_eq_true, beq_iff_eq] at h5
    rcases h5 with h5 | ⟨h5, h6⟩
    · exact absurd h5 hij
    · refine ⟨by simpa using h5, fun hm => ?_⟩
      rcases h6 with (h6 | h6) | h6
      · simp [hm] at h6
      · exact .inl h6
      · exact .inr h6

/-- State a is a0 with the values of the operations of L in their places. -/
structure Agr (ops : Array Oper) (vs : List Value) (a0 : Act) (L : Nat → Prop) (a : Act) : Prop where
  defers : a.defers = a0.defers
  size : a.tmps.size = a0.tmps.size
  at_ : ∀ i o d v, ops[i]? = some o → o.dst = some d → L i → vs[i]? = some v → d < a0.tmps.size → a.tmps[d]? = some v
  off : ∀ d, (∀ i o, ops[i]? = some o → L i → o.dst ≠ some d) → a.tmps[d]? = a0.tmps[d]?
theorem Agr.start (vs : List Value) (a0 : Act) : Agr ops vs a0 (fun _ => False) a0 := ⟨rfl, rfl, fun _ _ _ _ _ _ h => h.elim, fun _ _ => rfl⟩
theorem Agr.put {vs : List Value} {a0 a : Act} {L : Nat → Prop} (h : Agr ops vs a0 L a) (hok : detOk ops = true) {j : Nat} {p : Oper} {v : Value} (hp : ops[j]? = some p) (hv : vs[j]? = some v) : Agr ops vs a0 (fun i => L i ∨ i = j) (a.put p.dst v) := by
  cases hd : p.dst with
  | none =>
    refine ⟨h.defers, h.size, fun i o d v' ho hod hL hv' hlt => ?_, fun d hn => h.off d fun i o ho hL => hn i o ho (.inl hL)⟩
    rcases hL with hL | rfl
    · exact h.at_ i o d v' ho hod hL hv' hlt
    · rw [ho] at hp; cases hp; rw [hod] at hd; cases hd
  | some e =>
    refine ⟨h.defers, by simp [Act.put, h.size], fun i o d v' ho hod hL hv' hlt => ?_, fun d hn => ?_⟩
    · by_cases hij : i = j
      · subst hij
        rw [ho] at hp; cases hp
        rw [hod] at hd; cases hd
        rw [hv] at hv'; cases hv'
        simp [Act.put, h.size, hlt]
      · have hne := ((detOk_spec hok ho).2.2 j p e hp hij hd).1
        have : e ≠ d := fun he => hne (by rw [he]; exact hod)
        simp only [Act.put]
        rw [Array.getElem?_setIfInBounds_ne this]
        exact h.at_ i o d v' ho hod (by rcases hL with hL | hL; exact hL; exact absurd hL hij) hv' hlt
    · have : e ≠ d := fun he => hn j p hp (.inr rfl) (by rw [← he]; exact hd)
      simp only [Act.put]
      rw [Array.getElem?_setIfInBounds_ne this]
      exact h.off d fun i o ho hL => hn i o ho (.inl hL)
theorem Agr.same {vs : List Value} {a0 a b : Act} {L M : Nat → Prop} (h : Agr ops vs a0 L a) (k : Agr ops vs a0 M b) (hv : vs.length = ops.size) {x : Tmp} (hLM : ∀ j p, ops[j]? = some p → p.dst = some x → (L j ↔ M j)) : a.tmps[x]? = b.tmps[x]? := by
  classical
  by_cases hx : x < a0.tmps.size
  · by_cases hL : ∃ j p, ops[j]? = some p ∧ p.dst = some x ∧ L j
    · obtain ⟨j, p, hp, hd, hl⟩ := hL
      have hj : j < ops.size := (Array.getElem?_eq_some_iff.1 hp).1
      obtain ⟨v, hvj⟩ : ∃ v, vs[j]? = some v := ⟨_, List.getElem?_eq_getElem (by omega)⟩
      rw [h.at_ j p x v hp hd hl hvj hx, k.at_ j p x v hp hd ((hLM j p hp hd).1 hl) hvj hx]
    · rw [h.off x fun i o ho hl he => hL ⟨i, o, ho, he, hl⟩, k.off x fun i o ho hl he => hL ⟨i, o, ho, he, (hLM i o ho he).2 hl⟩]
  · rw [Array.getElem?_eq_none (by rw [h.size]; exact Nat.not_lt.1 hx), Array.getElem?_eq_none (by rw [k.size]; exact Nat.not_lt.1 hx)]
theorem Agr.eq {vs : List Value} {a0 a b : Act} {L M : Nat → Prop} (h : Agr ops vs a0 L a) (k : Agr ops vs a0 M b) (hv : vs.length = ops.size) (hLM : ∀ j, j < ops.size → (L j ↔ M j)) : a = b := by
  obtain ⟨ta, da⟩ := a
  obtain ⟨tb, db⟩ := b
  have h1 : ta = tb := Array.ext_getElem? fun x => h.same k hv (fun j p hp _ => hLM j (Array.getElem?_eq_some_iff.1 hp).1)
  have h2 : da = db := h.defers.trans k.defers.symm
  rw [h1, h2]

/-- The values, and the states ahead of each operation. -/
def runs : List Oper → List Value → Act → Act
  | o :: r, v :: vs, a => runs r vs (a.put o.dst v)
  | _, _, a => a
theorem Det.vals {Z : Act → World → Prop} : ∀ (l : List Oper) (a : Act), Det P ops S Z l a → ∃ vs : List Value, vs.length = l.length ∧
    (∀ i o v, l[i]? = some o → vs[i]? = some v → ComesTo P ops S o v (runs (l.take i) (vs.take i) a)) ∧ ∀ w, S w → Z (runs l vs a) w
  | [], a, h => ⟨[], rfl, fun i o v ho => by simp at ho, h⟩
  | o :: r, a, ⟨v, hc, h⟩ => by
    obtain ⟨vs, hl, hi, hz⟩ := Det.vals r _ h
    refine ⟨v :: vs, by simp [hl], fun i o' v' ho hv => ?_, hz⟩
    cases i with
    | zero => simp at ho hv; subst ho; subst hv; exact hc
    | succ i => simp at ho hv; exact hi i o' v' ho hv
theorem runs_snoc : ∀ (l : List Oper) (vs : List Value) (o : Oper) (v : Value) (a : Act), l.length = vs.length → runs (l ++ [o]) (vs ++ [v]) a = (runs l vs a).put o.dst v
  | [], [], _, _, _, _ => rfl
  | [], _ :: _, _, _, _, h => by simp at h
  | _ :: _, [], _, _, _, h => by simp at h
  | p :: l, u :: vs, o, v, a, h => by
    simp only [List.cons_append, runs]
    exact runs_snoc l vs o v _ (by simpa using h)
theorem agr_runs (hok : detOk ops = true) (vs : List Value) (hv : vs.length = ops.size) (a0 : Act) : ∀ i, i ≤ ops.size → Agr ops vs a0 (fun j => j < i) (runs (ops.toList.take i) (vs.take i) a0)
  | 0, _ => by
    have := Agr.start (ops := ops) vs a0
    simp only [List.take_zero, runs]
    exact ⟨this.defers, this.size, fun i o d v _ _ h => by omega, fun d _ => rfl⟩
  | i + 1, h => by
    have ih := agr_runs hok vs hv a0 i (by omega)
    have ho : ops[i]? = some ops[i] := Array.getElem?_eq_getElem (by omega)
    have hvi : vs[i]? = some vs[i] := List.getElem?_eq_getElem (by omega)
    have h1 := ih.put hok ho hvi
    rw [List.take_succ_eq_append_getElem (by rw [Array.length_toList]; omega), List.take_succ_eq_append_getElem (by omega), runs_snoc _ _ _ _ _ (by simp; omega)]
    have e : (ops.toList[i]'(by rw [Array.length_toList]; omega)) = ops[i] := by simp
    rw [e]
    exact ⟨h1.defers, h1.size, fun j o d v ho hd hl => h1.at_ j o d v ho hd (by omega), fun d hn => h1.off d fun j o ho hl => hn j o ho (by omega)⟩

theorem det_main (hok : detOk ops = true) (vs : List Value) (hv : vs.length = ops.size) (a0 : Act)
    (hi : ∀ i o v, ops[i]? = some o → vs[i]? = some v → ComesTo P ops S o v (runs (ops.toList.take i) (vs.take i) a0)) (hz : ∀ w, S w → Q .normal (runs ops.toList vs a0) w) :
    ∀ (fuel : Nat) (listed : Array Bool) (a : Act) (w : World), listed.size = ops.size → listed.toList.count false ≤ fuel →
      (∀ i o, ops[i]? = some o → listed.getD i false = true → ∀ e ∈ o.after, Region.binds .any e = true → listed.getD e.on false = true) →
      Agr ops vs a0 (fun i => listed.getD i false = true) a → S w → wpAny P .any ops Q fuel listed a w := by
  intro fuel
  have hend : ∀ (listed : Array Bool) (a : Act) (w : World), listed.size = ops.size → Agr ops vs a0 (fun i => listed.getD i false = true) a → S w → (∀ i, i < ops.size → listed.getD i false = true) → Q .normal a w := by
    intro listed a w hsz hag hS hall
    have h1 := agr_runs hok vs hv a0 ops.size (Nat.le_refl _)
    have e1 : ops.toList.take ops.size = ops.toList := List.take_of_length_le (by simp)
    have e2 : vs.take ops.size = vs := List.take_of_length_le (by omega)
    rw [e1, e2] at h1
    rw [hag.eq h1 hv (fun j hj => ⟨fun _ => hj, fun _ => hall j hj⟩)]
    exact hz w hS
  have hready : ∀ (listed : Array Bool), listed.size = ops.size → Region.ready .any ops listed = [] → ∀ i, i < ops.size → listed.getD i false = true := by
    intro listed hsz hr i
    induction i using Nat.strongRecOn with
    | _ i ih =>
      intro hi'
      cases hl : listed.getD i false with
      | true => rfl
      | false =>
        exfalso
        have hm : i ∈ Region.ready .any ops listed := by
          refine mem_ready.2 ⟨?_, ops[i], Array.getElem?_eq_getElem hi', fun e he hb => ih e.on ((detOk_spec hok (Array.getElem?_eq_getElem hi')).1 e he hb) ?_⟩
          · simp [hsz, hi'] at hl ⊢; exact hl
          · have := (detOk_spec hok (Array.getElem?_eq_getElem hi')).1 e he hb; omega
        rw [hr] at hm
        cases hm
  induction fuel with
  | zero =>
    intro listed a w hsz hc hcl hag hS
    have hall : ∀ i, i < ops.size → listed.getD i false = true := fun i hi' => by
      cases hl : listed.getD i false with
      | true => rfl
      | false =>
        exfalso
        have : false ∈ listed.toList := by
          simp [hsz, hi'] at hl
          rw [← hl]; simp
        have := List.count_pos_iff.2 this
        omega
    refine ⟨?_, hend listed a w hsz hag hS hall⟩
    cases hr : Region.ready .any ops listed with
    | nil => rfl
    | cons i r =>
      have hm : i ∈ Region.ready .any ops listed := by rw [hr]; simp
      obtain ⟨hun, o, ho, _⟩ := mem_ready.1 hm
      have hlt := (Array.getElem?_eq_some_iff.1 ho).1
      have := hall i hlt
      simp [hsz, hlt] at this hun
      rw [this] at hun; cases hun
  | succ fuel ih =>
    intro listed a w hsz hc hcl hag hS
    refine ⟨fun hr => hend listed a w hsz hag hS (hready listed hsz hr), fun i him => ?_⟩
    obtain ⟨hun, o, ho, hall⟩ := mem_ready.1 him
    have hlt : i < ops.size := (Array.getElem?_eq_some_iff.1 ho).1
    have hlf : listed.getD i false = false := by simp [hsz, hlt] at hun ⊢; exact hun
    obtain ⟨v, hvi⟩ : ∃ v, vs[i]? = some v := ⟨_, List.getElem?_eq_getElem (by omega)⟩
    have hc0 := hi i o v ho hvi
    have hpre := agr_runs hok vs hv a0 i (by omega)
    obtain ⟨hord, hsel, hdj⟩ := detOk_spec hok ho
    -- what o looks at is the same here and behind the operations ahead of it in the text
    have hlook : ∀ x ∈ o.looksAt ops, a.tmps[x]? = (runs (ops.toList.take i) (vs.take i) a0).tmps[x]? := fun x hx => by
      refine hag.same hpre hv fun j p hp hd => ?_
      by_cases hij : i = j
      · subst hij
        rw [hlf]; simp
      · rcases (hdj j p x hp hij hd).2 hx with hw | hw
        · obtain ⟨e, he, hb⟩ := Array.any_eq_true'.1 hw
          simp only [Bool.and_eq_true, beq_iff_eq] at hb
          have h1 := hall e he hb.1
          have h2 := hord e he hb.1
          rw [hb.2] at h1 h2
          exact ⟨fun _ => h2, fun _ => h1⟩
        · obtain ⟨e, he, hb⟩ := Array.any_eq_true'.1 hw
          simp only [Bool.and_eq_true, beq_iff_eq] at hb
          have h2 := (detOk_spec hok hp).1 e he hb.1
          refine ⟨fun hl => ?_, fun hl => by omega⟩
          have := hcl j p hp hl e he hb.1
          rw [hb.2, hlf] at this; cases this
    have he : execOp a.eval o = execOp (runs (ops.toList.take i) (vs.take i) a0).eval o := by
      refine execOp_congr o hsel fun x hx => ?_
      cases x with
      | tmp t =>
        have ht := hlook t (List.mem_append_left _ (List.mem_filterMap.2 ⟨.tmp t, by simpa using hx, rfl⟩))
        simp only [Act.eval, Array.getD_eq_getD_getElem?, ht]
      | _ => rfl
    have hwn : Region.wanted o (yielded ops a.tmps) = Region.wanted o (yielded ops (runs (ops.toList.take i) (vs.take i) a0).tmps) := by
      unfold Region.wanted
      cases hg : o.guard with
      | none => rfl
      | some gw =>
        obtain ⟨g, want⟩ := gw
        have hy : yielded ops a.tmps g = yielded ops (runs (ops.toList.take i) (vs.take i) a0).tmps g := by
          unfold yielded
          cases ht : (ops[g]?).bind (·.dst) with
          | none => rfl
          | some t =>
            have := hlook t (by simp [Oper.looksAt, hg, ht])
            simp [this]
        simp only [hy]
    have hsz' : a.tmps.size = (runs (ops.toList.take i) (vs.take i) a0).tmps.size := hag.size.trans hpre.size.symm
    have hnext : ∀ w', S w' → wpAny P .any ops Q fuel (listed.setIfInBounds i true) (a.put o.dst v) w' := fun w' hS' => by
      have hset : ∀ j, (listed.setIfInBounds i true).getD j false = true ↔ (listed.getD j false = true ∨ j = i) := fun j => by
        by_cases hji : j = i
        · subst hji; simp [hsz, hlt]
        · have : i ≠ j := fun e => hji e.symm
          simp only [Array.getD_eq_getD_getElem?, Array.getElem?_setIfInBounds_ne this]
          simp [hji]
      refine ih _ _ _ (by simp [hsz]) ?_ ?_ ?_ hS'
      · have h1 : listed.toList[i]'(by simpa [hsz] using hlt) = false := by
          simp [hsz, hlt] at hlf; simpa using hlf
        rw [Array.toList_setIfInBounds, List.count, List.countP_set (by simpa [hsz] using hlt)]
        rw [List.count] at hc
        simp only [h1]
        have hpos : 0 < listed.toList.countP (· == false) := List.countP_pos_iff.2 ⟨false, by rw [← h1]; simp, rfl⟩
        simp only [beq_self_eq_true, if_true]
        have e1 : (true == false) = false := rfl
        rw [e1]
        simp only [Bool.false_eq_true, if_false]
        omega
      · intro j p hp hl e he hb
        rcases (hset j).1 hl with hl | rfl
        · exact (hset _).2 (.inl (hcl j p hp hl e he hb))
        · rw [ho] at hp; cases hp
          exact (hset _).2 (.inl (hall e he hb))
      · have h1 := hag.put hok ho hvi
        exact ⟨h1.defers, h1.size, fun j p d v' hp hd hl => h1.at_ j p d v' hp hd ((hset j).1 hl), fun d hn => h1.off d fun j p hp hl => hn j p hp ((hset j).2 hl)⟩
    unfold wpOp
    simp only [ho]
    rcases hc0 with ⟨hw, hf⟩ | ⟨hw, rfl⟩
    · rw [hwn, hw, if_pos rfl]
      exact .inl (ComesTo.wp hf he hsz' hS hnext)
    · rw [hwn, hw]
      exact hnext w hS

/-- THE LAW. -/
theorem wp_region_det {id : Nat} {a : Act} {w : World} (hm : P.follows .mixedOrders = true) (hok : detOk ops = true) (hS : S w.drew)
    (h : Det P ops S (Q .normal) ops.toList a) : (Code.region id ops true).wp P Q a w := by
  obtain ⟨vs, hl, hi, hz⟩ := Det.vals _ _ h
  have hf : ∀ i, ¬ (Array.replicate ops.size false).getD i false = true := fun i hi => by
    by_cases h : i < ops.size <;> simp [h] at hi
  refine wp_region_any hm (det_main hok vs (by simpa using hl) a (fun i o v ho hv => hi i o v (by simpa using ho) hv) hz ops.size _ a _ (by simp) (by simp) ?_ ?_ hS)
  · intro i o _ hl
    exact absurd hl (hf i)
  · have := Agr.start (ops := ops) vs a
    exact ⟨this.defers, this.size, fun i o d v _ _ h => absurd h (hf i), fun d _ => rfl⟩
theorem Det.read {Z : Act → World → Prop} {o : Oper} {r : List Oper} {a : Act} {v : Value} (hw : Region.wanted o (yielded ops a.tmps) = true) (hv : ∀ w, S w → (execOp a.eval o).run P w = .ok (.value v) w) (h : Det P ops S Z r (a.put o.dst v)) : Det P ops S Z (o :: r) a :=
  ⟨v, .inl ⟨hw, fun w hS K hK => by unfold Oper.wp; rw [hv w hS]; exact hK _ _ hS rfl⟩, h⟩
theorem Det.skip {Z : Act → World → Prop} {o : Oper} {r : List Oper} {a : Act} (hw : Region.wanted o (yielded ops a.tmps) = false) (h : Det P ops S Z r (a.put o.dst undef)) : Det P ops S Z (o :: r) a :=
  ⟨undef, .inr ⟨hw, rfl⟩, h⟩
theorem Det.step {Z : Act → World → Prop} {o : Oper} {r : List Oper} {a : Act} (v : Value) (hw : Region.wanted o (yielded ops a.tmps) = true) (hv : ∀ w, S w → ∀ K : Act → World → Prop, Shut (∀ a' w', S w' → a' = a.put o.dst v → K a' w') → Oper.wp P o a w K NoExit) (h : Det P ops S Z r (a.put o.dst v)) : Det P ops S Z (o :: r) a :=
  ⟨v, .inl ⟨hw, hv⟩, h⟩
theorem Det.done {Z : Act → World → Prop} {a : Act} (h : ∀ w, S w → Z a w) : Det P ops S Z [] a := h
end
end Go.Proofs.YtjmkodkechahdaaGreatDoor
