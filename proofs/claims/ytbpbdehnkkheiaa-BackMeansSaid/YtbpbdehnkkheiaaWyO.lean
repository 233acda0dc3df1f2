/- What is known of the boxes while profile.Meet and profile.Join run. -/
import Derived.Test.YtbpbdehnkkheiaaWyN
import Derived.Deep.RegionHeld3
import Derived.Deep.DrawnRows
import Derived.Deep.CutBlock
namespace Go.Proofs.Ytbpbdehnkkheiaa
open Go.RowKit

/-- Four boxes from block z on: the profiles p and q, the result, and what is made of them, m. -/
structure MS (p q : Prof) (A B : Option Addr) (c d z : Nat) (W : World) (m : Prof) (A' : Option Addr) (c' : Nat) (w : World) : Prop where
  rp : w.rangeAt z 0 (p.cs A c).toList
  rq : w.rangeAt (z + 1) 0 (q.cs B d).toList
  tr : w.there (z + 2) 0 22
  to_ : w.there (z + 3) 0 22
  ro : w.rangeAt (z + 3) 0 (m.cs A' c').toList
  bl : Below z W w
  sz : z + 4 ≤ w.heap.size
theorem range_far {w : World} {b b' j : Nat} {cs : List Value} {v : Value} (h : w.rangeAt b 0 cs) (hne : b ≠ b') : (w.setCell ⟨b', j, none⟩ v).rangeAt b 0 cs := fun i x hx => by
  rw [World.cell?_setCell_other]
  · exact h i x hx
  · intro e
    injection e with e1
    exact hne e1.symm
theorem there_set {w : World} {b b' n j : Nat} {v : Value} (h : w.there b 0 n) : (w.setCell ⟨b', j, none⟩ v).there b 0 n := World.there_setCells (vs := [v]) h b' j
section
variable {p q m m' : Prof} {A B A' A'' : Option Addr} {c d z c' c'' : Nat} {W w w' : World}
theorem MS.set (h : MS p q A B c d z W m A' c' w) (k : Nat) (v : Value) (hk : k < 22) (hm : (m'.cs A'' c'').toList = (m.cs A' c').toList.set k v) : MS p q A B c d z W m' A'' c'' (w.setCell ⟨z + 3, k, none⟩ v) := by
  have hl : (m.cs A' c').toList[k]? = some ((m.cs A' c').toList[k]'hk) := List.getElem?_eq_getElem hk
  exact ⟨range_far h.rp (by omega), range_far h.rq (by omega), there_set h.tr, there_set h.to_, hm ▸ range_set h.ro k v _ hl, h.bl.setCell (by simp only; omega) _, by simpa using h.sz⟩
theorem MS.set1 (h : MS p q A B c d z W m A' c' w) (n : Int) : MS p q A B c d z W { m with edit := n } A' c' (w.setCell ⟨z + 3, 1, none⟩ (.int .i64 n)) := h.set 1 _ (by decide) rfl
theorem MS.set2 (h : MS p q A B c d z W m A' c' w) (n : Int) : MS p q A B c d z W { m with within_ := n } A' c' (w.setCell ⟨z + 3, 2, none⟩ (.int .i64 n)) := h.set 2 _ (by decide) rfl
theorem MS.set3 (h : MS p q A B c d z W m A' c' w) (n : Int) : MS p q A B c d z W { m with delete := n } A' c' (w.setCell ⟨z + 3, 3, none⟩ (.int .i64 n)) := h.set 3 _ (by decide) rfl
theorem MS.set4 (h : MS p q A B c d z W m A' c' w) (n : Bool) : MS p q A B c d z W { m with react := n } A' c' (w.setCell ⟨z + 3, 4, none⟩ (.bool n)) := h.set 4 _ (by decide) rfl
theorem MS.set5 (h : MS p q A B c d z W m A' c' w) (n : Int) : MS p q A B c d z W { m with thread := n } A' c' (w.setCell ⟨z + 3, 5, none⟩ (.int .i64 n)) := h.set 5 _ (by decide) rfl
theorem MS.set6 (h : MS p q A B c d z W m A' c' w) (n : Bool) : MS p q A B c d z W { m with quote := n } A' c' (w.setCell ⟨z + 3, 6, none⟩ (.bool n)) := h.set 6 _ (by decide) rfl
theorem MS.set7 (h : MS p q A B c d z W m A' c' w) (n : Bool) : MS p q A B c d z W { m with mention := n } A' c' (w.setCell ⟨z + 3, 7, none⟩ (.bool n)) := h.set 7 _ (by decide) rfl
theorem MS.set8 (h : MS p q A B c d z W m A' c' w) (n : Int) : MS p q A B c d z W { m with size := n } A' c' (w.setCell ⟨z + 3, 8, none⟩ (.int .i64 n)) := h.set 8 _ (by decide) rfl
theorem MS.set9 (h : MS p q A B c d z W m A' c' w) (n : Int) : MS p q A B c d z W { m with parts := n } A' c' (w.setCell ⟨z + 3, 9, none⟩ (.int .i64 n)) := h.set 9 _ (by decide) rfl
theorem MS.set10 (h : MS p q A B c d z W m A' c' w) (n : Int) : MS p q A B c d z W { m with files := n } A' c' (w.setCell ⟨z + 3, 10, none⟩ (.int .i64 n)) := h.set 10 _ (by decide) rfl
theorem MS.set11 (h : MS p q A B c d z W m A' c' w) (n : Int) : MS p q A B c d z W { m with bytes := n } A' c' (w.setCell ⟨z + 3, 11, none⟩ (.int .i64 n)) := h.set 11 _ (by decide) rfl
theorem MS.set13 (h : MS p q A B c d z W m A' c' w) (n : Int) : MS p q A B c d z W { m with join := n } A' c' (w.setCell ⟨z + 3, 13, none⟩ (.int .i64 n)) := h.set 13 _ (by decide) rfl
theorem MS.set14 (h : MS p q A B c d z W m A' c' w) (n : Int) : MS p q A B c d z W { m with history := n } A' c' (w.setCell ⟨z + 3, 14, none⟩ (.int .i64 n)) := h.set 14 _ (by decide) rfl
theorem MS.set15 (h : MS p q A B c d z W m A' c' w) (n : Int) : MS p q A B c d z W { m with remove := n } A' c' (w.setCell ⟨z + 3, 15, none⟩ (.int .i64 n)) := h.set 15 _ (by decide) rfl
theorem MS.set16 (h : MS p q A B c d z W m A' c' w) (n : Int) : MS p q A B c d z W { m with level := n } A' c' (w.setCell ⟨z + 3, 16, none⟩ (.int .i64 n)) := h.set 16 _ (by decide) rfl
theorem MS.set17 (h : MS p q A B c d z W m A' c' w) (n : Bool) : MS p q A B c d z W { m with batch := n } A' c' (w.setCell ⟨z + 3, 17, none⟩ (.bool n)) := h.set 17 _ (by decide) rfl
theorem MS.set18 (h : MS p q A B c d z W m A' c' w) (n : Int) : MS p q A B c d z W { m with rate := n } A' c' (w.setCell ⟨z + 3, 18, none⟩ (.int .i64 n)) := h.set 18 _ (by decide) rfl
theorem MS.set19 (h : MS p q A B c d z W m A' c' w) (n : Int) : MS p q A B c d z W { m with down := n } A' c' (w.setCell ⟨z + 3, 19, none⟩ (.int .i64 n)) := h.set 19 _ (by decide) rfl
theorem MS.set20 (h : MS p q A B c d z W m A' c' w) (n : Int) : MS p q A B c d z W { m with window := n } A' c' (w.setCell ⟨z + 3, 20, none⟩ (.int .i64 n)) := h.set 20 _ (by decide) rfl
theorem MS.set21 (h : MS p q A B c d z W m A' c' w) (n : Int) : MS p q A B c d z W { m with keep := n } A' c' (w.setCell ⟨z + 3, 21, none⟩ (.int .i64 n)) := h.set 21 _ (by decide) rfl
theorem MS.below (h : MS p q A B c d z W m A' c' w) (hb : Below (z + 4) w w') : MS p q A B c d z W m A' c' w' :=
  ⟨range_below h.rp hb (by omega), range_below h.rq hb (by omega), there_below h.tr hb (by omega), there_below h.to_ hb (by omega), range_below h.ro hb (by omega), h.bl.trans (hb.mono (by omega)), Nat.le_trans h.sz hb.size⟩
theorem MS.later (h : MS p q A B c d z W m A' c' w) (hb : Below w.heap.size w w') : MS p q A B c d z W m A' c' w' := h.below (hb.mono h.sz)
theorem MS.cp (h : MS p q A B c d z W m A' c' w) (j : Nat) (v : Value) (hj : (p.cs A c)[j]? = some v) : w.cell? ⟨z, j, none⟩ = some v := range_cell h.rp j v (by rw [← hj]; simp)
theorem MS.cq (h : MS p q A B c d z W m A' c' w) (j : Nat) (v : Value) (hj : (q.cs B d)[j]? = some v) : w.cell? ⟨z + 1, j, none⟩ = some v := range_cell h.rq j v (by rw [← hj]; simp)
theorem MS.co (h : MS p q A B c d z W m A' c' w) (j : Nat) (v : Value) (hj : (m.cs A' c')[j]? = some v) : w.cell? ⟨z + 3, j, none⟩ = some v := range_cell h.ro j v (by rw [← hj]; simp)
theorem MS.fo (h : MS p q A B c d z W m A' c' w) (j : Nat) (hj : j < 22) : w.frozen? ⟨z + 3, j, none⟩ = false := there_free h.to_ j hj
end
/-- The numbers and the truth values of what is made are whatever they are. -/
def MX (p q : Prof) (A B : Option Addr) (c d z : Nat) (W w : World) : Prop := ∃ m, MS p q A B c d z W m A c w ∧ m.name = p.name ∧ m.types = p.types
theorem MX.later {p q : Prof} {A B : Option Addr} {c d z : Nat} {W w w' : World} (h : MX p q A B c d z W w) (hb : Below w.heap.size w w') : MX p q A B c d z W w' := by
  obtain ⟨m, hm, h1, h2⟩ := h
  exact ⟨m, hm.later hb, h1, h2⟩
theorem normal_gen {Q : Exit → Act → World → Prop} {a : Act} {w : World} {M : World → Prop} (hM : M w) (h : ∀ x, M x → Q .normal a x) : Q .normal a w := h w hM
theorem startMS (p q : Prof) (A B : Option Addr) (c d : Nat) (w w2 : World)
    (hrg : w2.rangeAt (w.heap.size + 1 + 1 + 1) 0 (p.cs A c).toList) (hth : w2.there (w.heap.size + 1 + 1 + 1) 0 22)
    (hg : ((((w.alloc (.cells (p.cs A c) 24)).alloc (.cells (q.cs B d) 24)).alloc (.cells (zeroP.cs none 0) 24)).alloc (.cells (zeroP.cs none 0) 24)).grownBy w2 (some (w.heap.size + 1 + 1 + 1))) : MS p q A B c d w.heap.size w p A c w2 := by
  have hb : Below (w.heap.size + 3) ((((w.alloc (.cells (p.cs A c) 24)).alloc (.cells (q.cs B d) 24)).alloc (.cells (zeroP.cs none 0) 24)).alloc (.cells (zeroP.cs none 0) 24)) w2 := (Below.refl _ _).grown hg (by first | omega | (simp; done) | (simp; omega)) (fun k hk => by cases hk; omega)
  refine ⟨range_below (boxRange _ _ _ ((((Below.refl _ _).alloc (by first | omega | (simp; done) | (simp; omega)) _).alloc (by first | omega | (simp; done) | (simp; omega)) _).alloc (by first | omega | (simp; done) | (simp; omega)) _)) hb (by omega), range_below (b := w.heap.size + 1) ?_ hb (by omega), there_below (boxThere _ _ _ ((Below.refl _ _).alloc (by first | omega | (simp; done) | (simp; omega)) _) (w.heap.size + 2) (by first | omega | (simp; done) | (simp; omega)) 22 rfl) hb (by omega), hth, hrg, ?_, ?_⟩
  · have := boxRange (w.alloc (.cells (p.cs A c) 24)) (q.cs B d) 24 (((Below.refl _ _).alloc (by first | omega | (simp; done) | (simp; omega)) (.cells (zeroP.cs none 0) 24)).alloc (by first | omega | (simp; done) | (simp; omega)) (.cells (zeroP.cs none 0) 24))
    simpa using this
  · exact (((((Below.refl _ _).alloc (by first | omega | (simp; done) | (simp; omega)) _).alloc (by first | omega | (simp; done) | (simp; omega)) _).alloc (by first | omega | (simp; done) | (simp; omega)) _).alloc (by first | omega | (simp; done) | (simp; omega)) _).trans (hb.mono (by omega))
  · have := hg.size
    simp at this
    omega
/-- A profile that was made. -/
def ProfOut (w : World) (e : Ending) (w' : World) : Prop := Below w.heap.size w w' ∧ ∃ (m : Prof) (A : Option Addr) (c : Nat), e = .returned (m.v A c) ∧ ProfOk w' w'.heap.size A m ∧ m.types.length ≤ c ∧ m.types.length ≤ 24

theorem own_far {T : Type} {sz : Nat} {enc : T → List Value} {e : TypeId} {base b : Nat} {w : World} {A' : Option Addr} {c' : Nat} {xs : List T} (h : OwnL w base e sz enc A' c' xs) (hb : b < base) : (Value.slice A' xs.length c').ownBlock = none ∨ (Value.slice A' xs.length c').ownBlock ≠ some b := by
  rcases ho : (Value.slice A' xs.length c').ownBlock with _ | g
  · exact .inl rfl
  · refine .inr (fun e => ?_)
    injection e with e
    have := (h.blk g ho).1
    omega
/-- .. and its types are the call's own. -/
def MT (p q : Prof) (A B : Option Addr) (c d z : Nat) (W : World) (k : Nat) (w : World) : Prop := ∃ m A' c', MS p q A B c d z W m A' c' w ∧ m.name = p.name ∧ OwnS w (z + 4) A' c' m.types ∧ (∀ s ∈ m.types, s.size ≤ 9223372036854775807) ∧ m.types.length ≤ k
section
variable {p q : Prof} {A B : Option Addr} {c d z k k' : Nat} {W w w' : World}
theorem MT.mono (h : MT p q A B c d z W k w) (hk : k ≤ k') : MT p q A B c d z W k' w := by
  obtain ⟨m, A', c', h1, h2, h3, h4, h5⟩ := h
  exact ⟨m, A', c', h1, h2, h3, h4, by omega⟩
theorem MT.bl (h : MT p q A B c d z W k w) : Below z W w := by obtain ⟨m, A', c', h1, _⟩ := h; exact h1.bl
theorem MT.later (h : MT p q A B c d z W k w) (hb : Below w.heap.size w w') : MT p q A B c d z W k w' := by
  obtain ⟨m, A', c', h1, h2, h3, h4, h5⟩ := h
  exact ⟨m, A', c', h1.later hb, h2, h3.below hb, h4, h5⟩
theorem own_set {T : Type} {sz : Nat} {enc : T → List Value} {e : TypeId} {base b j : Nat} {v : Value} {A' : Option Addr} {c' : Nat} {xs : List T} (h : OwnL w base e sz enc A' c' xs) (hb : b < base) : OwnL (w.setCell ⟨b, j, none⟩ v) base e sz enc A' c' xs :=
  h.kept (grown_setCells w b j [v]) (by
    rcases ho : (Value.slice A' xs.length c').ownBlock with _ | g
    · exact .inl rfl
    · refine .inr (fun e => ?_)
      injection e with e
      have := (h.blk g ho).1
      omega)
theorem MX.start (h : MX p q A B c d z W w) : MT p q A B c d z W 0 (w.setCell ⟨z + 3, 12, none⟩ (.slice none 0 0)) := by
  obtain ⟨m, h1, h2, _⟩ := h
  exact ⟨{ m with types := [] }, none, 0, h1.set 12 _ (by decide) rfl, h2, OwnL.nil_, by simp, Nat.le_refl _⟩
theorem MT.clear (h : MT p q A B c d z W k w) : MT p q A B c d z W k (w.setCell ⟨z + 3, 12, none⟩ (.slice none 0 0)) := by
  obtain ⟨m, A', c', h1, h2, _⟩ := h
  exact ⟨{ m with types := [] }, none, 0, h1.set 12 _ (by decide) rfl, h2, OwnL.nil_, by simp, Nat.zero_le _⟩
theorem MT.push {m : Prof} {A' A'' : Option Addr} {c' c'' n : Nat} {s : ByteArray} (h1 : MS p q A B c d z W m A' c' w) (h2 : m.name = p.name) (h3 : OwnS w (z + 4) A'' c'' (m.types ++ [s])) (h4 : ∀ s ∈ m.types, s.size ≤ 9223372036854775807) (h5 : m.types.length ≤ k) (hs : s.size ≤ 9223372036854775807) (hn : n = m.types.length + 1) :
    MT p q A B c d z W (k + 1) (w.setCell ⟨z + 3, 12, none⟩ (.slice A'' n c'')) := by
  subst hn
  refine ⟨{ m with types := m.types ++ [s] }, A'', c'', h1.set 12 _ (by decide) (by simp), h2, own_set h3 (by omega), fun x hx => ?_, by simp; omega⟩
  rcases List.mem_append.1 hx with hx | hx
  · exact h4 x hx
  · simp only [List.mem_singleton] at hx
    subst hx
    exact hs
theorem OwnL.len_cap {T : Type} {sz : Nat} {enc : T → List Value} {e : TypeId} {base : Nat} {A' : Option Addr} {c' : Nat} {xs : List T} (h : OwnL w base e sz enc A' c' xs) : xs.length ≤ c' := by
  rcases h.2 with ⟨hv, hn⟩ | ⟨g, cap, cur, hv, _, _, hnc, _⟩
  · omega
  · injection hv with _ _ e3
    subst e3
    exact hnc
theorem MT.set2 (h : MT p q A B c d z W k w) (n : Int) : MT p q A B c d z W k (w.setCell ⟨z + 3, 2, none⟩ (.int .i64 n)) := by
  obtain ⟨m, A', c', h1, h2, h3, h4, h5⟩ := h
  exact ⟨_, A', c', h1.set2 n, h2, own_set h3 (by omega), h4, h5⟩
theorem MT.set10 (h : MT p q A B c d z W k w) (n : Int) : MT p q A B c d z W k (w.setCell ⟨z + 3, 10, none⟩ (.int .i64 n)) := by
  obtain ⟨m, A', c', h1, h2, h3, h4, h5⟩ := h
  exact ⟨_, A', c', h1.set10 n, h2, own_set h3 (by omega), h4, h5⟩
theorem MT.set11 (h : MT p q A B c d z W k w) (n : Int) : MT p q A B c d z W k (w.setCell ⟨z + 3, 11, none⟩ (.int .i64 n)) := by
  obtain ⟨m, A', c', h1, h2, h3, h4, h5⟩ := h
  exact ⟨_, A', c', h1.set11 n, h2, own_set h3 (by omega), h4, h5⟩
end

end Go.Proofs.Ytbpbdehnkkheiaa
