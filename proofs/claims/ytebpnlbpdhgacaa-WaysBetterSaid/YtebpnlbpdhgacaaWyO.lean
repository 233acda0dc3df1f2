/- What is known of the boxes while profile.Meet and profile.Join run. -/
import Derived.Test.YtebpnlbpdhgacaaWyN
import Derived.Deep.RegionHeld3
import Derived.Deep.DrawnRows
import Derived.Deep.CutBlock
namespace Go.Proofs.Ytebpnlbpdhgacaa
open Go.RowKit

/-- Four boxes from block z on: the profiles p and q, the result, and what is made of them, m. -/
structure MS (p q : Prof) (A B : Option Addr) (c d z : Nat) (W : World) (m : Prof) (A' : Option Addr) (c' : Nat) (w : World) : Prop where
  rp : w.rangeAt z 0 (p.cs A c).toList
  rq : w.rangeAt (z + 1) 0 (q.cs B d).toList
  tr : w.there (z + 2) 0 22
  to_ : w.there (z + 3) 0 22
  ro : w.rangeAt (z + 3) 0 (m.cs A' c').toList
  bl : Below z W w
  sz : z + 4 ≤ w.heap.size
theorem range_far {w : World} {b b' j : Nat} {cs : List Value} {v : Value} (h : w.rangeAt b 0 cs) (hne : b ≠ b') : (w.setCell ⟨b', j, none⟩ v).rangeAt b 0 cs := fun i x hx => by
  rw [World.cell?_setCell_other]
  · exact h i x hx
  · intro e
    injection e with e1
    exact hne e1.symm
theorem there_set {w : World} {b b' n j : Nat} {v : Value} (h : w.there b 0 n) : (w.setCell ⟨b', j, none⟩ v).there b 0 n := World.there_setCells (vs := [v]) h b' j
section
variable {p q m m' : Prof} {A B A' A'' : Option Addr} {c d z c' c'' : Nat} {W w w' : World}
theorem MS.set (h : MS p q A B c d z W m A' c' w) (k : Nat) (v : Value) (hk : k < 22) (hm : (m'.cs A'' c'').toList = (m.cs A' c').toList.set k v) : MS p q A B c d z W m' A'' c'' (w.setCell ⟨z + 3, k, none⟩ v) := by
  have hl : (m.cs A' c').toList[k]? = some ((m.cs A' c').toList[k]'hk) := List.getElem?_eq_getElem hk
  exact ⟨range_far h.rp (by omega), range_far h.rq (by omega), there_set h.tr, there_set h.to_, hm ▸ range_set h.ro k v _ hl, h.bl.setCell (by simp only; omega) _, by simpa using h.sz⟩
theorem MS.set1 (h : MS p q A B c d z W m A' c' w) (n : Int) : MS p q A B c d z W { m with edit := n } A' c' (w.setCell ⟨z + 3, 1, none⟩ (.int .i64 n)) := h.set 1 _ (by decide) rfl
theorem MS.set2 (h : MS p q A B c d z W m A' c' w) (n : Int) : MS p q A B c d z W { m with within_ := n } A' c' (w.setCell ⟨z + 3, 2, none⟩ (.int .i64 n)) := h.set 2 _ (by decide) rfl
theorem MS.set3 (h : MS p q A B c d z W m A' c' w) (n : Int) : MS p q A B c d z W { m with delete := n } A' c' (w.setCell ⟨z + 3, 3, none⟩ (.int .i64 n)) := h.set 3 _ (by decide) rfl
theorem MS.set4 (h : MS p q A B c d z W m A' c' w) (n : Bool) : MS p q A B c d z W { m with react := n } A' c' (w.setCell ⟨z + 3, 4, none⟩ (.bool n)) := h.set 4 _ (by decide) rfl
theorem MS.set5 (h : MS p q A B c d z W m A' c' w) (n : Int) : MS p q A B c d z W { m with thread := n } A' c' (w.setCell ⟨z + 3, 5, none⟩ (.int .i64 n)) := h.set 5 _ (by decide) rfl
theorem MS.set6 (h : MS p q A B c d z W m A' c' w) (n : Bool) : MS p q A B c d z W { m with quote := n } A' c' (w.setCell ⟨z + 3, 6, none⟩ (.bool n)) := h.set 6 _ (by decide) rfl
theorem MS.set7 (h : MS p q A B c d z W m A' c' w) (n : Bool) : MS p q A B c d z W { m with mention := n } A' c' (w.setCell ⟨z + 3, 7, none⟩ (.bool n)) := h.set 7 _ (by decide) rfl
theorem MS.set8 (h : MS p q A B c d z W m A' c' w) (n : Int) : MS p q A B c d z W { m with size := n } A' c' (w.setCell ⟨z + 3, 8, none⟩ (.int .i64 n)) := h.set 8 _ (by decide) rfl
theorem MS.set9 (h : MS p q A B c d z W m A' c' w) (n : Int) : MS p q A B c d z W { m with parts := n } A' c' (w.setCell ⟨z + 3, 9, none⟩ (.int .i64 n)) := h.set 9 _ (by decide) rfl
theorem MS.set10 (h : MS p q A B c d z W m A' c' w) (n : Int) : MS p q A B c d z W { m with files := n } A' c' (w.setCell ⟨z + 3, 10, none⟩ (.int .i64 n)) := h.set 10 _ (by decide) rfl
theorem MS.set11 (h : MS p q A B c d z W m A' c' w) (n : Int) : MS p q A B c d z W { m with bytes := n } A' c' (w.setCell ⟨z + 3, 11, none⟩ (.int .i64 n)) := h.set 11 _ (by decide) rfl
theorem MS.set13 (h : MS p q A B c d z W m A' c' w) (n : Int) : MS p q A B c d z W { m with join := n } A' c' (w.setCell ⟨z + 3, 13, none⟩ (.int .i64 n)) := h.set 13 _ (by decide) rfl
theorem MS.set14 (h : MS p q A B c d z W m A' c' w) (n : Int) : MS p q A B c d z W { m with history := n } A' c' (w.setCell ⟨z + 3, 14, none⟩ (.int .i64 n)) := h.set 14 _ (by decide) rfl
theorem MS.set15 (h : MS p q A B c d z W m A' c' w) (n : Int) : MS p q A B c d z W { m with remove := n } A' c' (w.setCell ⟨z + 3, 15, none⟩ (.int .i64 n)) := h.set 15 _ (by decide) rfl
theorem MS.set16 (h : MS p q A B c d z W m A' c' w) (n : Int) : MS p q A B c d z W { m with level := n } A' c' (w.setCell ⟨z + 3, 16, none⟩ (.int .i64 n)) := h.set 16 _ (by decide) rfl
theorem MS.set17 (h : MS p q A B c d z W m A' c' w) (n : Bool) : MS p q A B c d z W { m with batch := n } A' c' (w.setCell ⟨z + 3, 17, none⟩ (.bool n)) := h.set 17 _ (by decide) rfl
theorem MS.set18 (h : MS p q A B c d z W m A' c' w) (n : Int) : MS p q A B c d z W { m with rate := n } A' c' (w.setCell ⟨z + 3, 18, none⟩ (.int .i64 n)) := h.set 18 _ (by decide) rfl
theorem MS.set19 (h : MS p q A B c d z W m A' c' w) (n : Int) : MS p q A B c d z W { m with down := n } A' c' (w.setCell ⟨z + 3, 19, none⟩ (.int .i64 n)) := h.set 19 _ (by decide) rfl
theorem MS.set20 (h : MS p q A B c d z W m A' c' w) (n : Int) : MS p q A B c d z W { m with window := n } A' c' (w.setCell ⟨z + 3, 20, none⟩ (.int .i64 n)) := h.set 20 _ (by decide) rfl
theorem MS.set21 (h : MS p q A B c d z W m A' c' w) (n : Int) : MS p q A B c d z W { m with keep := n } A' c' (w.setCell ⟨z + 3, 21, none⟩ (.int .i64 n)) := h.set 21 _ (by decide) rfl
theorem MS.below (h : MS p q A B c d z W m A' c' w) (hb : Below (z + 4) w w') : MS p q A B c d z W m A' c' w' :=
  ⟨range_below h.rp hb (by omega), range_below h.rq hb (by omega), there_below h.tr hb (by omega), there_below h.to_ hb (by omega), range_below h.ro hb (by omega), h.bl.trans (hb.mono (by omega)), Nat.le_trans h.sz hb.size⟩
theorem MS.later (h : MS p q A B c d z W m A' c' w) (hb : Below w.heap.size w w') : MS p q A B c d z W m A' c' w' := h.below (hb.mono h.sz)
theorem MS.cp (h : MS p q A B c d z W m A' c' w) (j : Nat) (v : Value) (hj : (p.cs A c)[j]? = some v) : w.cell? ⟨z, j, none⟩ = some v := range_cell h.rp j v (by rw [← hj]; simp)
theorem MS.cq (h : MS p q A B c d z W m A' c' w) (j : Nat) (v : Value) (hj : (q.cs B d)[j]? = some v) : w.cell? ⟨z + 1, j, none⟩ = some v := range_cell h.rq j v (by rw [← hj]; simp)
theorem MS.co (h : MS p q A B c d z W m A' c' w) (j : Nat) (v : Value) (hj : (m.cs A' c')[j]? = some v) : w.cell? ⟨z + 3, j, none⟩ = some v := range_cell h.ro j v (by rw [← hj]; simp)
theorem MS.fo (h : MS p q A B c d z W m A' c' w) (j : Nat) (hj : j < 22) : w.frozen? ⟨z + 3, j, none⟩ = false := there_free h.to_ j hj
end
/-- The numbers and the truth values of what is made are whatever they are. -/
def MX (p q : Prof) (A B : Option Addr) (c d z : Nat) (W w : World) : Prop := ∃ m, MS p q A B c d z W m A c w ∧ m.name = p.name ∧ m.types = p.types
theorem MX.later {p q : Prof} {A B : Option Addr} {c d z : Nat} {W w w' : World} (h : MX p q A B c d z W w) (hb : Below w.heap.size w w') : MX p q A B c d z W w' := by
  obtain ⟨m, hm, h1, h2⟩ := h
  exact ⟨m, hm.later hb, h1, h2⟩
theorem normal_gen {Q : Exit → Act → World → Prop} {a : Act} {w : World} {M : World → Prop} (hM : M w) (h : ∀ x, M x → Q .normal a x) : Q .normal a w := h w hM
theorem startMS (p q : Prof) (A B : Option Addr) (c d : Nat) (w w2 : World)
    (hrg : w2.rangeAt (w.heap.size + 1 + 1 + 1) 0 (p.cs A c).toList) (hth : w2.there (w.heap.size + 1 + 1 + 1) 0 22)
    (hg : ((((w.alloc (.cells (p.cs A c) 24)).alloc (.cells (q.cs B d) 24)).alloc (.cells (zeroP.cs none 0) 24)).alloc (.cells (zeroP.cs none 0) 24)).grownBy w2 (some (w.heap.size + 1 + 1 + 1))) : MS p q A B c d w.heap.size w p A c w2 := by
  have hb : Below (w.heap.size + 3) ((((w.alloc (.cells (p.cs A c) 24)).alloc (.cells (q.cs B d) 24)).alloc (.cells (zeroP.cs none 0) 24)).alloc (.cells (zeroP.cs none 0) 24)) w2 := (Below.refl _ _).grown hg (by first | omega | (simp; done) | (simp; omega)) (fun k hk => by cases hk; omega)
  refine ⟨range_below (boxRange _ _ _ ((((Below.refl _ _).alloc (by first | omega | (simp; done) | (simp; omega)) _).alloc (by first | omega | (simp; done) | (simp; omega)) _).alloc (by first | omega | (simp; done) | (simp; omega)) _)) hb (by omega), range_below (b := w.heap.size + 1) ?_ hb (by omega), there_below (boxThere _ _ _ ((Below.refl _ _).alloc (by first | omega | (simp; done) | (simp; omega)) _) (w.heap.size + 2) (by first | omega | (simp; done) | (simp; omega)) 22 rfl) hb (by omega), hth, hrg, ?_, ?_⟩
  · have := boxRange (w.alloc (.cells (p.cs A c) 24)) (q.cs B d) 24 (((Below.refl _ _).alloc (by first | omega | (simp; done) | (simp; omega)) (.cells (zeroP.cs none 0) 24)).alloc (by first | omega | (simp; done) | (simp; omega)) (.cells (zeroP.cs none 0) 24))
    simpa using this
  · exact (((((Below.refl _ _).alloc (by first | omega | (simp; done) | (simp; omega)) _).alloc (by first | omega | (simp; done) | (simp; omega)) _).alloc (by first | omega | (simp; done) | (simp; omega)) _).alloc (by first | omega | (simp; done) | (simp; omega)) _).trans (hb.mono (by omega))
  · have := hg.size
    simp at this
    omega
/-- A profile that was made. -/
def ProfOut (w : World) (e : Ending) (w' : World) : Prop := Below w.heap.size w w' ∧ ∃ (m : Prof) (A : Option Addr) (c : Nat), e = .returned (m.v A c) ∧ ProfOk w' w'.heap.size A m ∧ m.types.length ≤ c ∧ m.types.length ≤ 24

theorem own_far {T : Type} {sz : Nat} {enc : T → List Value} {e : TypeId} {base b : Nat} {w : World} {A' : Option Addr} {c' : Nat} {xs : List T} (h : OwnL w base e sz enc A' c' xs) (hb : b < base) : (Value.slice A' xs.length c').ownBlock = none ∨ (Value.slice A' xs.length c').ownBlock ≠ some b := by
  rcases ho : (Value.slice A' xs.length c').ownBlock with _ | g
  · exact .inl rfl
  · refine .inr (fun e => ?_)
    injection e with e
    have := (h.blk g ho).1
    omega
/-- .. and its types are the call's own. -/
def MT (p q : Prof) (A B : Option Addr) (c d z : Nat) (W : World) (k : Nat) (w : World) : Prop := ∃ m A' c', MS p q A B c d z W m A' c' w ∧ m.name = p.name ∧ OwnS w (z + 4) A' c' m.types ∧ (∀ s ∈ m.types, s.size ≤ 9223372036854775807) ∧ m.types.length ≤ k
section
variable {p q : Prof} {A B : Option Addr} {c d z k k' : Nat} {W w w' : World}
theorem MT.mono (h : MT p q A B c d z W k w) (hk : k ≤ k') : MT p q A B c d z W k' w := by
  obtain ⟨m, A', c', h1, h2, h3, h4, h5⟩ := h
  exact ⟨m, A', c', h1, h2, h3, h4, by omega⟩
theorem MT.bl (h : MT p q A B c d z W k w) : Below z W w := by obtain ⟨m, A', c', h1, _⟩ := h; exact h1.bl
theorem MT.later (h : MT p q A B c d z W k w) (hb : Below w.heap.size w w') : MT p q A B c d z W k w' := by
  obtain ⟨m, A', c', h1, h2, h3, h4, h5⟩ := h
  exact ⟨m, A', c', h1.later hb, h2, h3.below hb, h4, h5⟩
theorem own_set {T : Type} {sz : Nat} {enc : T → List Value} {e : TypeId} {base b j : Nat} {v : Value} {A' : Option Addr} {c' : Nat} {xs : List T} (h : OwnL w base e sz enc A' c' xs) (hb : b < base) : OwnL (w.setCell ⟨b, j, none⟩ v) base e sz enc A' c' xs :=
  h.kept (grown_setCells w b j [v]) (by
    rcases ho : (Value.slice A' xs.length c').ownBlock with _ | g
    · exact .inl rfl
    · refine .inr (fun e => ?_)
      injection e with e
      have := (h.blk g ho).1
      omega)
theorem MX.start (h : MX p q A B c d z W w) : MT p q A B c d z W 0 (w.setCell ⟨z + 3, 12, none⟩ (.slice none 0 0)) := by
  obtain ⟨m, h1, h2, _⟩ := h
  exact ⟨{ m with types := [] }, none, 0, h1.set 12 _ (by decide) rfl, h2, OwnL.nil_, by simp, Nat.le_refl _⟩
theorem MT.clear (h : MT p q A B c d z W k w) : MT p q A B c d z W k (w.setCell ⟨z + 3, 12, none⟩ (.slice none 0 0)) := by
  obtain ⟨m, A', c', h1, h2, _⟩ := h
  exact ⟨{ m with types := [] }, none, 0, h1.set 12 _ (by decide) rfl, h2, OwnL.nil_, by simp, Nat.zero_le _⟩
theorem MT.push {m : Prof} {A' A'' : Option Addr} {c' c'' n : Nat} {s : ByteArray} (h1 : MS p q A B c d z W m A' c' w) (h2 : m.name = p.name) (h3 : OwnS w (z + 4) A'' c'' (m.types ++ [s])) (h4 : ∀ s ∈ m.types, s.size ≤ 9223372036854775807) (h5 : m.types.length ≤ k) (hs : s.size ≤ 9223372036854775807) (hn : n = m.types.length + 1) :
    MT p q A B c d z W (k + 1) (w.setCell ⟨z + 3, 12, none⟩ (.slice A'' n c'')) := by
  subst hn
  refine ⟨{ m with types := m.types ++ [s] }, A'', c'', h1.set 12 _ (by decide) (by simp), h2, own_set h3 (by omega), fun x hx => ?_, by simp; omega⟩
  rcases List.mem_append.1 hx with hx | hx
  · exact h4 x hx
  · simp only [List.mem_singleton] at hx
    subst hx
    exact hs
theorem OwnL.len_cap {T : Type} {sz : Nat} {enc : T → List Value} {e : TypeId} {base : Nat} {A' : Option Addr} {c' : Nat} {xs : List T} (h : OwnL w base e sz enc A' c' xs) : xs.length ≤ c' := by
  rcases h.2 with ⟨hv, hn⟩ | ⟨g, cap, cur, hv, _, _, hnc, _⟩
  · omega
  · injection hv with _ _ e3
    subst e3
    exact hnc
theorem MT.set2 (h : MT p q A B c d z W k w) (n : Int) : MT p q A B c d z W k (w.setCell ⟨z + 3, 2, none⟩ (.int .i64 n)) := by
  obtain ⟨m, A', c', h1, h2, h3, h4, h5⟩ := h
  exact ⟨_, A', c', h1.set2 n, h2, own_set h3 (by omega), h4, h5⟩
theorem MT.set10 (h : MT p q A B c d z W k w) (n : Int) : MT p q A B c d z W k (w.setCell ⟨z + 3, 10, none⟩ (.int .i64 n)) := by
  obtain ⟨m, A', c', h1, h2, h3, h4, h5⟩ := h
  exact ⟨_, A', c', h1.set10 n, h2, own_set h3 (by omega), h4, h5⟩
theorem MT.set11 (h : MT p q A B c d z W k w) (n : Int) : MT p q A B c d z W k (w.setCell ⟨z + 3, 11, none⟩ (.int .i64 n)) := by
  obtain ⟨m, A', c', h1, h2, h3, h4, h5⟩ := h
  exact ⟨_, A', c', h1.set11 n, h2, own_set h3 (by omega), h4, h5⟩
end

set_option maxRecDepth 100000 in
set_option maxHeartbeats 8000000 in
theorem meet_any (p q : Prof) (A B : Option Addr) (c d : Nat) (w : World) (hr : ProfOk w w.heap.size A p) (hq : ProfOk w w.heap.size B q) (hlp : p.types.length ≤ 12) (_hlq : q.types.length ≤ 12) : Calls Try.prog 12 #[p.v A c, q.v B d] w (ProfOut w) := by
  have hth0 : ((((w.alloc (.cells (p.cs A c) 24)).alloc (.cells (q.cs B d) 24)).alloc (.cells (zeroP.cs none 0) 24)).alloc (.cells (zeroP.cs none 0) 24)).there (w.heap.size + 1 + 1 + 1) 0 22 := boxThere _ _ _ (Below.refl _ _) _ (by simp) 22 rfl
  have hld0 : ((((w.alloc (.cells (p.cs A c) 24)).alloc (.cells (q.cs B d) 24)).alloc (.cells (zeroP.cs none 0) 24))).rangeAt w.heap.size 0 (p.cs A c).toList := boxRange _ _ _ (((Below.refl _ _).alloc (by simp) _).alloc (by simp) _)
  have HTH := Lib.hid hth0
  have HLD := Lib.hid hld0
  clear hth0 hld0
  go_enter Try.func12, Try.ntmps12
  go_upto_region 2 with (first | ((with_reducible show wpList _ _ _ (Oper.mk _ (Op.load 24 _) _ _ _ _ :: _) _ _); refine wpList_load_g rfl 24 (.tmp 2) rfl w.heap.size 0 rfl (p.cs A c).toList _ HLD.out Try.underlying24 rfl (by kernel_rfl) ?_) | ((with_reducible show wpList _ _ _ (Oper.mk _ (Op.store 24 _ _) _ _ _ _ :: _) _ _); refine wpList_store_box rfl 24 _ _ rfl _ _ rfl rfl HTH.out (by kernel_rfl) (by kernel_rfl) ?_; intro w2 hrg hth hg; have HM0 := Lib.hid (startMS p q A B c d w w2 hrg hth hg); clear hrg hth hg))
  dsimp only [Act.put]
  have hHeld : MX p q A B c d w.heap.size w w2 := ⟨p, HM0.out, rfl, rfl⟩
  clear HM0 HTH HLD
  go_cut [23] (fun v wx => MX p q A B c d w.heap.size w wx)
  case first =>
    as_aux_lemma =>
    have HH := Lib.hid hHeld
    clear hHeld
    go_wp2_with fail
    refine wp_region_held_drew (S := MX p q A B c d w.heap.size w) (by kernel_rfl) (HH.out.later (Below.refl _ _).drew) ?_
    clear HH
    intro hHeld
    refine wpAnyH_take (i := 0) (v := ?_) rfl (by kernel_rfl) (by kernel_rfl) (by kernel_rfl) (fun _ _ _ h => h) (Or.inl ⟨by rfl, ?_⟩) (by assumption) ?_
    rotate_left
    · intro wq hSw
      obtain ⟨mq, hmq, _, _⟩ := hSw
      have a1 := hmq.cp 1 _ rfl; have a3 := hmq.cp 3 _ rfl; have a5 := hmq.cp 5 _ rfl; have b1 := hmq.cq 1 _ rfl; have b3 := hmq.cq 3 _ rfl; have b5 := hmq.cq 5 _ rfl
      clear hmq
      go_simp
      try with_reducible rfl
    simp only [Act.put, List.setIfInBounds_toArray, List.set_cons_zero, List.set_cons_succ, List.getElem_toArray, List.getElem_cons_zero]
    refine wpAnyH_take (i := 1) (v := ?_) rfl (by kernel_rfl) (by kernel_rfl) (by kernel_rfl) (fun _ _ _ h => h) (Or.inl ⟨by rfl, ?_⟩) (by assumption) ?_
    rotate_left
    · intro wq hSw
      obtain ⟨mq, hmq, _, _⟩ := hSw
      have a1 := hmq.cp 1 _ rfl; have a3 := hmq.cp 3 _ rfl; have a5 := hmq.cp 5 _ rfl; have b1 := hmq.cq 1 _ rfl; have b3 := hmq.cq 3 _ rfl; have b5 := hmq.cq 5 _ rfl
      clear hmq
      go_simp
      try with_reducible rfl
    simp only [Act.put, List.setIfInBounds_toArray, List.set_cons_zero, List.set_cons_succ, List.getElem_toArray, List.getElem_cons_zero, List.getElem_cons_succ]
    refine wpAnyH_take (i := 2) (v := ?_) rfl (by kernel_rfl) (by kernel_rfl) (by kernel_rfl) (fun _ _ _ h => h) (Or.inl ⟨by rfl, ?_⟩) (by assumption) ?_
    rotate_left
    · intro wq hSw
      obtain ⟨mq, hmq, _, _⟩ := hSw
      have a1 := hmq.cp 1 _ rfl; have a3 := hmq.cp 3 _ rfl; have a5 := hmq.cp 5 _ rfl; have b1 := hmq.cq 1 _ rfl; have b3 := hmq.cq 3 _ rfl; have b5 := hmq.cq 5 _ rfl
      clear hmq
      go_simp
      try with_reducible rfl
    simp only [Act.put, List.setIfInBounds_toArray, List.set_cons_zero, List.set_cons_succ, List.getElem_toArray, List.getElem_cons_zero, List.getElem_cons_succ]
    refine wpAnyH_take (i := 3) (v := ?_) rfl (by kernel_rfl) (by kernel_rfl) (by kernel_rfl) (fun _ _ _ h => h) (Or.inl ⟨by rfl, ?_⟩) (by assumption) ?_
    rotate_left
    · intro wq hSw
      obtain ⟨mq, hmq, _, _⟩ := hSw
      have a1 := hmq.cp 1 _ rfl; have a3 := hmq.cp 3 _ rfl; have a5 := hmq.cp 5 _ rfl; have b1 := hmq.cq 1 _ rfl; have b3 := hmq.cq 3 _ rfl; have b5 := hmq.cq 5 _ rfl
      clear hmq
      go_simp
      try with_reducible rfl
    simp only [Act.put, List.setIfInBounds_toArray, List.set_cons_zero, List.set_cons_succ, List.getElem_toArray, List.getElem_cons_zero, List.getElem_cons_succ]
    refine wpAnyH_take (i := 4) (v := ?_) rfl (by kernel_rfl) (by kernel_rfl) (by kernel_rfl) (fun _ _ _ h => h) (Or.inl ⟨by rfl, ?_⟩) (by assumption) ?_
    rotate_left
    · intro wq hSw
      obtain ⟨mq, hmq, _, _⟩ := hSw
      have a1 := hmq.cp 1 _ rfl; have a3 := hmq.cp 3 _ rfl; have a5 := hmq.cp 5 _ rfl; have b1 := hmq.cq 1 _ rfl; have b3 := hmq.cq 3 _ rfl; have b5 := hmq.cq 5 _ rfl
      clear hmq
      go_simp
      try with_reducible rfl
    simp only [Act.put, List.setIfInBounds_toArray, List.set_cons_zero, List.set_cons_succ, List.getElem_toArray, List.getElem_cons_zero, List.getElem_cons_succ]
    refine wpAnyH_take (i := 5) (v := ?_) rfl (by kernel_rfl) (by kernel_rfl) (by kernel_rfl) (fun _ _ _ h => h) (Or.inl ⟨by rfl, ?_⟩) (by assumption) ?_
    rotate_left
    · intro wq hSw
      obtain ⟨mq, hmq, _, _⟩ := hSw
      have a1 := hmq.cp 1 _ rfl; have a3 := hmq.cp 3 _ rfl; have a5 := hmq.cp 5 _ rfl; have b1 := hmq.cq 1 _ rfl; have b3 := hmq.cq 3 _ rfl; have b5 := hmq.cq 5 _ rfl
      clear hmq
      go_simp
      try with_reducible rfl
    simp only [Act.put, List.setIfInBounds_toArray, List.set_cons_zero, List.set_cons_succ, List.getElem_toArray, List.getElem_cons_zero, List.getElem_cons_succ]
    refine wpAnyH_take (i := 6) (v := ?_) rfl (by kernel_rfl) (by kernel_rfl) (by kernel_rfl) (fun _ _ _ h => h) (Or.inl ⟨by rfl, ?_⟩) (by assumption) ?_
    rotate_left
    · intro wq hSw
      obtain ⟨mq, hmq, _, _⟩ := hSw
      have a1 := hmq.cp 1 _ rfl; have a3 := hmq.cp 3 _ rfl; have a5 := hmq.cp 5 _ rfl; have b1 := hmq.cq 1 _ rfl; have b3 := hmq.cq 3 _ rfl; have b5 := hmq.cq 5 _ rfl
      clear hmq
      go_simp
      try with_reducible rfl
    simp only [Act.put, List.setIfInBounds_toArray, List.set_cons_zero, List.set_cons_succ, List.getElem_toArray, List.getElem_cons_zero, List.getElem_cons_succ]
    refine wpAnyH_take (i := 7) (v := ?_) rfl (by kernel_rfl) (by kernel_rfl) (by kernel_rfl) (fun _ _ _ h => h) (Or.inl ⟨by rfl, ?_⟩) (by assumption) ?_
    rotate_left
    · intro wq hSw
      obtain ⟨mq, hmq, _, _⟩ := hSw
      have a1 := hmq.cp 1 _ rfl; have a3 := hmq.cp 3 _ rfl; have a5 := hmq.cp 5 _ rfl; have b1 := hmq.cq 1 _ rfl; have b3 := hmq.cq 3 _ rfl; have b5 := hmq.cq 5 _ rfl
      clear hmq
      go_simp
      try with_reducible rfl
    simp only [Act.put, List.setIfInBounds_toArray, List.set_cons_zero, List.set_cons_succ, List.getElem_toArray, List.getElem_cons_zero, List.getElem_cons_succ]
    refine wpAnyH_take (i := 8) (v := ?_) rfl (by kernel_rfl) (by kernel_rfl) (by kernel_rfl) (fun _ _ _ h => h) (Or.inl ⟨by rfl, ?_⟩) (by assumption) ?_
    rotate_left
    · intro wq hSw
      obtain ⟨mq, hmq, _, _⟩ := hSw
      have a1 := hmq.cp 1 _ rfl; have a3 := hmq.cp 3 _ rfl; have a5 := hmq.cp 5 _ rfl; have b1 := hmq.cq 1 _ rfl; have b3 := hmq.cq 3 _ rfl; have b5 := hmq.cq 5 _ rfl
      clear hmq
      go_simp
      try with_reducible rfl
    simp only [Act.put, List.setIfInBounds_toArray, List.set_cons_zero, List.set_cons_succ, List.getElem_toArray, List.getElem_cons_zero, List.getElem_cons_succ]
    refine wpAnyH_take (i := 9) (v := ?_) rfl (by kernel_rfl) (by kernel_rfl) (by kernel_rfl) (fun _ _ _ h => h) (Or.inl ⟨by rfl, ?_⟩) (by assumption) ?_
    rotate_left
    · intro wq hSw
      obtain ⟨mq, hmq, _, _⟩ := hSw
      have a1 := hmq.cp 1 _ rfl; have a3 := hmq.cp 3 _ rfl; have a5 := hmq.cp 5 _ rfl; have b1 := hmq.cq 1 _ rfl; have b3 := hmq.cq 3 _ rfl; have b5 := hmq.cq 5 _ rfl
      clear hmq
      go_simp
      try with_reducible rfl
    simp only [Act.put, List.setIfInBounds_toArray, List.set_cons_zero, List.set_cons_succ, List.getElem_toArray, List.getElem_cons_zero, List.getElem_cons_succ]
    refine wpAnyH_take (i := 10) (v := ?_) rfl (by kernel_rfl) (by kernel_rfl) (by kernel_rfl) (fun _ _ _ h => h) (Or.inl ⟨by rfl, ?_⟩) (by assumption) ?_
    rotate_left
    · intro wq hSw
      obtain ⟨mq, hmq, _, _⟩ := hSw
      have a1 := hmq.cp 1 _ rfl; have a3 := hmq.cp 3 _ rfl; have a5 := hmq.cp 5 _ rfl; have b1 := hmq.cq 1 _ rfl; have b3 := hmq.cq 3 _ rfl; have b5 := hmq.cq 5 _ rfl
      clear hmq
      go_simp
      try with_reducible rfl
    simp only [Act.put, List.setIfInBounds_toArray, List.set_cons_zero, List.set_cons_succ, List.getElem_toArray, List.getElem_cons_zero, List.getElem_cons_succ]
    refine wpAnyH_take (i := 11) (v := ?_) rfl (by kernel_rfl) (by kernel_rfl) (by kernel_rfl) (fun _ _ _ h => h) (Or.inl ⟨by rfl, ?_⟩) (by assumption) ?_
    rotate_left
    · intro wq hSw
      obtain ⟨mq, hmq, _, _⟩ := hSw
      have a1 := hmq.cp 1 _ rfl; have a3 := hmq.cp 3 _ rfl; have a5 := hmq.cp 5 _ rfl; have b1 := hmq.cq 1 _ rfl; have b3 := hmq.cq 3 _ rfl; have b5 := hmq.cq 5 _ rfl
      clear hmq
      go_simp
      try with_reducible rfl
    simp only [Act.put, List.setIfInBounds_toArray, List.set_cons_zero, List.set_cons_succ, List.getElem_toArray, List.getElem_cons_zero, List.getElem_cons_succ]
    refine wpAnyH_take (i := 12) (v := ?_) rfl (by kernel_rfl) (by kernel_rfl) (by kernel_rfl) (fun _ _ _ h => h) (Or.inl ⟨by rfl, ?_⟩) (by assumption) ?_
    rotate_left
    · intro wq hSw
      obtain ⟨mq, hmq, _, _⟩ := hSw
      have a1 := hmq.cp 1 _ rfl; have a3 := hmq.cp 3 _ rfl; have a5 := hmq.cp 5 _ rfl; have b1 := hmq.cq 1 _ rfl; have b3 := hmq.cq 3 _ rfl; have b5 := hmq.cq 5 _ rfl
      clear hmq
      go_simp
      try with_reducible rfl
    simp only [Act.put, List.setIfInBounds_toArray, List.set_cons_zero, List.set_cons_succ, List.getElem_toArray, List.getElem_cons_zero, List.getElem_cons_succ]
    refine wpAnyH_take (i := 13) (v := ?_) rfl (by kernel_rfl) (by kernel_rfl) (by kernel_rfl) (fun _ _ _ h => h) (Or.inl ⟨by rfl, ?_⟩) (by assumption) ?_
    rotate_left
    · intro wq hSw
      obtain ⟨mq, hmq, _, _⟩ := hSw
      have a1 := hmq.cp 1 _ rfl; have a3 := hmq.cp 3 _ rfl; have a5 := hmq.cp 5 _ rfl; have b1 := hmq.cq 1 _ rfl; have b3 := hmq.cq 3 _ rfl; have b5 := hmq.cq 5 _ rfl
      clear hmq
      go_simp
      try with_reducible rfl
    simp only [Act.put, List.setIfInBounds_toArray, List.set_cons_zero, List.set_cons_succ, List.getElem_toArray, List.getElem_cons_zero, List.getElem_cons_succ]
    refine wpAnyH_take (i := 14) (v := ?_) rfl (by kernel_rfl) (by kernel_rfl) (by kernel_rfl) (fun _ _ _ h => h) (Or.inl ⟨by rfl, ?_⟩) (by assumption) ?_
    rotate_left
    · intro wq hSw
      obtain ⟨mq, hmq, _, _⟩ := hSw
      have a1 := hmq.cp 1 _ rfl; have a3 := hmq.cp 3 _ rfl; have a5 := hmq.cp 5 _ rfl; have b1 := hmq.cq 1 _ rfl; have b3 := hmq.cq 3 _ rfl; have b5 := hmq.cq 5 _ rfl
      clear hmq
      go_simp
      try with_reducible rfl
    simp only [Act.put, List.setIfInBounds_toArray, List.set_cons_zero, List.set_cons_succ, List.getElem_toArray, List.getElem_cons_zero, List.getElem_cons_succ]
    refine wpAnyH_take (i := 15) (v := ?_) rfl (by kernel_rfl) (by kernel_rfl) (by kernel_rfl) (fun _ _ _ h => h) (Or.inl ⟨by rfl, ?_⟩) (by assumption) ?_
    rotate_left
    · intro wq hSw
      obtain ⟨mq, hmq, _, _⟩ := hSw
      have a1 := hmq.cp 1 _ rfl; have a3 := hmq.cp 3 _ rfl; have a5 := hmq.cp 5 _ rfl; have b1 := hmq.cq 1 _ rfl; have b3 := hmq.cq 3 _ rfl; have b5 := hmq.cq 5 _ rfl
      clear hmq
      go_simp
      try with_reducible rfl
    simp only [Act.put, List.setIfInBounds_toArray, List.set_cons_zero, List.set_cons_succ, List.getElem_toArray, List.getElem_cons_zero, List.getElem_cons_succ]
    refine wpAnyH_ready (rs := [16]) (by kernel_rfl) (by simp) ?_
    refine AllReadyH.cons rfl (fun K hK => ?_) AllReadyH.nil
    obtain ⟨mq, hmq, hn, ht⟩ := hHeld
    have hco := hmq.co 1 _ rfl
    have hfo := hmq.fo 1 (by decide)
    have HM := Lib.hid hmq
    have HN := Lib.hid hn
    have HTT := Lib.hid ht
    clear hmq hn ht
    go_simp
    refine hK.out _ _ ⟨_, HM.out.set1 _, HN.out, HTT.out⟩ ?_
    clear hK K hco hfo HM HN HTT
    intro hHeld
    refine wpAnyH_take (i := 17) (v := ?_) rfl (by kernel_rfl) (by kernel_rfl) (by kernel_rfl) (fun _ _ _ h => h) (Or.inl ⟨by rfl, ?_⟩) (by assumption) ?_
    rotate_left
    · intro wq hSw
      obtain ⟨mq, hmq, _, _⟩ := hSw
      have a1 := hmq.cp 1 _ rfl; have a3 := hmq.cp 3 _ rfl; have a5 := hmq.cp 5 _ rfl; have b1 := hmq.cq 1 _ rfl; have b3 := hmq.cq 3 _ rfl; have b5 := hmq.cq 5 _ rfl
      clear hmq
      go_simp
      try with_reducible rfl
    simp only [Act.put, List.setIfInBounds_toArray, List.set_cons_zero, List.set_cons_succ, List.getElem_toArray, List.getElem_cons_zero, List.getElem_cons_succ]
    refine wpAnyH_ready (rs := [18]) (by kernel_rfl) (by simp) ?_
    refine AllReadyH.cons rfl (fun K hK => ?_) AllReadyH.nil
    obtain ⟨mq, hmq, hn, ht⟩ := hHeld
    have hco := hmq.co 3 _ rfl
    have hfo := hmq.fo 3 (by decide)
    have HM := Lib.hid hmq
    have HN := Lib.hid hn
    have HTT := Lib.hid ht
    clear hmq hn ht
    go_simp
    refine hK.out _ _ ⟨_, HM.out.set3 _, HN.out, HTT.out⟩ ?_
    clear hK K hco hfo HM HN HTT
    intro hHeld
    refine wpAnyH_take (i := 19) (v := ?_) rfl (by kernel_rfl) (by kernel_rfl) (by kernel_rfl) (fun _ _ _ h => h) (Or.inl ⟨by rfl, ?_⟩) (by assumption) ?_
    rotate_left
    · intro wq hSw
      obtain ⟨mq, hmq, _, _⟩ := hSw
      have a1 := hmq.cp 1 _ rfl; have a3 := hmq.cp 3 _ rfl; have a5 := hmq.cp 5 _ rfl; have b1 := hmq.cq 1 _ rfl; have b3 := hmq.cq 3 _ rfl; have b5 := hmq.cq 5 _ rfl
      clear hmq
      go_simp
      try with_reducible rfl
    simp only [Act.put, List.setIfInBounds_toArray, List.set_cons_zero, List.set_cons_succ, List.getElem_toArray, List.getElem_cons_zero, List.getElem_cons_succ]
    refine wpAnyH_ready (rs := [20]) (by kernel_rfl) (by simp) ?_
    refine AllReadyH.cons rfl (fun K hK => ?_) AllReadyH.nil
    obtain ⟨mq, hmq, hn, ht⟩ := hHeld
    have hco := hmq.co 5 _ rfl
    have hfo := hmq.fo 5 (by decide)
    have HM := Lib.hid hmq
    have HN := Lib.hid hn
    have HTT := Lib.hid ht
    clear hmq hn ht
    go_simp
    refine hK.out _ _ ⟨_, HM.out.set5 _, HN.out, HTT.out⟩ ?_
    clear hK K hco hfo HM HN HTT
    intro hHeld
    have HZ0 := Lib.hid hHeld
    clear hHeld
    refine wpAnyH_done (by kernel_rfl) (normal_gen (M := MX p q A B c d w.heap.size w) HZ0.out (fun wz hHeld => ?_)) _
    clear HZ0
    have HZ := Lib.hid hHeld
    clear hHeld
    go_wp2
    all_goals (go_meet; exact HZ.out)
  case rest =>
    have hHeld := hcut
    clear hcut
    go_upto_region 3 with fail
    go_cut [44] (fun v wx => MX p q A B c d w.heap.size w wx)
    case first =>
      as_aux_lemma =>
      have HH := Lib.hid hHeld
      clear hHeld
      cases h4 : p.react <;> cases h6 : p.quote <;> cases h7 : p.mention
      · as_aux_lemma =>
        go_wp2_with fail
        refine wp_region_held_drew (S := MX p q A B c d w.heap.size w) (by kernel_rfl) (HH.out.later (Below.refl _ _).drew) ?_
        clear HH
        intro hHeld
        refine wpAnyH_take (i := 0) (v := ?_) rfl (by kernel_rfl) (by kernel_rfl) (by kernel_rfl) (fun _ _ _ h => h) (Or.inl ⟨by rfl, ?_⟩) (by assumption) ?_
        rotate_left
        · intro wq hSw
          obtain ⟨mq, hmq, _, _⟩ := hSw
          have a4 := hmq.cp 4 _ rfl; have a6 := hmq.cp 6 _ rfl; have a7 := hmq.cp 7 _ rfl; have b4 := hmq.cq 4 _ rfl; have b6 := hmq.cq 6 _ rfl; have b7 := hmq.cq 7 _ rfl
          clear hmq
          go_simp
          try with_reducible rfl
        simp only [Act.put, List.setIfInBounds_toArray, List.set_cons_zero, List.set_cons_succ, List.getElem_toArray, List.getElem_cons_zero]
        refine wpAnyH_take (i := 1) (v := ?_) rfl (by kernel_rfl) (by kernel_rfl) (by kernel_rfl) (fun _ _ _ h => h) (Or.inl ⟨by rfl, ?_⟩) (by assumption) ?_
        rotate_left
        · intro wq hSw
          obtain ⟨mq, hmq, _, _⟩ := hSw
          have a4 := hmq.cp 4 _ rfl; have a6 := hmq.cp 6 _ rfl; have a7 := hmq.cp 7 _ rfl; have b4 := hmq.cq 4 _ rfl; have b6 := hmq.cq 6 _ rfl; have b7 := hmq.cq 7 _ rfl
          clear hmq
          go_simp
          try with_reducible rfl
        simp only [Act.put, List.setIfInBounds_toArray, List.set_cons_zero, List.set_cons_succ, List.getElem_toArray, List.getElem_cons_zero, List.getElem_cons_succ]
        refine wpAnyH_take (i := 2) (v := ?_) rfl (by kernel_rfl) (by kernel_rfl) (by kernel_rfl) (fun _ _ _ h => h) (Or.inl ⟨by rfl, ?_⟩) (by assumption) ?_
        rotate_left
        · intro wq hSw
          obtain ⟨mq, hmq, _, _⟩ := hSw
          have a4 := hmq.cp 4 _ rfl; have a6 := hmq.cp 6 _ rfl; have a7 := hmq.cp 7 _ rfl; have b4 := hmq.cq 4 _ rfl; have b6 := hmq.cq 6 _ rfl; have b7 := hmq.cq 7 _ rfl
          clear hmq
          go_simp
          try with_reducible rfl
        simp only [Act.put, List.setIfInBounds_toArray, List.set_cons_zero, List.set_cons_succ, List.getElem_toArray, List.getElem_cons_zero, List.getElem_cons_succ]
        refine wpAnyH_take (i := 3) (v := undef) rfl (by kernel_rfl) (by kernel_rfl) (by kernel_rfl) (fun _ _ _ h => h) (Or.inr ⟨by rfl, rfl⟩) (by assumption) ?_
        simp only [Act.put, List.setIfInBounds_toArray, List.set_cons_zero, List.set_cons_succ, List.getElem_toArray, List.getElem_cons_zero, List.getElem_cons_succ]
        refine wpAnyH_take (i := 4) (v := undef) rfl (by kernel_rfl) (by kernel_rfl) (by kernel_rfl) (fun _ _ _ h => h) (Or.inr ⟨by rfl, rfl⟩) (by assumption) ?_
        simp only [Act.put, List.setIfInBounds_toArray, List.set_cons_zero, List.set_cons_succ, List.getElem_toArray, List.getElem_cons_zero, List.getElem_cons_succ]
        refine wpAnyH_take (i := 5) (v := ?_) rfl (by kernel_rfl) (by kernel_rfl) (by kernel_rfl) (fun _ _ _ h => h) (Or.inl ⟨by rfl, ?_⟩) (by assumption) ?_
        rotate_left
        · intro wq hSw
          obtain ⟨mq, hmq, _, _⟩ := hSw
          have a4 := hmq.cp 4 _ rfl; have a6 := hmq.cp 6 _ rfl; have a7 := hmq.cp 7 _ rfl; have b4 := hmq.cq 4 _ rfl; have b6 := hmq.cq 6 _ rfl; have b7 := hmq.cq 7 _ rfl
          clear hmq
          go_simp
          try with_reducible rfl
        simp only [Act.put, List.setIfInBounds_toArray, List.set_cons_zero, List.set_cons_succ, List.getElem_toArray, List.getElem_cons_zero, List.getElem_cons_succ]
        refine wpAnyH_take (i := 6) (v := ?_) rfl (by kernel_rfl) (by kernel_rfl) (by kernel_rfl) (fun _ _ _ h => h) (Or.inl ⟨by rfl, ?_⟩) (by assumption) ?_
        rotate_left
        · intro wq hSw
          obtain ⟨mq, hmq, _, _⟩ := hSw
          have a4 := hmq.cp 4 _ rfl; have a6 := hmq.cp 6 _ rfl; have a7 := hmq.cp 7 _ rfl; have b4 := hmq.cq 4 _ rfl; have b6 := hmq.cq 6 _ rfl; have b7 := hmq.cq 7 _ rfl
          clear hmq
          go_simp
          try with_reducible rfl
        simp only [Act.put, List.setIfInBounds_toArray, List.set_cons_zero, List.set_cons_succ, List.getElem_toArray, List.getElem_cons_zero, List.getElem_cons_succ]
        refine wpAnyH_take (i := 7) (v := ?_) rfl (by kernel_rfl) (by kernel_rfl) (by kernel_rfl) (fun _ _ _ h => h) (Or.inl ⟨by rfl, ?_⟩) (by assumption) ?_
        rotate_left
        · intro wq hSw
          obtain ⟨mq, hmq, _, _⟩ := hSw
          have a4 := hmq.cp 4 _ rfl; have a6 := hmq.cp 6 _ rfl; have a7 := hmq.cp 7 _ rfl; have b4 := hmq.cq 4 _ rfl; have b6 := hmq.cq 6 _ rfl; have b7 := hmq.cq 7 _ rfl
          clear hmq
          go_simp
          try with_reducible rfl
        simp only [Act.put, List.setIfInBounds_toArray, List.set_cons_zero, List.set_cons_succ, List.getElem_toArray, List.getElem_cons_zero, List.getElem_cons_succ]
        refine wpAnyH_take (i := 8) (v := ?_) rfl (by kernel_rfl) (by kernel_rfl) (by kernel_rfl) (fun _ _ _ h => h) (Or.inl ⟨by rfl, ?_⟩) (by assumption) ?_
        rotate_left
        · intro wq hSw
          obtain ⟨mq, hmq, _, _⟩ := hSw
          have a4 := hmq.cp 4 _ rfl; have a6 := hmq.cp 6 _ rfl; have a7 := hmq.cp 7 _ rfl; have b4 := hmq.cq 4 _ rfl; have b6 := hmq.cq 6 _ rfl; have b7 := hmq.cq 7 _ rfl
          clear hmq
          go_simp
          try with_reducible rfl
        simp only [Act.put, List.setIfInBounds_toArray, List.set_cons_zero, List.set_cons_succ, List.getElem_toArray, List.getElem_cons_zero, List.getElem_cons_succ]
        refine wpAnyH_take (i := 9) (v := undef) rfl (by kernel_rfl) (by kernel_rfl) (by kernel_rfl) (fun _ _ _ h => h) (Or.inr ⟨by rfl, rfl⟩) (by assumption) ?_
        simp only [Act.put, List.setIfInBounds_toArray, List.set_cons_zero, List.set_cons_succ, List.getElem_toArray, List.getElem_cons_zero, List.getElem_cons_succ]
        refine wpAnyH_take (i := 10) (v := undef) rfl (by kernel_rfl) (by kernel_rfl) (by kernel_rfl) (fun _ _ _ h => h) (Or.inr ⟨by rfl, rfl⟩) (by assumption) ?_
        simp only [Act.put, List.setIfInBounds_toArray, List.set_cons_zero, List.set_cons_succ, List.getElem_toArray, List.getElem_cons_zero, List.getElem_cons_succ]
        refine wpAnyH_take (i := 11) (v := ?_) rfl (by kernel_rfl) (by kernel_rfl) (by kernel_rfl) (fun _ _ _ h => h) (Or.inl ⟨by rfl, ?_⟩) (by assumption) ?_
        rotate_left
        · intro wq hSw
          obtain ⟨mq, hmq, _, _⟩ := hSw
          have a4 := hmq.cp 4 _ rfl; have a6 := hmq.cp 6 _ rfl; have a7 := hmq.cp 7 _ rfl; have b4 := hmq.cq 4 _ rfl; have b6 := hmq.cq 6 _ rfl; have b7 := hmq.cq 7 _ rfl
          clear hmq
          go_simp
          try with_reducible rfl
        simp only [Act.put, List.setIfInBounds_toArray, List.set_cons_zero, List.set_cons_succ, List.getElem_toArray, List.getElem_cons_zero, List.getElem_cons_succ]
        refine wpAnyH_take (i := 12) (v := ?_) rfl (by kernel_rfl) (by kernel_rfl) (by kernel_rfl) (fun _ _ _ h => h) (Or.inl ⟨by rfl, ?_⟩) (by assumption) ?_
        rotate_left
        · intro wq hSw
          obtain ⟨mq, hmq, _, _⟩ := hSw
          have a4 := hmq.cp 4 _ rfl; have a6 := hmq.cp 6 _ rfl; have a7 := hmq.cp 7 _ rfl; have b4 := hmq.cq 4 _ rfl; have b6 := hmq.cq 6 _ rfl; have b7 := hmq.cq 7 _ rfl
          clear hmq
          go_simp
          try with_reducible rfl
        simp only [Act.put, List.setIfInBounds_toArray, List.set_cons_zero, List.set_cons_succ, List.getElem_toArray, List.getElem_cons_zero, List.getElem_cons_succ]
        refine wpAnyH_take (i := 13) (v := ?_) rfl (by kernel_rfl) (by kernel_rfl) (by kernel_rfl) (fun _ _ _ h => h) (Or.inl ⟨by rfl, ?_⟩) (by assumption) ?_
        rotate_left
        · intro wq hSw
          obtain ⟨mq, hmq, _, _⟩ := hSw
          have a4 := hmq.cp 4 _ rfl; have a6 := hmq.cp 6 _ rfl; have a7 := hmq.cp 7 _ rfl; have b4 := hmq.cq 4 _ rfl; have b6 := hmq.cq 6 _ rfl; have b7 := hmq.cq 7 _ rfl
          clear hmq
          go_simp
          try with_reducible rfl
        simp only [Act.put, List.setIfInBounds_toArray, List.set_cons_zero, List.set_cons_succ, List.getElem_toArray, List.getElem_cons_zero, List.getElem_cons_succ]
        refine wpAnyH_take (i := 14) (v := ?_) rfl (by kernel_rfl) (by kernel_rfl) (by kernel_rfl) (fun _ _ _ h => h) (Or.inl ⟨by rfl, ?_⟩) (by assumption) ?_
        rotate_left
        · intro wq hSw
          obtain ⟨mq, hmq, _, _⟩ := hSw
          have a4 := hmq.cp 4 _ rfl; have a6 := hmq.cp 6 _ rfl; have a7 := hmq.cp 7 _ rfl; have b4 := hmq.cq 4 _ rfl; have b6 := hmq.cq 6 _ rfl; have b7 := hmq.cq 7 _ rfl
          clear hmq
          go_simp
          try with_reducible rfl
        simp only [Act.put, List.setIfInBounds_toArray, List.set_cons_zero, List.set_cons_succ, List.getElem_toArray, List.getElem_cons_zero, List.getElem_cons_succ]
        refine wpAnyH_take (i := 15) (v := undef) rfl (by kernel_rfl) (by kernel_rfl) (by kernel_rfl) (fun _ _ _ h => h) (Or.inr ⟨by rfl, rfl⟩) (by assumption) ?_
        simp only [Act.put, List.setIfInBounds_toArray, List.set_cons_zero, List.set_cons_succ, List.getElem_toArray, List.getElem_cons_zero, List.getElem_cons_succ]
        refine wpAnyH_take (i := 16) (v := undef) rfl (by kernel_rfl) (by kernel_rfl) (by kernel_rfl) (fun _ _ _ h => h) (Or.inr ⟨by rfl, rfl⟩) (by assumption) ?_
        simp only [Act.put, List.setIfInBounds_toArray, List.set_cons_zero, List.set_cons_succ, List.getElem_toArray, List.getElem_cons_zero, List.getElem_cons_succ]
        refine wpAnyH_take (i := 17) (v := ?_) rfl (by kernel_rfl) (by kernel_rfl) (by kernel_rfl) (fun _ _ _ h => h) (Or.inl ⟨by rfl, ?_⟩) (by assumption) ?_
        rotate_left
        · intro wq hSw
          obtain ⟨mq, hmq, _, _⟩ := hSw
          have a4 := hmq.cp 4 _ rfl; have a6 := hmq.cp 6 _ rfl; have a7 := hmq.cp 7 _ rfl; have b4 := hmq.cq 4 _ rfl; have b6 := hmq.cq 6 _ rfl; have b7 := hmq.cq 7 _ rfl
          clear hmq
          go_simp
          try with_reducible rfl
        simp only [Act.put, List.setIfInBounds_toArray, List.set_cons_zero, List.set_cons_succ, List.getElem_toArray, List.getElem_cons_zero, List.getElem_cons_succ]
        refine wpAnyH_take (i := 18) (v := ?_) rfl (by kernel_rfl) (by kernel_rfl) (by kernel_rfl) (fun _ _ _ h => h) (Or.inl ⟨by rfl, ?_⟩) (by assumption) ?_
        rotate_left
        · intro wq hSw
          obtain ⟨mq, hmq, _, _⟩ := hSw
          have a4 := hmq.cp 4 _ rfl; have a6 := hmq.cp 6 _ rfl; have a7 := hmq.cp 7 _ rfl; have b4 := hmq.cq 4 _ rfl; have b6 := hmq.cq 6 _ rfl; have b7 := hmq.cq 7 _ rfl
          clear hmq
          go_simp
          try with_reducible rfl
        simp only [Act.put, List.setIfInBounds_toArray, List.set_cons_zero, List.set_cons_succ, List.getElem_toArray, List.getElem_cons_zero, List.getElem_cons_succ]
        refine wpAnyH_ready (rs := [19]) (by kernel_rfl) (by simp) ?_
        refine AllReadyH.cons rfl (fun K hK => ?_) AllReadyH.nil
        obtain ⟨mq, hmq, hn, ht⟩ := hHeld
        have hco := hmq.co 4 _ rfl
        have hfo := hmq.fo 4 (by decide)
        have HM := Lib.hid hmq
        have HN := Lib.hid hn
        have HTT := Lib.hid ht
        clear hmq hn ht
        go_simp
        refine hK.out _ _ ⟨_, HM.out.set4 _, HN.out, HTT.out⟩ ?_
        clear hK K hco hfo HM HN HTT
        intro hHeld
        refine wpAnyH_take (i := 20) (v := ?_) rfl (by kernel_rfl) (by kernel_rfl) (by kernel_rfl) (fun _ _ _ h => h) (Or.inl ⟨by rfl, ?_⟩) (by assumption) ?_
        rotate_left
        · intro wq hSw
          obtain ⟨mq, hmq, _, _⟩ := hSw
          have a4 := hmq.cp 4 _ rfl; have a6 := hmq.cp 6 _ rfl; have a7 := hmq.cp 7 _ rfl; have b4 := hmq.cq 4 _ rfl; have b6 := hmq.cq 6 _ rfl; have b7 := hmq.cq 7 _ rfl
          clear hmq
          go_simp
          try with_reducible rfl
        simp only [Act.put, List.setIfInBounds_toArray, List.set_cons_zero, List.set_cons_succ, List.getElem_toArray, List.getElem_cons_zero, List.getElem_cons_succ]
        refine wpAnyH_ready (rs := [21]) (by kernel_rfl) (by simp) ?_
        refine AllReadyH.cons rfl (fun K hK => ?_) AllReadyH.nil
        obtain ⟨mq, hmq, hn, ht⟩ := hHeld
        have hco := hmq.co 6 _ rfl
        have hfo := hmq.fo 6 (by decide)
        have HM := Lib.hid hmq
        have HN := Lib.hid hn
        have HTT := Lib.hid ht
        clear hmq hn ht
        go_simp
        refine hK.out _ _ ⟨_, HM.out.set6 _, HN.out, HTT.out⟩ ?_
        clear hK K hco hfo HM HN HTT
        intro hHeld
        refine wpAnyH_take (i := 22) (v := ?_) rfl (by kernel_rfl) (by kernel_rfl) (by kernel_rfl) (fun _ _ _ h => h) (Or.inl ⟨by rfl, ?_⟩) (by assumption) ?_
        rotate_left
        · intro wq hSw
          obtain ⟨mq, hmq, _, _⟩ := hSw
          have a4 := hmq.cp 4 _ rfl; have a6 := hmq.cp 6 _ rfl; have a7 := hmq.cp 7 _ rfl; have b4 := hmq.cq 4 _ rfl; have b6 := hmq.cq 6 _ rfl; have b7 := hmq.cq 7 _ rfl
          clear hmq
          go_simp
          try with_reducible rfl
        simp only [Act.put, List.setIfInBounds_toArray, List.set_cons_zero, List.set_cons_succ, List.getElem_toArray, List.getElem_cons_zero, List.getElem_cons_succ]
        refine wpAnyH_ready (rs := [23]) (by kernel_rfl) (by simp) ?_
        refine AllReadyH.cons rfl (fun K hK => ?_) AllReadyH.nil
        obtain ⟨mq, hmq, hn, ht⟩ := hHeld
        have hco := hmq.co 7 _ rfl
        have hfo := hmq.fo 7 (by decide)
        have HM := Lib.hid hmq
        have HN := Lib.hid hn
        have HTT := Lib.hid ht
        clear hmq hn ht
        go_simp
        refine hK.out _ _ ⟨_, HM.out.set7 _, HN.out, HTT.out⟩ ?_
        clear hK K hco hfo HM HN HTT
        intro hHeld
        have HZ0 := Lib.hid hHeld
        clear hHeld
        refine wpAnyH_done (by kernel_rfl) (normal_gen (M := MX p q A B c d w.heap.size w) HZ0.out (fun wz hHeld => ?_)) _
        clear HZ0
        have HZ := Lib.hid hHeld
        clear hHeld
        go_wp2
        all_goals (go_meet; exact HZ.out)
      · as_aux_lemma =>
        go_wp2_with fail
        refine wp_region_held_drew (S := MX p q A B c d w.heap.size w) (by kernel_rfl) (HH.out.later (Below.refl _ _).drew) ?_
        clear HH
        intro hHeld
        refine wpAnyH_take (i := 0) (v := ?_) rfl (by kernel_rfl) (by kernel_rfl) (by kernel_rfl) (fun _ _ _ h => h) (Or.inl ⟨by rfl, ?_⟩) (by assumption) ?_
        rotate_left
        · intro wq hSw
          obtain ⟨mq, hmq, _, _⟩ := hSw
          have a4 := hmq.cp 4 _ rfl; have a6 := hmq.cp 6 _ rfl; have a7 := hmq.cp 7 _ rfl; have b4 := hmq.cq 4 _ rfl; have b6 := hmq.cq 6 _ rfl; have b7 := hmq.cq 7 _ rfl
          clear hmq
          go_simp
          try with_reducible rfl
        simp only [Act.put, List.setIfInBounds_toArray, List.set_cons_zero, List.set_cons_succ, List.getElem_toArray, List.getElem_cons_zero]
        refine wpAnyH_take (i := 1) (v := ?_) rfl (by kernel_rfl) (by kernel_rfl) (by kernel_rfl) (fun _ _ _ h => h) (Or.inl ⟨by rfl, ?_⟩) (by assumption) ?_
        rotate_left
        · intro wq hSw
          obtain ⟨mq, hmq, _, _⟩ := hSw
          have a4 := hmq.cp 4 _ rfl; have a6 := hmq.cp 6 _ rfl; have a7 := hmq.cp 7 _ rfl; have b4 := hmq.cq 4 _ rfl; have b6 := hmq.cq 6 _ rfl; have b7 := hmq.cq 7 _ rfl
          clear hmq
          go_simp
          try with_reducible rfl
        simp only [Act.put, List.setIfInBounds_toArray, List.set_cons_zero, List.set_cons_succ, List.getElem_toArray, List.getElem_cons_zero, List.getElem_cons_succ]
        refine wpAnyH_take (i := 2) (v := ?_) rfl (by kernel_rfl) (by kernel_rfl) (by kernel_rfl) (fun _ _ _ h => h) (Or.inl ⟨by rfl, ?_⟩) (by assumption) ?_
        rotate_left
        · intro wq hSw
          obtain ⟨mq, hmq, _, _⟩ := hSw
          have a4 := hmq.cp 4 _ rfl; have a6 := hmq.cp 6 _ rfl; have a7 := hmq.cp 7 _ rfl; have b4 := hmq.cq 4 _ rfl; have b6 := hmq.cq 6 _ rfl; have b7 := hmq.cq 7 _ rfl
          clear hmq
          go_simp
          try with_reducible rfl
        simp only [Act.put, List.setIfInBounds_toArray, List.set_cons_zero, List.set_cons_succ, List.getElem_toArray, List.getElem_cons_zero, List.getElem_cons_succ]
        refine wpAnyH_take (i := 3) (v := undef) rfl (by kernel_rfl) (by kernel_rfl) (by kernel_rfl) (fun _ _ _ h => h) (Or.inr ⟨by rfl, rfl⟩) (by assumption) ?_
        simp only [Act.put, List.setIfInBounds_toArray, List.set_cons_zero, List.set_cons_succ, List.getElem_toArray, List.getElem_cons_zero, List.getElem_cons_succ]
        refine wpAnyH_take (i := 4) (v := undef) rfl (by kernel_rfl) (by kernel_rfl) (by kernel_rfl) (fun _ _ _ h => h) (Or.inr ⟨by rfl, rfl⟩) (by assumption) ?_
        simp only [Act.put, List.setIfInBounds_toArray, List.set_cons_zero, List.set_cons_succ, List.getElem_toArray, List.getElem_cons_zero, List.getElem_cons_succ]
        refine wpAnyH_take (i := 5) (v := ?_) rfl (by kernel_rfl) (by kernel_rfl) (by kernel_rfl) (fun _ _ _ h => h) (Or.inl ⟨by rfl, ?_⟩) (by assumption) ?_
        rotate_left
        · intro wq hSw
          obtain ⟨mq, hmq, _, _⟩ := hSw
          have a4 := hmq.cp 4 _ rfl; have a6 := hmq.cp 6 _ rfl; have a7 := hmq.cp 7 _ rfl; have b4 := hmq.cq 4 _ rfl; have b6 := hmq.cq 6 _ rfl; have b7 := hmq.cq 7 _ rfl
          clear hmq
          go_simp
          try with_reducible rfl
        simp only [Act.put, List.setIfInBounds_toArray, List.set_cons_zero, List.set_cons_succ, List.getElem_toArray, List.getElem_cons_zero, List.getElem_cons_succ]
        refine wpAnyH_take (i := 6) (v := ?_) rfl (by kernel_rfl) (by kernel_rfl) (by kernel_rfl) (fun _ _ _ h => h) (Or.inl ⟨by rfl, ?_⟩) (by assumption) ?_
        rotate_left
        · intro wq hSw
          obtain ⟨mq, hmq, _, _⟩ := hSw
          have a4 := hmq.cp 4 _ rfl; have a6 := hmq.cp 6 _ rfl; have a7 := hmq.cp 7 _ rfl; have b4 := hmq.cq 4 _ rfl; have b6 := hmq.cq 6 _ rfl; have b7 := hmq.cq 7 _ rfl
          clear hmq
          go_simp
          try with_reducible rfl
        simp only [Act.put, List.setIfInBounds_toArray, List.set_cons_zero, List.set_cons_succ, List.getElem_toArray, List.getElem_cons_zero, List.getElem_cons_succ]
        refine wpAnyH_take (i := 7) (v := ?_) rfl (by kernel_rfl) (by kernel_rfl) (by kernel_rfl) (fun _ _ _ h => h) (Or.inl ⟨by rfl, ?_⟩) (by assumption) ?_
        rotate_left
        · intro wq hSw
          obtain ⟨mq, hmq, _, _⟩ := hSw
          have a4 := hmq.cp 4 _ rfl; have a6 := hmq.cp 6 _ rfl; have a7 := hmq.cp 7 _ rfl; have b4 := hmq.cq 4 _ rfl; have b6 := hmq.cq 6 _ rfl; have b7 := hmq.cq 7 _ rfl
          clear hmq
          go_simp
          try with_reducible rfl
        simp only [Act.put, List.setIfInBounds_toArray, List.set_cons_zero, List.set_cons_succ, List.getElem_toArray, List.getElem_cons_zero, List.getElem_cons_succ]
        refine wpAnyH_take (i := 8) (v := ?_) rfl (by kernel_rfl) (by kernel_rfl) (by kernel_rfl) (fun _ _ _ h => h) (Or.inl ⟨by rfl, ?_⟩) (by assumption) ?_
        rotate_left
        · intro wq hSw
          obtain ⟨mq, hmq, _, _⟩ := hSw
          have a4 := hmq.cp 4 _ rfl; have a6 := hmq.cp 6 _ rfl; have a7 := hmq.cp 7 _ rfl; have b4 := hmq.cq 4 _ rfl; have b6 := hmq.cq 6 _ rfl; have b7 := hmq.cq 7 _ rfl
          clear hmq
          go_simp
          try with_reducible rfl
        simp only [Act.put, List.setIfInBounds_toArray, List.set_cons_zero, List.set_cons_succ, List.getElem_toArray, List.getElem_cons_zero, List.getElem_cons_succ]
        refine wpAnyH_take (i := 9) (v := undef) rfl (by kernel_rfl) (by kernel_rfl) (by kernel_rfl) (fun _ _ _ h => h) (Or.inr ⟨by rfl, rfl⟩) (by assumption) ?_
        simp only [Act.put, List.setIfInBounds_toArray, List.set_cons_zero, List.set_cons_succ, List.getElem_toArray, List.getElem_cons_zero, List.getElem_cons_succ]
        refine wpAnyH_take (i := 10) (v := undef) rfl (by kernel_rfl) (by kernel_rfl) (by kernel_rfl) (fun _ _ _ h => h) (Or.inr ⟨by rfl, rfl⟩) (by assumption) ?_
        simp only [Act.put, List.setIfInBounds_toArray, List.set_cons_zero, List.set_cons_succ, List.getElem_toArray, List.getElem_cons_zero, List.getElem_cons_succ]
        refine wpAnyH_take (i := 11) (v := ?_) rfl (by kernel_rfl) (by kernel_rfl) (by kernel_rfl) (fun _ _ _ h => h) (Or.inl ⟨by rfl, ?_⟩) (by assumption) ?_
        rotate_left
        · intro wq hSw
          obtain ⟨mq, hmq, _, _⟩ := hSw
          have a4 := hmq.cp 4 _ rfl; have a6 := hmq.cp 6 _ rfl; have a7 := hmq.cp 7 _ rfl; have b4 := hmq.cq 4 _ rfl; have b6 := hmq.cq 6 _ rfl; have b7 := hmq.cq 7 _ rfl
          clear hmq
          go_simp
          try with_reducible rfl
        simp only [Act.put, List.setIfInBounds_toArray, List.set_cons_zero, List.set_cons_succ, List.getElem_toArray, List.getElem_cons_zero, List.getElem_cons_succ]
        refine wpAnyH_take (i := 12) (v := ?_) rfl (by kernel_rfl) (by kernel_rfl) (by kernel_rfl) (fun _ _ _ h => h) (Or.inl ⟨by rfl, ?_⟩) (by assumption) ?_
        rotate_left
        · intro wq hSw
          obtain ⟨mq, hmq, _, _⟩ := hSw
          have a4 := hmq.cp 4 _ rfl; have a6 := hmq.cp 6 _ rfl; have a7 := hmq.cp 7 _ rfl; have b4 := hmq.cq 4 _ rfl; have b6 := hmq.cq 6 _ rfl; have b7 := hmq.cq 7 _ rfl
          clear hmq
          go_simp
          try with_reducible rfl
        simp only [Act.put, List.setIfInBounds_toArray, List.set_cons_zero, List.set_cons_succ, List.getElem_toArray, List.getElem_cons_zero, List.getElem_cons_succ]
        refine wpAnyH_take (i := 13) (v := ?_) rfl (by kernel_rfl) (by kernel_rfl) (by kernel_rfl) (fun _ _ _ h => h) (Or.inl ⟨by rfl, ?_⟩) (by assumption) ?_
        rotate_left
        · intro wq hSw
          obtain ⟨mq, hmq, _, _⟩ := hSw
          have a4 := hmq.cp 4 _ rfl; have a6 := hmq.cp 6 _ rfl; have a7 := hmq.cp 7 _ rfl; have b4 := hmq.cq 4 _ rfl; have b6 := hmq.cq 6 _ rfl; have b7 := hmq.cq 7 _ rfl
          clear hmq
          go_simp
          try with_reducible rfl
        simp only [Act.put, List.setIfInBounds_toArray, List.set_cons_zero, List.set_cons_succ, List.getElem_toArray, List.getElem_cons_zero, List.getElem_cons_succ]
        refine wpAnyH_take (i := 14) (v := ?_) rfl (by kernel_rfl) (by kernel_rfl) (by kernel_rfl) (fun _ _ _ h => h) (Or.inl ⟨by rfl, ?_⟩) (by assumption) ?_
        rotate_left
        · intro wq hSw
          obtain ⟨mq, hmq, _, _⟩ := hSw
          have a4 := hmq.cp 4 _ rfl; have a6 := hmq.cp 6 _ rfl; have a7 := hmq.cp 7 _ rfl; have b4 := hmq.cq 4 _ rfl; have b6 := hmq.cq 6 _ rfl; have b7 := hmq.cq 7 _ rfl
          clear hmq
          go_simp
          try with_reducible rfl
        simp only [Act.put, List.setIfInBounds_toArray, List.set_cons_zero, List.set_cons_succ, List.getElem_toArray, List.getElem_cons_zero, List.getElem_cons_succ]
        refine wpAnyH_take (i := 15) (v := ?_) rfl (by kernel_rfl) (by kernel_rfl) (by kernel_rfl) (fun _ _ _ h => h) (Or.inl ⟨by rfl, ?_⟩) (by assumption) ?_
        rotate_left
        · intro wq hSw
          obtain ⟨mq, hmq, _, _⟩ := hSw
          have a4 := hmq.cp 4 _ rfl; have a6 := hmq.cp 6 _ rfl; have a7 := hmq.cp 7 _ rfl; have b4 := hmq.cq 4 _ rfl; have b6 := hmq.cq 6 _ rfl; have b7 := hmq.cq 7 _ rfl
          clear hmq
          go_simp
          try with_reducible rfl
        simp only [Act.put, List.setIfInBounds_toArray, List.set_cons_zero, List.set_cons_succ, List.getElem_toArray, List.getElem_cons_zero, List.getElem_cons_succ]
        refine wpAnyH_take (i := 16) (v := ?_) rfl (by kernel_rfl) (by kernel_rfl) (by kernel_rfl) (fun _ _ _ h => h) (Or.inl ⟨by rfl, ?_⟩) (by assumption) ?_
        rotate_left
        · intro wq hSw
          obtain ⟨mq, hmq, _, _⟩ := hSw
          have a4 := hmq.cp 4 _ rfl; have a6 := hmq.cp 6 _ rfl; have a7 := hmq.cp 7 _ rfl; have b4 := hmq.cq 4 _ rfl; have b6 := hmq.cq 6 _ rfl; have b7 := hmq.cq 7 _ rfl
          clear hmq
          go_simp
          try with_reducible rfl
        simp only [Act.put, List.setIfInBounds_toArray, List.set_cons_zero, List.set_cons_succ, List.getElem_toArray, List.getElem_cons_zero, List.getElem_cons_succ]
        refine wpAnyH_take (i := 17) (v := ?_) rfl (by kernel_rfl) (by kernel_rfl) (by kernel_rfl) (fun _ _ _ h => h) (Or.inl ⟨by rfl, ?_⟩) (by assumption) ?_
        rotate_left
        · intro wq hSw
          obtain ⟨mq, hmq, _, _⟩ := hSw
          have a4 := hmq.cp 4 _ rfl; have a6 := hmq.cp 6 _ rfl; have a7 := hmq.cp 7 _ rfl; have b4 := hmq.cq 4 _ rfl; have b6 := hmq.cq 6 _ rfl; have b7 := hmq.cq 7 _ rfl
          clear hmq
          go_simp
          try with_reducible rfl
        simp only [Act.put, List.setIfInBounds_toArray, List.set_cons_zero, List.set_cons_succ, List.getElem_toArray, List.getElem_cons_zero, List.getElem_cons_succ]
        refine wpAnyH_take (i := 18) (v := ?_) rfl (by kernel_rfl) (by kernel_rfl) (by kernel_rfl) (fun _ _ _ h => h) (Or.inl ⟨by rfl, ?_⟩) (by assumption) ?_
        rotate_left
        · intro wq hSw
          obtain ⟨mq, hmq, _, _⟩ := hSw
          have a4 := hmq.cp 4 _ rfl; have a6 := hmq.cp 6 _ rfl; have a7 := hmq.cp 7 _ rfl; have b4 := hmq.cq 4 _ rfl; have b6 := hmq.cq 6 _ rfl; have b7 := hmq.cq 7 _ rfl
          clear hmq
          go_simp
          try with_reducible rfl
        simp only [Act.put, List.setIfInBounds_toArray, List.set_cons_zero, List.set_cons_succ, List.getElem_toArray, List.getElem_cons_zero, List.getElem_cons_succ]
        refine wpAnyH_ready (rs := [19]) (by kernel_rfl) (by simp) ?_
        refine AllReadyH.cons rfl (fun K hK => ?_) AllReadyH.nil
        obtain ⟨mq, hmq, hn, ht⟩ := hHeld
        have hco := hmq.co 4 _ rfl
        have hfo := hmq.fo 4 (by decide)
        have HM := Lib.hid hmq
        have HN := Lib.hid hn
        have HTT := Lib.hid ht
        clear hmq hn ht
        go_simp
        refine hK.out _ _ ⟨_, HM.out.set4 _, HN.out, HTT.out⟩ ?_
        clear hK K hco hfo HM HN HTT
        intro hHeld
        refine wpAnyH_take (i := 20) (v := ?_) rfl (by kernel_rfl) (by kernel_rfl) (by kernel_rfl) (fun _ _ _ h => h) (Or.inl ⟨by rfl, ?_⟩) (by assumption) ?_
        rotate_left
        · intro wq hSw
          obtain ⟨mq, hmq, _, _⟩ := hSw
          have a4 := hmq.cp 4 _ rfl; have a6 := hmq.cp 6 _ rfl; have a7 := hmq.cp 7 _ rfl; have b4 := hmq.cq 4 _ rfl; have b6 := hmq.cq 6 _ rfl; have b7 := hmq.cq 7 _ rfl
          clear hmq
          go_simp
          try with_reducible rfl
        simp only [Act.put, List.setIfInBounds_toArray, List.set_cons_zero, List.set_cons_succ, List.getElem_toArray, List.getElem_cons_zero, List.getElem_cons_succ]
        refine wpAnyH_ready (rs := [21]) (by kernel_rfl) (by simp) ?_
        refine AllReadyH.cons rfl (fun K hK => ?_) AllReadyH.nil
        obtain ⟨mq, hmq, hn, ht⟩ := hHeld
        have hco := hmq.co 6 _ rfl
        have hfo := hmq.fo 6 (by decide)
        have HM := Lib.hid hmq
        have HN := Lib.hid hn
        have HTT := Lib.hid ht
        clear hmq hn ht
        go_simp
        refine hK.out _ _ ⟨_, HM.out.set6 _, HN.out, HTT.out⟩ ?_
        clear hK K hco hfo HM HN HTT
        intro hHeld
        refine wpAnyH_take (i := 22) (v := ?_) rfl (by kernel_rfl) (by kernel_rfl) (by kernel_rfl) (fun _ _ _ h => h) (Or.inl ⟨by rfl, ?_⟩) (by assumption) ?_
        rotate_left
        · intro wq hSw
          obtain ⟨mq, hmq, _, _⟩ := hSw
          have a4 := hmq.cp 4 _ rfl; have a6 := hmq.cp 6 _ rfl; have a7 := hmq.cp 7 _ rfl; have b4 := hmq.cq 4 _ rfl; have b6 := hmq.cq 6 _ rfl; have b7 := hmq.cq 7 _ rfl
          clear hmq
          go_simp
          try with_reducible rfl
        simp only [Act.put, List.setIfInBounds_toArray, List.set_cons_zero, List.set_cons_succ, List.getElem_toArray, List.getElem_cons_zero, List.getElem_cons_succ]
        refine wpAnyH_ready (rs := [23]) (by kernel_rfl) (by simp) ?_
        refine AllReadyH.cons rfl (fun K hK => ?_) AllReadyH.nil
        obtain ⟨mq, hmq, hn, ht⟩ := hHeld
        have hco := hmq.co 7 _ rfl
        have hfo := hmq.fo 7 (by decide)
        have HM := Lib.hid hmq
        have HN := Lib.hid hn
        have HTT := Lib.hid ht
        clear hmq hn ht
        go_simp
        refine hK.out _ _ ⟨_, HM.out.set7 _, HN.out, HTT.out⟩ ?_
        clear hK K hco hfo HM HN HTT
        intro hHeld
        have HZ0 := Lib.hid hHeld
        clear hHeld
        refine wpAnyH_done (by kernel_rfl) (normal_gen (M := MX p q A B c d w.heap.size w) HZ0.out (fun wz hHeld => ?_)) _
        clear HZ0
        have HZ := Lib.hid hHeld
        clear hHeld
        go_wp2
        all_goals (go_meet; exact HZ.out)
      · as_aux_lemma =>
        go_wp2_with fail
        refine wp_region_held_drew (S := MX p q A B c d w.heap.size w) (by kernel_rfl) (HH.out.later (Below.refl _ _).drew) ?_
        clear HH
        intro hHeld
        refine wpAnyH_take (i := 0) (v := ?_) rfl (by kernel_rfl) (by kernel_rfl) (by kernel_rfl) (fun _ _ _ h => h) (Or.inl ⟨by rfl, ?_⟩) (by assumption) ?_
        rotate_left
        · intro wq hSw
          obtain ⟨mq, hmq, _, _⟩ := hSw
          have a4 := hmq.cp 4 _ rfl; have a6 := hmq.cp 6 _ rfl; have a7 := hmq.cp 7 _ rfl; have b4 := hmq.cq 4 _ rfl; have b6 := hmq.cq 6 _ rfl; have b7 := hmq.cq 7 _ rfl
          clear hmq
          go_simp
          try with_reducible rfl
        simp only [Act.put, List.setIfInBounds_toArray, List.set_cons_zero, List.set_cons_succ, List.getElem_toArray, List.getElem_cons_zero]
        refine wpAnyH_take (i := 1) (v := ?_) rfl (by kernel_rfl) (by kernel_rfl) (by kernel_rfl) (fun _ _ _ h => h) (Or.inl ⟨by rfl, ?_⟩) (by assumption) ?_
        rotate_left
        · intro wq hSw
          obtain ⟨mq, hmq, _, _⟩ := hSw
          have a4 := hmq.cp 4 _ rfl; have a6 := hmq.cp 6 _ rfl; have a7 := hmq.cp 7 _ rfl; have b4 := hmq.cq 4 _ rfl; have b6 := hmq.cq 6 _ rfl; have b7 := hmq.cq 7 _ rfl
          clear hmq
          go_simp
          try with_reducible rfl
        simp only [Act.put, List.setIfInBounds_toArray, List.set_cons_zero, List.set_cons_succ, List.getElem_toArray, List.getElem_cons_zero, List.getElem_cons_succ]
        refine wpAnyH_take (i := 2) (v := ?_) rfl (by kernel_rfl) (by kernel_rfl) (by kernel_rfl) (fun _ _ _ h => h) (Or.inl ⟨by rfl, ?_⟩) (by assumption) ?_
        rotate_left
        · intro wq hSw
          obtain ⟨mq, hmq, _, _⟩ := hSw
          have a4 := hmq.cp 4 _ rfl; have a6 := hmq.cp 6 _ rfl; have a7 := hmq.cp 7 _ rfl; have b4 := hmq.cq 4 _ rfl; have b6 := hmq.cq 6 _ rfl; have b7 := hmq.cq 7 _ rfl
          clear hmq
          go_simp
          try with_reducible rfl
        simp only [Act.put, List.setIfInBounds_toArray, List.set_cons_zero, List.set_cons_succ, List.getElem_toArray, List.getElem_cons_zero, List.getElem_cons_succ]
        refine wpAnyH_take (i := 3) (v := undef) rfl (by kernel_rfl) (by kernel_rfl) (by kernel_rfl) (fun _ _ _ h => h) (Or.inr ⟨by rfl, rfl⟩) (by assumption) ?_
        simp only [Act.put, List.setIfInBounds_toArray, List.set_cons_zero, List.set_cons_succ, List.getElem_toArray, List.getElem_cons_zero, List.getElem_cons_succ]
        refine wpAnyH_take (i := 4) (v := undef) rfl (by kernel_rfl) (by kernel_rfl) (by kernel_rfl) (fun _ _ _ h => h) (Or.inr ⟨by rfl, rfl⟩) (by assumption) ?_
        simp only [Act.put, List.setIfInBounds_toArray, List.set_cons_zero, List.set_cons_succ, List.getElem_toArray, List.getElem_cons_zero, List.getElem_cons_succ]
        refine wpAnyH_take (i := 5) (v := ?_) rfl (by kernel_rfl) (by kernel_rfl) (by kernel_rfl) (fun _ _ _ h => h) (Or.inl ⟨by rfl, ?_⟩) (by assumption) ?_
        rotate_left
        · intro wq hSw
          obtain ⟨mq, hmq, _, _⟩ := hSw
          have a4 := hmq.cp 4 _ rfl; have a6 := hmq.cp 6 _ rfl; have a7 := hmq.cp 7 _ rfl; have b4 := hmq.cq 4 _ rfl; have b6 := hmq.cq 6 _ rfl; have b7 := hmq.cq 7 _ rfl
          clear hmq
          go_simp
          try with_reducible rfl
        simp only [Act.put, List.setIfInBounds_toArray, List.set_cons_zero, List.set_cons_succ, List.getElem_toArray, List.getElem_cons_zero, List.getElem_cons_succ]
        refine wpAnyH_take (i := 6) (v := ?_) rfl (by kernel_rfl) (by kernel_rfl) (by kernel_rfl) (fun _ _ _ h => h) (Or.inl ⟨by rfl, ?_⟩) (by assumption) ?_
        rotate_left
        · intro wq hSw
          obtain ⟨mq, hmq, _, _⟩ := hSw
          have a4 := hmq.cp 4 _ rfl; have a6 := hmq.cp 6 _ rfl; have a7 := hmq.cp 7 _ rfl; have b4 := hmq.cq 4 _ rfl; have b6 := hmq.cq 6 _ rfl; have b7 := hmq.cq 7 _ rfl
          clear hmq
          go_simp
          try with_reducible rfl
        simp only [Act.put, List.setIfInBounds_toArray, List.set_cons_zero, List.set_cons_succ, List.getElem_toArray, List.getElem_cons_zero, List.getElem_cons_succ]
        refine wpAnyH_take (i := 7) (v := ?_) rfl (by kernel_rfl) (by kernel_rfl) (by kernel_rfl) (fun _ _ _ h => h) (Or.inl ⟨by rfl, ?_⟩) (by assumption) ?_
        rotate_left
        · intro wq hSw
          obtain ⟨mq, hmq, _, _⟩ := hSw
          have a4 := hmq.cp 4 _ rfl; have a6 := hmq.cp 6 _ rfl; have a7 := hmq.cp 7 _ rfl; have b4 := hmq.cq 4 _ rfl; have b6 := hmq.cq 6 _ rfl; have b7 := hmq.cq 7 _ rfl
          clear hmq
          go_simp
          try with_reducible rfl
        simp only [Act.put, List.setIfInBounds_toArray, List.set_cons_zero, List.set_cons_succ, List.getElem_toArray, List.getElem_cons_zero, List.getElem_cons_succ]
        refine wpAnyH_take (i := 8) (v := ?_) rfl (by kernel_rfl) (by kernel_rfl) (by kernel_rfl) (fun _ _ _ h => h) (Or.inl ⟨by rfl, ?_⟩) (by assumption) ?_
        rotate_left
        · intro wq hSw
          obtain ⟨mq, hmq, _, _⟩ := hSw
          have a4 := hmq.cp 4 _ rfl; have a6 := hmq.cp 6 _ rfl; have a7 := hmq.cp 7 _ rfl; have b4 := hmq.cq 4 _ rfl; have b6 := hmq.cq 6 _ rfl; have b7 := hmq.cq 7 _ rfl
          clear hmq
          go_simp
          try with_reducible rfl
        simp only [Act.put, List.setIfInBounds_toArray, List.set_cons_zero, List.set_cons_succ, List.getElem_toArray, List.getElem_cons_zero, List.getElem_cons_succ]
        refine wpAnyH_take (i := 9) (v := ?_) rfl (by kernel_rfl) (by kernel_rfl) (by kernel_rfl) (fun _ _ _ h => h) (Or.inl ⟨by rfl, ?_⟩) (by assumption) ?_
        rotate_left
        · intro wq hSw
          obtain ⟨mq, hmq, _, _⟩ := hSw
          have a4 := hmq.cp 4 _ rfl; have a6 := hmq.cp 6 _ rfl; have a7 := hmq.cp 7 _ rfl; have b4 := hmq.cq 4 _ rfl; have b6 := hmq.cq 6 _ rfl; have b7 := hmq.cq 7 _ rfl
          clear hmq
          go_simp
          try with_reducible rfl
        simp only [Act.put, List.setIfInBounds_toArray, List.set_cons_zero, List.set_cons_succ, List.getElem_toArray, List.getElem_cons_zero, List.getElem_cons_succ]
        refine wpAnyH_take (i := 10) (v := ?_) rfl (by kernel_rfl) (by kernel_rfl) (by kernel_rfl) (fun _ _ _ h => h) (Or.inl ⟨by rfl, ?_⟩) (by assumption) ?_
        rotate_left
        · intro wq hSw
          obtain ⟨mq, hmq, _, _⟩ := hSw
          have a4 := hmq.cp 4 _ rfl; have a6 := hmq.cp 6 _ rfl; have a7 := hmq.cp 7 _ rfl; have b4 := hmq.cq 4 _ rfl; have b6 := hmq.cq 6 _ rfl; have b7 := hmq.cq 7 _ rfl
          clear hmq
          go_simp
          try with_reducible rfl
        simp only [Act.put, List.setIfInBounds_toArray, List.set_cons_zero, List.set_cons_succ, List.getElem_toArray, List.getElem_cons_zero, List.getElem_cons_succ]
        refine wpAnyH_take (i := 11) (v := ?_) rfl (by kernel_rfl) (by kernel_rfl) (by kernel_rfl) (fun _ _ _ h => h) (Or.inl ⟨by rfl, ?_⟩) (by assumption) ?_
        rotate_left
        · intro wq hSw
          obtain ⟨mq, hmq, _, _⟩ := hSw
          have a4 := hmq.cp 4 _ rfl; have a6 := hmq.cp 6 _ rfl; have a7 := hmq.cp 7 _ rfl; have b4 := hmq.cq 4 _ rfl; have b6 := hmq.cq 6 _ rfl; have b7 := hmq.cq 7 _ rfl
          clear hmq
          go_simp
          try with_reducible rfl
        simp only [Act.put, List.setIfInBounds_toArray, List.set_cons_zero, List.set_cons_succ, List.getElem_toArray, List.getElem_cons_zero, List.getElem_cons_succ]
        refine wpAnyH_take (i := 12) (v := ?_) rfl (by kernel_rfl) (by kernel_rfl) (by kernel_rfl) (fun _ _ _ h => h) (Or.inl ⟨by rfl, ?_⟩) (by assumption) ?_
        rotate_left
        · intro wq hSw
          obtain ⟨mq, hmq, _, _⟩ := hSw
          have a4 := hmq.cp 4 _ rfl; have a6 := hmq.cp 6 _ rfl; have a7 := hmq.cp 7 _ rfl; have b4 := hmq.cq 4 _ rfl; have b6 := hmq.cq 6 _ rfl; have b7 := hmq.cq 7 _ rfl
          clear hmq
          go_simp
          try with_reducible rfl
        simp only [Act.put, List.setIfInBounds_toArray, List.set_cons_zero, List.set_cons_succ, List.getElem_toArray, List.getElem_cons_zero, List.getElem_cons_succ]
        refine wpAnyH_take (i := 13) (v := ?_) rfl (by kernel_rfl) (by kernel_rfl) (by kernel_rfl) (fun _ _ _ h => h) (Or.inl ⟨by rfl, ?_⟩) (by assumption) ?_
        rotate_left
        · intro wq hSw
          obtain ⟨mq, hmq, _, _⟩ := hSw
          have a4 := hmq.cp 4 _ rfl; have a6 := hmq.cp 6 _ rfl; have a7 := hmq.cp 7 _ rfl; have b4 := hmq.cq 4 _ rfl; have b6 := hmq.cq 6 _ rfl; have b7 := hmq.cq 7 _ rfl
          clear hmq
          go_simp
          try with_reducible rfl
        simp only [Act.put, List.setIfInBounds_toArray, List.set_cons_zero, List.set_cons_succ, List.getElem_toArray, List.getElem_cons_zero, List.getElem_cons_succ]
        refine wpAnyH_take (i := 14) (v := ?_) rfl (by kernel_rfl) (by kernel_rfl) (by kernel_rfl) (fun _ _ _ h => h) (Or.inl ⟨by rfl, ?_⟩) (by assumption) ?_
        rotate_left
        · intro wq hSw
          obtain ⟨mq, hmq, _, _⟩ := hSw
          have a4 := hmq.cp 4 _ rfl; have a6 := hmq.cp 6 _ rfl; have a7 := hmq.cp 7 _ rfl; have b4 := hmq.cq 4 _ rfl; have b6 := hmq.cq 6 _ rfl; have b7 := hmq.cq 7 _ rfl
          clear hmq
          go_simp
          try with_reducible rfl
        simp only [Act.put, List.setIfInBounds_toArray, List.set_cons_zero, List.set_cons_succ, List.getElem_toArray, List.getElem_cons_zero, List.getElem_cons_succ]
        refine wpAnyH_take (i := 15) (v := undef) rfl (by kernel_rfl) (by kernel_rfl) (by kernel_rfl) (fun _ _ _ h => h) (Or.inr ⟨by rfl, rfl⟩) (by assumption) ?_
        simp only [Act.put, List.setIfInBounds_toArray, List.set_cons_zero, List.set_cons_succ, List.getElem_toArray, List.getElem_cons_zero, List.getElem_cons_succ]
        refine wpAnyH_take (i := 16) (v := undef) rfl (by kernel_rfl) (by kernel_rfl) (by kernel_rfl) (fun _ _ _ h => h) (Or.inr ⟨by rfl, rfl⟩) (by assumption) ?_
        simp only [Act.put, List.setIfInBounds_toArray, List.set_cons_zero, List.set_cons_succ, List.getElem_toArray, List.getElem_cons_zero, List.getElem_cons_succ]
        refine wpAnyH_take (i := 17) (v := ?_) rfl (by kernel_rfl) (by kernel_rfl) (by kernel_rfl) (fun _ _ _ h => h) (Or.inl ⟨by rfl, ?_⟩) (by assumption) ?_
        rotate_left
        · intro wq hSw
          obtain ⟨mq, hmq, _, _⟩ := hSw
          have a4 := hmq.cp 4 _ rfl; have a6 := hmq.cp 6 _ rfl; have a7 := hmq.cp 7 _ rfl; have b4 := hmq.cq 4 _ rfl; have b6 := hmq.cq 6 _ rfl; have b7 := hmq.cq 7 _ rfl
          clear hmq
          go_simp
          try with_reducible rfl
        simp only [Act.put, List.setIfInBounds_toArray, List.set_cons_zero, List.set_cons_succ, List.getElem_toArray, List.getElem_cons_zero, List.getElem_cons_succ]
        refine wpAnyH_take (i := 18) (v := ?_) rfl (by kernel_rfl) (by kernel_rfl) (by kernel_rfl) (fun _ _ _ h => h) (Or.inl ⟨by rfl, ?_⟩) (by assumption) ?_
        rotate_left
        · intro wq hSw
          obtain ⟨mq, hmq, _, _⟩ := hSw
          have a4 := hmq.cp 4 _ rfl; have a6 := hmq.cp 6 _ rfl; have a7 := hmq.cp 7 _ rfl; have b4 := hmq.cq 4 _ rfl; have b6 := hmq.cq 6 _ rfl; have b7 := hmq.cq 7 _ rfl
          clear hmq
          go_simp
          try with_reducible rfl
        simp only [Act.put, List.setIfInBounds_toArray, List.set_cons_zero, List.set_cons_succ, List.getElem_toArray, List.getElem_cons_zero, List.getElem_cons_succ]
        refine wpAnyH_ready (rs := [19]) (by kernel_rfl) (by simp) ?_
        refine AllReadyH.cons rfl (fun K hK => ?_) AllReadyH.nil
        obtain ⟨mq, hmq, hn, ht⟩ := hHeld
        have hco := hmq.co 4 _ rfl
        have hfo := hmq.fo 4 (by decide)
        have HM := Lib.hid hmq
        have HN := Lib.hid hn
        have HTT := Lib.hid ht
        clear hmq hn ht
        go_simp
        refine hK.out _ _ ⟨_, HM.out.set4 _, HN.out, HTT.out⟩ ?_
        clear hK K hco hfo HM HN HTT
        intro hHeld
        refine wpAnyH_take (i := 20) (v := ?_) rfl (by kernel_rfl) (by kernel_rfl) (by kernel_rfl) (fun _ _ _ h => h) (Or.inl ⟨by rfl, ?_⟩) (by assumption) ?_
        rotate_left
        · intro wq hSw
          obtain ⟨mq, hmq, _, _⟩ := hSw
          have a4 := hmq.cp 4 _ rfl; have a6 := hmq.cp 6 _ rfl; have a7 := hmq.cp 7 _ rfl; have b4 := hmq.cq 4 _ rfl; have b6 := hmq.cq 6 _ rfl; have b7 := hmq.cq 7 _ rfl
          clear hmq
          go_simp
          try with_reducible rfl
        simp only [Act.put, List.setIfInBounds_toArray, List.set_cons_zero, List.set_cons_succ, List.getElem_toArray, List.getElem_cons_zero, List.getElem_cons_succ]
        refine wpAnyH_ready (rs := [21]) (by kernel_rfl) (by simp) ?_
        refine AllReadyH.cons rfl (fun K hK => ?_) AllReadyH.nil
        obtain ⟨mq, hmq, hn, ht⟩ := hHeld
        have hco := hmq.co 6 _ rfl
        have hfo := hmq.fo 6 (by decide)
        have HM := Lib.hid hmq
        have HN := Lib.hid hn
        have HTT := Lib.hid ht
        clear hmq hn ht
        go_simp
        refine hK.out _ _ ⟨_, HM.out.set6 _, HN.out, HTT.out⟩ ?_
        clear hK K hco hfo HM HN HTT
        intro hHeld
        refine wpAnyH_take (i := 22) (v := ?_) rfl (by kernel_rfl) (by kernel_rfl) (by kernel_rfl) (fun _ _ _ h => h) (Or.inl ⟨by rfl, ?_⟩) (by assumption) ?_
        rotate_left
        · intro wq hSw
          obtain ⟨mq, hmq, _, _⟩ := hSw
          have a4 := hmq.cp 4 _ rfl; have a6 := hmq.cp 6 _ rfl; have a7 := hmq.cp 7 _ rfl; have b4 := hmq.cq 4 _ rfl; have b6 := hmq.cq 6 _ rfl; have b7 := hmq.cq 7 _ rfl
          clear hmq
          go_simp
          try with_reducible rfl
        simp only [Act.put, List.setIfInBounds_toArray, List.set_cons_zero, List.set_cons_succ, List.getElem_toArray, List.getElem_cons_zero, List.getElem_cons_succ]
        refine wpAnyH_ready (rs := [23]) (by kernel_rfl) (by simp) ?_
        refine AllReadyH.cons rfl (fun K hK => ?_) AllReadyH.nil
        obtain ⟨mq, hmq, hn, ht⟩ := hHeld
        have hco := hmq.co 7 _ rfl
        have hfo := hmq.fo 7 (by decide)
        have HM := Lib.hid hmq
        have HN := Lib.hid hn
        have HTT := Lib.hid ht
        clear hmq hn ht
        go_simp
        refine hK.out _ _ ⟨_, HM.out.set7 _, HN.out, HTT.out⟩ ?_
        clear hK K hco hfo HM HN HTT
        intro hHeld
        have HZ0 := Lib.hid hHeld
        clear hHeld
        refine wpAnyH_done (by kernel_rfl) (normal_gen (M := MX p q A B c d w.heap.size w) HZ0.out (fun wz hHeld => ?_)) _
        clear HZ0
        have HZ := Lib.hid hHeld
        clear hHeld
        go_wp2
        all_goals (go_meet; exact HZ.out)
      · as_aux_lemma =>
        go_wp2_with fail
        refine wp_region_held_drew (S := MX p q A B c d w.heap.size w) (by kernel_rfl) (HH.out.later (Below.refl _ _).drew) ?_
        clear HH
        intro hHeld
        refine wpAnyH_take (i := 0) (v := ?_) rfl (by kernel_rfl) (by kernel_rfl) (by kernel_rfl) (fun _ _ _ h => h) (Or.inl ⟨by rfl, ?_⟩) (by assumption) ?_
        rotate_left
        · intro wq hSw
          obtain ⟨mq, hmq, _, _⟩ := hSw
          have a4 := hmq.cp 4 _ rfl; have a6 := hmq.cp 6 _ rfl; have a7 := hmq.cp 7 _ rfl; have b4 := hmq.cq 4 _ rfl; have b6 := hmq.cq 6 _ rfl; have b7 := hmq.cq 7 _ rfl
          clear hmq
          go_simp
          try with_reducible rfl
        simp only [Act.put, List.setIfInBounds_toArray, List.set_cons_zero, List.set_cons_succ, List.getElem_toArray, List.getElem_cons_zero]
        refine wpAnyH_take (i := 1) (v := ?_) rfl (by kernel_rfl) (by kernel_rfl) (by kernel_rfl) (fun _ _ _ h => h) (Or.inl ⟨by rfl, ?_⟩) (by assumption) ?_
        rotate_left
        · intro wq hSw
          obtain ⟨mq, hmq, _, _⟩ := hSw
          have a4 := hmq.cp 4 _ rfl; have a6 := hmq.cp 6 _ rfl; have a7 := hmq.cp 7 _ rfl; have b4 := hmq.cq 4 _ rfl; have b6 := hmq.cq 6 _ rfl; have b7 := hmq.cq 7 _ rfl
          clear hmq
          go_simp
          try with_reducible rfl
        simp only [Act.put, List.setIfInBounds_toArray, List.set_cons_zero, List.set_cons_succ, List.getElem_toArray, List.getElem_cons_zero, List.getElem_cons_succ]
        refine wpAnyH_take (i := 2) (v := ?_) rfl (by kernel_rfl) (by kernel_rfl) (by kernel_rfl) (fun _ _ _ h => h) (Or.inl ⟨by rfl, ?_⟩) (by assumption) ?_
        rotate_left
        · intro wq hSw
          obtain ⟨mq, hmq, _, _⟩ := hSw
          have a4 := hmq.cp 4 _ rfl; have a6 := hmq.cp 6 _ rfl; have a7 := hmq.cp 7 _ rfl; have b4 := hmq.cq 4 _ rfl; have b6 := hmq.cq 6 _ rfl; have b7 := hmq.cq 7 _ rfl
          clear hmq
          go_simp
          try with_reducible rfl
        simp only [Act.put, List.setIfInBounds_toArray, List.set_cons_zero, List.set_cons_succ, List.getElem_toArray, List.getElem_cons_zero, List.getElem_cons_succ]
        refine wpAnyH_take (i := 3) (v := undef) rfl (by kernel_rfl) (by kernel_rfl) (by kernel_rfl) (fun _ _ _ h => h) (Or.inr ⟨by rfl, rfl⟩) (by assumption) ?_
        simp only [Act.put, List.setIfInBounds_toArray, List.set_cons_zero, List.set_cons_succ, List.getElem_toArray, List.getElem_cons_zero, List.getElem_cons_succ]
        refine wpAnyH_take (i := 4) (v := undef) rfl (by kernel_rfl) (by kernel_rfl) (by kernel_rfl) (fun _ _ _ h => h) (Or.inr ⟨by rfl, rfl⟩) (by assumption) ?_
        simp only [Act.put, List.setIfInBounds_toArray, List.set_cons_zero, List.set_cons_succ, List.getElem_toArray, List.getElem_cons_zero, List.getElem_cons_succ]
        refine wpAnyH_take (i := 5) (v := ?_) rfl (by kernel_rfl) (by kernel_rfl) (by kernel_rfl) (fun _ _ _ h => h) (Or.inl ⟨by rfl, ?_⟩) (by assumption) ?_
        rotate_left
        · intro wq hSw
          obtain ⟨mq, hmq, _, _⟩ := hSw
          have a4 := hmq.cp 4 _ rfl; have a6 := hmq.cp 6 _ rfl; have a7 := hmq.cp 7 _ rfl; have b4 := hmq.cq 4 _ rfl; have b6 := hmq.cq 6 _ rfl; have b7 := hmq.cq 7 _ rfl
          clear hmq
          go_simp
          try with_reducible rfl
        simp only [Act.put, List.setIfInBounds_toArray, List.set_cons_zero, List.set_cons_succ, List.getElem_toArray, List.getElem_cons_zero, List.getElem_cons_succ]
        refine wpAnyH_take (i := 6) (v := ?_) rfl (by kernel_rfl) (by kernel_rfl) (by kernel_rfl) (fun _ _ _ h => h) (Or.inl ⟨by rfl, ?_⟩) (by assumption) ?_
        rotate_left
        · intro wq hSw
          obtain ⟨mq, hmq, _, _⟩ := hSw
          have a4 := hmq.cp 4 _ rfl; have a6 := hmq.cp 6 _ rfl; have a7 := hmq.cp 7 _ rfl; have b4 := hmq.cq 4 _ rfl; have b6 := hmq.cq 6 _ rfl; have b7 := hmq.cq 7 _ rfl
          clear hmq
          go_simp
          try with_reducible rfl
        simp only [Act.put, List.setIfInBounds_toArray, List.set_cons_zero, List.set_cons_succ, List.getElem_toArray, List.getElem_cons_zero, List.getElem_cons_succ]
        refine wpAnyH_take (i := 7) (v := ?_) rfl (by kernel_rfl) (by kernel_rfl) (by kernel_rfl) (fun _ _ _ h => h) (Or.inl ⟨by rfl, ?_⟩) (by assumption) ?_
        rotate_left
        · intro wq hSw
          obtain ⟨mq, hmq, _, _⟩ := hSw
          have a4 := hmq.cp 4 _ rfl; have a6 := hmq.cp 6 _ rfl; have a7 := hmq.cp 7 _ rfl; have b4 := hmq.cq 4 _ rfl; have b6 := hmq.cq 6 _ rfl; have b7 := hmq.cq 7 _ rfl
          clear hmq
          go_simp
          try with_reducible rfl
        simp only [Act.put, List.setIfInBounds_toArray, List.set_cons_zero, List.set_cons_succ, List.getElem_toArray, List.getElem_cons_zero, List.getElem_cons_succ]
        refine wpAnyH_take (i := 8) (v := ?_) rfl (by kernel_rfl) (by kernel_rfl) (by kernel_rfl) (fun _ _ _ h => h) (Or.inl ⟨by rfl, ?_⟩) (by assumption) ?_
        rotate_left
        · intro wq hSw
          obtain ⟨mq, hmq, _, _⟩ := hSw
          have a4 := hmq.cp 4 _ rfl; have a6 := hmq.cp 6 _ rfl; have a7 := hmq.cp 7 _ rfl; have b4 := hmq.cq 4 _ rfl; have b6 := hmq.cq 6 _ rfl; have b7 := hmq.cq 7 _ rfl
          clear hmq
          go_simp
          try with_reducible rfl
        simp only [Act.put, List.setIfInBounds_toArray, List.set_cons_zero, List.set_cons_succ, List.getElem_toArray, List.getElem_cons_zero, List.getElem_cons_succ]
        refine wpAnyH_take (i := 9) (v := ?_) rfl (by kernel_rfl) (by kernel_rfl) (by kernel_rfl) (fun _ _ _ h => h) (Or.inl ⟨by rfl, ?_⟩) (by assumption) ?_
        rotate_left
        · intro wq hSw
          obtain ⟨mq, hmq, _, _⟩ := hSw
          have a4 := hmq.cp 4 _ rfl; have a6 := hmq.cp 6 _ rfl; have a7 := hmq.cp 7 _ rfl; have b4 := hmq.cq 4 _ rfl; have b6 := hmq.cq 6 _ rfl; have b7 := hmq.cq 7 _ rfl
          clear hmq
          go_simp
          try with_reducible rfl
        simp only [Act.put, List.setIfInBounds_toArray, List.set_cons_zero, List.set_cons_succ, List.getElem_toArray, List.getElem_cons_zero, List.getElem_cons_succ]
        refine wpAnyH_take (i := 10) (v := ?_) rfl (by kernel_rfl) (by kernel_rfl) (by kernel_rfl) (fun _ _ _ h => h) (Or.inl ⟨by rfl, ?_⟩) (by assumption) ?_
        rotate_left
        · intro wq hSw
          obtain ⟨mq, hmq, _, _⟩ := hSw
          have a4 := hmq.cp 4 _ rfl; have a6 := hmq.cp 6 _ rfl; have a7 := hmq.cp 7 _ rfl; have b4 := hmq.cq 4 _ rfl; have b6 := hmq.cq 6 _ rfl; have b7 := hmq.cq 7 _ rfl
          clear hmq
          go_simp
          try with_reducible rfl
        simp only [Act.put, List.setIfInBounds_toArray, List.set_cons_zero, List.set_cons_succ, List.getElem_toArray, List.getElem_cons_zero, List.getElem_cons_succ]
        refine wpAnyH_take (i := 11) (v := ?_) rfl (by kernel_rfl) (by kernel_rfl) (by kernel_rfl) (fun _ _ _ h => h) (Or.inl ⟨by rfl, ?_⟩) (by assumption) ?_
        rotate_left
        · intro wq hSw
          obtain ⟨mq, hmq, _, _⟩ := hSw
          have a4 := hmq.cp 4 _ rfl; have a6 := hmq.cp 6 _ rfl; have a7 := hmq.cp 7 _ rfl; have b4 := hmq.cq 4 _ rfl; have b6 := hmq.cq 6 _ rfl; have b7 := hmq.cq 7 _ rfl
          clear hmq
          go_simp
          try with_reducible rfl
        simp only [Act.put, List.setIfInBounds_toArray, List.set_cons_zero, List.set_cons_succ, List.getElem_toArray, List.getElem_cons_zero, List.getElem_cons_succ]
        refine wpAnyH_take (i := 12) (v := ?_) rfl (by kernel_rfl) (by kernel_rfl) (by kernel_rfl) (fun _ _ _ h => h) (Or.inl ⟨by rfl, ?_⟩) (by assumption) ?_
        rotate_left
        · intro wq hSw
          obtain ⟨mq, hmq, _, _⟩ := hSw
          have a4 := hmq.cp 4 _ rfl; have a6 := hmq.cp 6 _ rfl; have a7 := hmq.cp 7 _ rfl; have b4 := hmq.cq 4 _ rfl; have b6 := hmq.cq 6 _ rfl; have b7 := hmq.cq 7 _ rfl
          clear hmq
          go_simp
          try with_reducible rfl
        simp only [Act.put, List.setIfInBounds_toArray, List.set_cons_zero, List.set_cons_succ, List.getElem_toArray, List.getElem_cons_zero, List.getElem_cons_succ]
        refine wpAnyH_take (i := 13) (v := ?_) rfl (by kernel_rfl) (by kernel_rfl) (by kernel_rfl) (fun _ _ _ h => h) (Or.inl ⟨by rfl, ?_⟩) (by assumption) ?_
        rotate_left
        · intro wq hSw
          obtain ⟨mq, hmq, _, _⟩ := hSw
          have a4 := hmq.cp 4 _ rfl; have a6 := hmq.cp 6 _ rfl; have a7 := hmq.cp 7 _ rfl; have b4 := hmq.cq 4 _ rfl; have b6 := hmq.cq 6 _ rfl; have b7 := hmq.cq 7 _ rfl
          clear hmq
          go_simp
          try with_reducible rfl
        simp only [Act.put, List.setIfInBounds_toArray, List.set_cons_zero, List.set_cons_succ, List.getElem_toArray, List.getElem_cons_zero, List.getElem_cons_succ]
        refine wpAnyH_take (i := 14) (v := ?_) rfl (by kernel_rfl) (by kernel_rfl) (by kernel_rfl) (fun _ _ _ h => h) (Or.inl ⟨by rfl, ?_⟩) (by assumption) ?_
        rotate_left
        · intro wq hSw
          obtain ⟨mq, hmq, _, _⟩ := hSw
          have a4 := hmq.cp 4 _ rfl; have a6 := hmq.cp 6 _ rfl; have a7 := hmq.cp 7 _ rfl; have b4 := hmq.cq 4 _ rfl; have b6 := hmq.cq 6 _ rfl; have b7 := hmq.cq 7 _ rfl
          clear hmq
          go_simp
          try with_reducible rfl
        simp only [Act.put, List.setIfInBounds_toArray, List.set_cons_zero, List.set_cons_succ, List.getElem_toArray, List.getElem_cons_zero, List.getElem_cons_succ]
        refine wpAnyH_take (i := 15) (v := ?_) rfl (by kernel_rfl) (by kernel_rfl) (by kernel_rfl) (fun _ _ _ h => h) (Or.inl ⟨by rfl, ?_⟩) (by assumption) ?_
        rotate_left
        · intro wq hSw
          obtain ⟨mq, hmq, _, _⟩ := hSw
          have a4 := hmq.cp 4 _ rfl; have a6 := hmq.cp 6 _ rfl; have a7 := hmq.cp 7 _ rfl; have b4 := hmq.cq 4 _ rfl; have b6 := hmq.cq 6 _ rfl; have b7 := hmq.cq 7 _ rfl
          clear hmq
          go_simp
          try with_reducible rfl
        simp only [Act.put, List.setIfInBounds_toArray, List.set_cons_zero, List.set_cons_succ, List.getElem_toArray, List.getElem_cons_zero, List.getElem_cons_succ]
        refine wpAnyH_take (i := 16) (v := ?_) rfl (by kernel_rfl) (by kernel_rfl) (by kernel_rfl) (fun _ _ _ h => h) (Or.inl ⟨by rfl, ?_⟩) (by assumption) ?_
        rotate_left
        · intro wq hSw
          obtain ⟨mq, hmq, _, _⟩ := hSw
          have a4 := hmq.cp 4 _ rfl; have a6 := hmq.cp 6 _ rfl; have a7 := hmq.cp 7 _ rfl; have b4 := hmq.cq 4 _ rfl; have b6 := hmq.cq 6 _ rfl; have b7 := hmq.cq 7 _ rfl
          clear hmq
          go_simp
          try with_reducible rfl
        simp only [Act.put, List.setIfInBounds_toArray, List.set_cons_zero, List.set_cons_succ, List.getElem_toArray, List.getElem_cons_zero, List.getElem_cons_succ]
        refine wpAnyH_take (i := 17) (v := ?_) rfl (by kernel_rfl) (by kernel_rfl) (by kernel_rfl) (fun _ _ _ h => h) (Or.inl ⟨by rfl, ?_⟩) (by assumption) ?_
        rotate_left
        · intro wq hSw
          obtain ⟨mq, hmq, _, _⟩ := hSw
          have a4 := hmq.cp 4 _ rfl; have a6 := hmq.cp 6 _ rfl; have a7 := hmq.cp 7 _ rfl; have b4 := hmq.cq 4 _ rfl; have b6 := hmq.cq 6 _ rfl; have b7 := hmq.cq 7 _ rfl
          clear hmq
          go_simp
          try with_reducible rfl
        simp only [Act.put, List.setIfInBounds_toArray, List.set_cons_zero, List.set_cons_succ, List.getElem_toArray, List.getElem_cons_zero, List.getElem_cons_succ]
        refine wpAnyH_take (i := 18) (v := ?_) rfl (by kernel_rfl) (by kernel_rfl) (by kernel_rfl) (fun _ _ _ h => h) (Or.inl ⟨by rfl, ?_⟩) (by assumption) ?_
        rotate_left
        · intro wq hSw
          obtain ⟨mq, hmq, _, _⟩ := hSw
          have a4 := hmq.cp 4 _ rfl; have a6 := hmq.cp 6 _ rfl; have a7 := hmq.cp 7 _ rfl; have b4 := hmq.cq 4 _ rfl; have b6 := hmq.cq 6 _ rfl; have b7 := hmq.cq 7 _ rfl
          clear hmq
          go_simp
          try with_reducible rfl
        simp only [Act.put, List.setIfInBounds_toArray, List.set_cons_zero, List.set_cons_succ, List.getElem_toArray, List.getElem_cons_zero, List.getElem_cons_succ]
        refine wpAnyH_ready (rs := [19]) (by kernel_rfl) (by simp) ?_
        refine AllReadyH.cons rfl (fun K hK => ?_) AllReadyH.nil
        obtain ⟨mq, hmq, hn, ht⟩ := hHeld
        have hco := hmq.co 4 _ rfl
        have hfo := hmq.fo 4 (by decide)
        have HM := Lib.hid hmq
        have HN := Lib.hid hn
        have HTT := Lib.hid ht
        clear hmq hn ht
        go_simp
        refine hK.out _ _ ⟨_, HM.out.set4 _, HN.out, HTT.out⟩ ?_
        clear hK K hco hfo HM HN HTT
        intro hHeld
        refine wpAnyH_take (i := 20) (v := ?_) rfl (by kernel_rfl) (by kernel_rfl) (by kernel_rfl) (fun _ _ _ h => h) (Or.inl ⟨by rfl, ?_⟩) (by assumption) ?_
        rotate_left
        · intro wq hSw
          obtain ⟨mq, hmq, _, _⟩ := hSw
          have a4 := hmq.cp 4 _ rfl; have a6 := hmq.cp 6 _ rfl; have a7 := hmq.cp 7 _ rfl; have b4 := hmq.cq 4 _ rfl; have b6 := hmq.cq 6 _ rfl; have b7 := hmq.cq 7 _ rfl
          clear hmq
          go_simp
          try with_reducible rfl
        simp only [Act.put, List.setIfInBounds_toArray, List.set_cons_zero, List.set_cons_succ, List.getElem_toArray, List.getElem_cons_zero, List.getElem_cons_succ]
        refine wpAnyH_ready (rs := [21]) (by kernel_rfl) (by simp) ?_
        refine AllReadyH.cons rfl (fun K hK => ?_) AllReadyH.nil
        obtain ⟨mq, hmq, hn, ht⟩ := hHeld
        have hco := hmq.co 6 _ rfl
        have hfo := hmq.fo 6 (by decide)
        have HM := Lib.hid hmq
        have HN := Lib.hid hn
        have HTT := Lib.hid ht
        clear hmq hn ht
        go_simp
        refine hK.out _ _ ⟨_, HM.out.set6 _, HN.out, HTT.out⟩ ?_
        clear hK K hco hfo HM HN HTT
        intro hHeld
        refine wpAnyH_take (i := 22) (v := ?_) rfl (by kernel_rfl) (by kernel_rfl) (by kernel_rfl) (fun _ _ _ h => h) (Or.inl ⟨by rfl, ?_⟩) (by assumption) ?_
        rotate_left
        · intro wq hSw
          obtain ⟨mq, hmq, _, _⟩ := hSw
          have a4 := hmq.cp 4 _ rfl; have a6 := hmq.cp 6 _ rfl; have a7 := hmq.cp 7 _ rfl; have b4 := hmq.cq 4 _ rfl; have b6 := hmq.cq 6 _ rfl; have b7 := hmq.cq 7 _ rfl
          clear hmq
          go_simp
          try with_reducible rfl
        simp only [Act.put, List.setIfInBounds_toArray, List.set_cons_zero, List.set_cons_succ, List.getElem_toArray, List.getElem_cons_zero, List.getElem_cons_succ]
        refine wpAnyH_ready (rs := [23]) (by kernel_rfl) (by simp) ?_
        refine AllReadyH.cons rfl (fun K hK => ?_) AllReadyH.nil
        obtain ⟨mq, hmq, hn, ht⟩ := hHeld
        have hco := hmq.co 7 _ rfl
        have hfo := hmq.fo 7 (by decide)
        have HM := Lib.hid hmq
        have HN := Lib.hid hn
        have HTT := Lib.hid ht
        clear hmq hn ht
        go_simp
        refine hK.out _ _ ⟨_, HM.out.set7 _, HN.out, HTT.out⟩ ?_
        clear hK K hco hfo HM HN HTT
        intro hHeld
        have HZ0 := Lib.hid hHeld
        clear hHeld
        refine wpAnyH_done (by kernel_rfl) (normal_gen (M := MX p q A B c d w.heap.size w) HZ0.out (fun wz hHeld => ?_)) _
        clear HZ0
        have HZ := Lib.hid hHeld
        clear hHeld
        go_wp2
        all_goals (go_meet; exact HZ.out)
      · as_aux_lemma =>
        go_wp2_with fail
        refine wp_region_held_drew (S := MX p q A B c d w.heap.size w) (by kernel_rfl) (HH.out.later (Below.refl _ _).drew) ?_
        clear HH
        intro hHeld
        refine wpAnyH_take (i := 0) (v := ?_) rfl (by kernel_rfl) (by kernel_rfl) (by kernel_rfl) (fun _ _ _ h => h) (Or.inl ⟨by rfl, ?_⟩) (by assumption) ?_
        rotate_left
        · intro wq hSw
          obtain ⟨mq, hmq, _, _⟩ := hSw
          have a4 := hmq.cp 4 _ rfl; have a6 := hmq.cp 6 _ rfl; have a7 := hmq.cp 7 _ rfl; have b4 := hmq.cq 4 _ rfl; have b6 := hmq.cq 6 _ rfl; have b7 := hmq.cq 7 _ rfl
          clear hmq
          go_simp
          try with_reducible rfl
        simp only [Act.put, List.setIfInBounds_toArray, List.set_cons_zero, List.set_cons_succ, List.getElem_toArray, List.getElem_cons_zero]
        refine wpAnyH_take (i := 1) (v := ?_) rfl (by kernel_rfl) (by kernel_rfl) (by kernel_rfl) (fun _ _ _ h => h) (Or.inl ⟨by rfl, ?_⟩) (by assumption) ?_
        rotate_left
        · intro wq hSw
          obtain ⟨mq, hmq, _, _⟩ := hSw
          have a4 := hmq.cp 4 _ rfl; have a6 := hmq.cp 6 _ rfl; have a7 := hmq.cp 7 _ rfl; have b4 := hmq.cq 4 _ rfl; have b6 := hmq.cq 6 _ rfl; have b7 := hmq.cq 7 _ rfl
          clear hmq
          go_simp
          try with_reducible rfl
        simp only [Act.put, List.setIfInBounds_toArray, List.set_cons_zero, List.set_cons_succ, List.getElem_toArray, List.getElem_cons_zero, List.getElem_cons_succ]
        refine wpAnyH_take (i := 2) (v := ?_) rfl (by kernel_rfl) (by kernel_rfl) (by kernel_rfl) (fun _ _ _ h => h) (Or.inl ⟨by rfl, ?_⟩) (by assumption) ?_
        rotate_left
        · intro wq hSw
          obtain ⟨mq, hmq, _, _⟩ := hSw
          have a4 := hmq.cp 4 _ rfl; have a6 := hmq.cp 6 _ rfl; have a7 := hmq.cp 7 _ rfl; have b4 := hmq.cq 4 _ rfl; have b6 := hmq.cq 6 _ rfl; have b7 := hmq.cq 7 _ rfl
          clear hmq
          go_simp
          try with_reducible rfl
        simp only [Act.put, List.setIfInBounds_toArray, List.set_cons_zero, List.set_cons_succ, List.getElem_toArray, List.getElem_cons_zero, List.getElem_cons_succ]
        refine wpAnyH_take (i := 3) (v := ?_) rfl (by kernel_rfl) (by kernel_rfl) (by kernel_rfl) (fun _ _ _ h => h) (Or.inl ⟨by rfl, ?_⟩) (by assumption) ?_
        rotate_left
        · intro wq hSw
          obtain ⟨mq, hmq, _, _⟩ := hSw
          have a4 := hmq.cp 4 _ rfl; have a6 := hmq.cp 6 _ rfl; have a7 := hmq.cp 7 _ rfl; have b4 := hmq.cq 4 _ rfl; have b6 := hmq.cq 6 _ rfl; have b7 := hmq.cq 7 _ rfl
          clear hmq
          go_simp
          try with_reducible rfl
        simp only [Act.put, List.setIfInBounds_toArray, List.set_cons_zero, List.set_cons_succ, List.getElem_toArray, List.getElem_cons_zero, List.getElem_cons_succ]
        refine wpAnyH_take (i := 4) (v := ?_) rfl (by kernel_rfl) (by kernel_rfl) (by kernel_rfl) (fun _ _ _ h => h) (Or.inl ⟨by rfl, ?_⟩) (by assumption) ?_
        rotate_left
        · intro wq hSw
          obtain ⟨mq, hmq, _, _⟩ := hSw
          have a4 := hmq.cp 4 _ rfl; have a6 := hmq.cp 6 _ rfl; have a7 := hmq.cp 7 _ rfl; have b4 := hmq.cq 4 _ rfl; have b6 := hmq.cq 6 _ rfl; have b7 := hmq.cq 7 _ rfl
          clear hmq
          go_simp
          try with_reducible rfl
        simp only [Act.put, List.setIfInBounds_toArray, List.set_cons_zero, List.set_cons_succ, List.getElem_toArray, List.getElem_cons_zero, List.getElem_cons_succ]
        refine wpAnyH_take (i := 5) (v := ?_) rfl (by kernel_rfl) (by kernel_rfl) (by kernel_rfl) (fun _ _ _ h => h) (Or.inl ⟨by rfl, ?_⟩) (by assumption) ?_
        rotate_left
        · intro wq hSw
          obtain ⟨mq, hmq, _, _⟩ := hSw
          have a4 := hmq.cp 4 _ rfl; have a6 := hmq.cp 6 _ rfl; have a7 := hmq.cp 7 _ rfl; have b4 := hmq.cq 4 _ rfl; have b6 := hmq.cq 6 _ rfl; have b7 := hmq.cq 7 _ rfl
          clear hmq
          go_simp
          try with_reducible rfl
        simp only [Act.put, List.setIfInBounds_toArray, List.set_cons_zero, List.set_cons_succ, List.getElem_toArray, List.getElem_cons_zero, List.getElem_cons_succ]
        refine wpAnyH_take (i := 6) (v := ?_) rfl (by kernel_rfl) (by kernel_rfl) (by kernel_rfl) (fun _ _ _ h => h) (Or.inl ⟨by rfl, ?_⟩) (by assumption) ?_
        rotate_left
        · intro wq hSw
          obtain ⟨mq, hmq, _, _⟩ := hSw
          have a4 := hmq.cp 4 _ rfl; have a6 := hmq.cp 6 _ rfl; have a7 := hmq.cp 7 _ rfl; have b4 := hmq.cq 4 _ rfl; have b6 := hmq.cq 6 _ rfl; have b7 := hmq.cq 7 _ rfl
          clear hmq
          go_simp
          try with_reducible rfl
        simp only [Act.put, List.setIfInBounds_toArray, List.set_cons_zero, List.set_cons_succ, List.getElem_toArray, List.getElem_cons_zero, List.getElem_cons_succ]
        refine wpAnyH_take (i := 7) (v := ?_) rfl (by kernel_rfl) (by kernel_rfl) (by kernel_rfl) (fun _ _ _ h => h) (Or.inl ⟨by rfl, ?_⟩) (by assumption) ?_
        rotate_left
        · intro wq hSw
          obtain ⟨mq, hmq, _, _⟩ := hSw
          have a4 := hmq.cp 4 _ rfl; have a6 := hmq.cp 6 _ rfl; have a7 := hmq.cp 7 _ rfl; have b4 := hmq.cq 4 _ rfl; have b6 := hmq.cq 6 _ rfl; have b7 := hmq.cq 7 _ rfl
          clear hmq
          go_simp
          try with_reducible rfl
        simp only [Act.put, List.setIfInBounds_toArray, List.set_cons_zero, List.set_cons_succ, List.getElem_toArray, List.getElem_cons_zero, List.getElem_cons_succ]
        refine wpAnyH_take (i := 8) (v := ?_) rfl (by kernel_rfl) (by kernel_rfl) (by kernel_rfl) (fun _ _ _ h => h) (Or.inl ⟨by rfl, ?_⟩) (by assumption) ?_
        rotate_left
        · intro wq hSw
          obtain ⟨mq, hmq, _, _⟩ := hSw
          have a4 := hmq.cp 4 _ rfl; have a6 := hmq.cp 6 _ rfl; have a7 := hmq.cp 7 _ rfl; have b4 := hmq.cq 4 _ rfl; have b6 := hmq.cq 6 _ rfl; have b7 := hmq.cq 7 _ rfl
          clear hmq
          go_simp
          try with_reducible rfl
        simp only [Act.put, List.setIfInBounds_toArray, List.set_cons_zero, List.set_cons_succ, List.getElem_toArray, List.getElem_cons_zero, List.getElem_cons_succ]
        refine wpAnyH_take (i := 9) (v := undef) rfl (by kernel_rfl) (by kernel_rfl) (by kernel_rfl) (fun _ _ _ h => h) (Or.inr ⟨by rfl, rfl⟩) (by assumption) ?_
        simp only [Act.put, List.setIfInBounds_toArray, List.set_cons_zero, List.set_cons_succ, List.getElem_toArray, List.getElem_cons_zero, List.getElem_cons_succ]
        refine wpAnyH_take (i := 10) (v := undef) rfl (by kernel_rfl) (by kernel_rfl) (by kernel_rfl) (fun _ _ _ h => h) (Or.inr ⟨by rfl, rfl⟩) (by assumption) ?_
        simp only [Act.put, List.setIfInBounds_toArray, List.set_cons_zero, List.set_cons_succ, List.getElem_toArray, List.getElem_cons_zero, List.getElem_cons_succ]
        refine wpAnyH_take (i := 11) (v := ?_) rfl (by kernel_rfl) (by kernel_rfl) (by kernel_rfl) (fun _ _ _ h => h) (Or.inl ⟨by rfl, ?_⟩) (by assumption) ?_
        rotate_left
        · intro wq hSw
          obtain ⟨mq, hmq, _, _⟩ := hSw
          have a4 := hmq.cp 4 _ rfl; have a6 := hmq.cp 6 _ rfl; have a7 := hmq.cp 7 _ rfl; have b4 := hmq.cq 4 _ rfl; have b6 := hmq.cq 6 _ rfl; have b7 := hmq.cq 7 _ rfl
          clear hmq
          go_simp
          try with_reducible rfl
        simp only [Act.put, List.setIfInBounds_toArray, List.set_cons_zero, List.set_cons_succ, List.getElem_toArray, List.getElem_cons_zero, List.getElem_cons_succ]
        refine wpAnyH_take (i := 12) (v := ?_) rfl (by kernel_rfl) (by kernel_rfl) (by kernel_rfl) (fun _ _ _ h => h) (Or.inl ⟨by rfl, ?_⟩) (by assumption) ?_
        rotate_left
        · intro wq hSw
          obtain ⟨mq, hmq, _, _⟩ := hSw
          have a4 := hmq.cp 4 _ rfl; have a6 := hmq.cp 6 _ rfl; have a7 := hmq.cp 7 _ rfl; have b4 := hmq.cq 4 _ rfl; have b6 := hmq.cq 6 _ rfl; have b7 := hmq.cq 7 _ rfl
          clear hmq
          go_simp
          try with_reducible rfl
        simp only [Act.put, List.setIfInBounds_toArray, List.set_cons_zero, List.set_cons_succ, List.getElem_toArray, List.getElem_cons_zero, List.getElem_cons_succ]
        refine wpAnyH_take (i := 13) (v := ?_) rfl (by kernel_rfl) (by kernel_rfl) (by kernel_rfl) (fun _ _ _ h => h) (Or.inl ⟨by rfl, ?_⟩) (by assumption) ?_
        rotate_left
        · intro wq hSw
          obtain ⟨mq, hmq, _, _⟩ := hSw
          have a4 := hmq.cp 4 _ rfl; have a6 := hmq.cp 6 _ rfl; have a7 := hmq.cp 7 _ rfl; have b4 := hmq.cq 4 _ rfl; have b6 := hmq.cq 6 _ rfl; have b7 := hmq.cq 7 _ rfl
          clear hmq
          go_simp
          try with_reducible rfl
        simp only [Act.put, List.setIfInBounds_toArray, List.set_cons_zero, List.set_cons_succ, List.getElem_toArray, List.getElem_cons_zero, List.getElem_cons_succ]
        refine wpAnyH_take (i := 14) (v := ?_) rfl (by kernel_rfl) (by kernel_rfl) (by kernel_rfl) (fun _ _ _ h => h) (Or.inl ⟨by rfl, ?_⟩) (by assumption) ?_
        rotate_left
        · intro wq hSw
          obtain ⟨mq, hmq, _, _⟩ := hSw
          have a4 := hmq.cp 4 _ rfl; have a6 := hmq.cp 6 _ rfl; have a7 := hmq.cp 7 _ rfl; have b4 := hmq.cq 4 _ rfl; have b6 := hmq.cq 6 _ rfl; have b7 := hmq.cq 7 _ rfl
          clear hmq
          go_simp
          try with_reducible rfl
        simp only [Act.put, List.setIfInBounds_toArray, List.set_cons_zero, List.set_cons_succ, List.getElem_toArray, List.getElem_cons_zero, List.getElem_cons_succ]
        refine wpAnyH_take (i := 15) (v := undef) rfl (by kernel_rfl) (by kernel_rfl) (by kernel_rfl) (fun _ _ _ h => h) (Or.inr ⟨by rfl, rfl⟩) (by assumption) ?_
        simp only [Act.put, List.setIfInBounds_toArray, List.set_cons_zero, List.set_cons_succ, List.getElem_toArray, List.getElem_cons_zero, List.getElem_cons_succ]
        refine wpAnyH_take (i := 16) (v := undef) rfl (by kernel_rfl) (by kernel_rfl) (by kernel_rfl) (fun _ _ _ h => h) (Or.inr ⟨by rfl, rfl⟩) (by assumption) ?_
        simp only [Act.put, List.setIfInBounds_toArray, List.set_cons_zero, List.set_cons_succ, List.getElem_toArray, List.getElem_cons_zero, List.getElem_cons_succ]
        refine wpAnyH_take (i := 17) (v := ?_) rfl (by kernel_rfl) (by kernel_rfl) (by kernel_rfl) (fun _ _ _ h => h) (Or.inl ⟨by rfl, ?_⟩) (by assumption) ?_
        rotate_left
        · intro wq hSw
          obtain ⟨mq, hmq, _, _⟩ := hSw
          have a4 := hmq.cp 4 _ rfl; have a6 := hmq.cp 6 _ rfl; have a7 := hmq.cp 7 _ rfl; have b4 := hmq.cq 4 _ rfl; have b6 := hmq.cq 6 _ rfl; have b7 := hmq.cq 7 _ rfl
          clear hmq
          go_simp
          try with_reducible rfl
        simp only [Act.put, List.setIfInBounds_toArray, List.set_cons_zero, List.set_cons_succ, List.getElem_toArray, List.getElem_cons_zero, List.getElem_cons_succ]
        refine wpAnyH_take (i := 18) (v := ?_) rfl (by kernel_rfl) (by kernel_rfl) (by kernel_rfl) (fun _ _ _ h => h) (Or.inl ⟨by rfl, ?_⟩) (by assumption) ?_
        rotate_left
        · intro wq hSw
          obtain ⟨mq, hmq, _, _⟩ := hSw
          have a4 := hmq.cp 4 _ rfl; have a6 := hmq.cp 6 _ rfl; have a7 := hmq.cp 7 _ rfl; have b4 := hmq.cq 4 _ rfl; have b6 := hmq.cq 6 _ rfl; have b7 := hmq.cq 7 _ rfl
          clear hmq
          go_simp
          try with_reducible rfl
        simp only [Act.put, List.setIfInBounds_toArray, List.set_cons_zero, List.set_cons_succ, List.getElem_toArray, List.getElem_cons_zero, List.getElem_cons_succ]
        refine wpAnyH_ready (rs := [19]) (by kernel_rfl) (by simp) ?_
        refine AllReadyH.cons rfl (fun K hK => ?_) AllReadyH.nil
        obtain ⟨mq, hmq, hn, ht⟩ := hHeld
        have hco := hmq.co 4 _ rfl
        have hfo := hmq.fo 4 (by decide)
        have HM := Lib.hid hmq
        have HN := Lib.hid hn
        have HTT := Lib.hid ht
        clear hmq hn ht
        go_simp
        refine hK.out _ _ ⟨_, HM.out.set4 _, HN.out, HTT.out⟩ ?_
        clear hK K hco hfo HM HN HTT
        intro hHeld
        refine wpAnyH_take (i := 20) (v := ?_) rfl (by kernel_rfl) (by kernel_rfl) (by kernel_rfl) (fun _ _ _ h => h) (Or.inl ⟨by rfl, ?_⟩) (by assumption) ?_
        rotate_left
        · intro wq hSw
          obtain ⟨mq, hmq, _, _⟩ := hSw
          have a4 := hmq.cp 4 _ rfl; have a6 := hmq.cp 6 _ rfl; have a7 := hmq.cp 7 _ rfl; have b4 := hmq.cq 4 _ rfl; have b6 := hmq.cq 6 _ rfl; have b7 := hmq.cq 7 _ rfl
          clear hmq
          go_simp
          try with_reducible rfl
        simp only [Act.put, List.setIfInBounds_toArray, List.set_cons_zero, List.set_cons_succ, List.getElem_toArray, List.getElem_cons_zero, List.getElem_cons_succ]
        refine wpAnyH_ready (rs := [21]) (by kernel_rfl) (by simp) ?_
        refine AllReadyH.cons rfl (fun K hK => ?_) AllReadyH.nil
        obtain ⟨mq, hmq, hn, ht⟩ := hHeld
        have hco := hmq.co 6 _ rfl
        have hfo := hmq.fo 6 (by decide)
        have HM := Lib.hid hmq
        have HN := Lib.hid hn
        have HTT := Lib.hid ht
        clear hmq hn ht
        go_simp
        refine hK.out _ _ ⟨_, HM.out.set6 _, HN.out, HTT.out⟩ ?_
        clear hK K hco hfo HM HN HTT
        intro hHeld
        refine wpAnyH_take (i := 22) (v := ?_) rfl (by kernel_rfl) (by kernel_rfl) (by kernel_rfl) (fun _ _ _ h => h) (Or.inl ⟨by rfl, ?_⟩) (by assumption) ?_
        rotate_left
        · intro wq hSw
          obtain ⟨mq, hmq, _, _⟩ := hSw
          have a4 := hmq.cp 4 _ rfl; have a6 := hmq.cp 6 _ rfl; have a7 := hmq.cp 7 _ rfl; have b4 := hmq.cq 4 _ rfl; have b6 := hmq.cq 6 _ rfl; have b7 := hmq.cq 7 _ rfl
          clear hmq
          go_simp
          try with_reducible rfl
        simp only [Act.put, List.setIfInBounds_toArray, List.set_cons_zero, List.set_cons_succ, List.getElem_toArray, List.getElem_cons_zero, List.getElem_cons_succ]
        refine wpAnyH_ready (rs := [23]) (by kernel_rfl) (by simp) ?_
        refine AllReadyH.cons rfl (fun K hK => ?_) AllReadyH.nil
        obtain ⟨mq, hmq, hn, ht⟩ := hHeld
        have hco := hmq.co 7 _ rfl
        have hfo := hmq.fo 7 (by decide)
        have HM := Lib.hid hmq
        have HN := Lib.hid hn
        have HTT := Lib.hid ht
        clear hmq hn ht
        go_simp
        refine hK.out _ _ ⟨_, HM.out.set7 _, HN.out, HTT.out⟩ ?_
        clear hK K hco hfo HM HN HTT
        intro hHeld
        have HZ0 := Lib.hid hHeld
        clear hHeld
        refine wpAnyH_done (by kernel_rfl) (normal_gen (M := MX p q A B c d w.heap.size w) HZ0.out (fun wz hHeld => ?_)) _
        clear HZ0
        have HZ := Lib.hid hHeld
        clear hHeld
        go_wp2
        all_goals (go_meet; exact HZ.out)
      · as_aux_lemma =>
        go_wp2_with fail
        refine wp_region_held_drew (S := MX p q A B c d w.heap.size w) (by kernel_rfl) (HH.out.later (Below.refl _ _).drew) ?_
        clear HH
        intro hHeld
        refine wpAnyH_take (i := 0) (v := ?_) rfl (by kernel_rfl) (by kernel_rfl) (by kernel_rfl) (fun _ _ _ h => h) (Or.inl ⟨by rfl, ?_⟩) (by assumption) ?_
        rotate_left
        · intro wq hSw
          obtain ⟨mq, hmq, _, _⟩ := hSw
          have a4 := hmq.cp 4 _ rfl; have a6 := hmq.cp 6 _ rfl; have a7 := hmq.cp 7 _ rfl; have b4 := hmq.cq 4 _ rfl; have b6 := hmq.cq 6 _ rfl; have b7 := hmq.cq 7 _ rfl
          clear hmq
          go_simp
          try with_reducible rfl
        simp only [Act.put, List.setIfInBounds_toArray, List.set_cons_zero, List.set_cons_succ, List.getElem_toArray, List.getElem_cons_zero]
        refine wpAnyH_take (i := 1) (v := ?_) rfl (by kernel_rfl) (by kernel_rfl) (by kernel_rfl) (fun _ _ _ h => h) (Or.inl ⟨by rfl, ?_⟩) (by assumption) ?_
        rotate_left
        · intro wq hSw
          obtain ⟨mq, hmq, _, _⟩ := hSw
          have a4 := hmq.cp 4 _ rfl; have a6 := hmq.cp 6 _ rfl; have a7 := hmq.cp 7 _ rfl; have b4 := hmq.cq 4 _ rfl; have b6 := hmq.cq 6 _ rfl; have b7 := hmq.cq 7 _ rfl
          clear hmq
          go_simp
          try with_reducible rfl
        simp only [Act.put, List.setIfInBounds_toArray, List.set_cons_zero, List.set_cons_succ, List.getElem_toArray, List.getElem_cons_zero, List.getElem_cons_succ]
        refine wpAnyH_take (i := 2) (v := ?_) rfl (by kernel_rfl) (by kernel_rfl) (by kernel_rfl) (fun _ _ _ h => h) (Or.inl ⟨by rfl, ?_⟩) (by assumption) ?_
        rotate_left
        · intro wq hSw
          obtain ⟨mq, hmq, _, _⟩ := hSw
          have a4 := hmq.cp 4 _ rfl; have a6 := hmq.cp 6 _ rfl; have a7 := hmq.cp 7 _ rfl; have b4 := hmq.cq 4 _ rfl; have b6 := hmq.cq 6 _ rfl; have b7 := hmq.cq 7 _ rfl
          clear hmq
          go_simp
          try with_reducible rfl
        simp only [Act.put, List.setIfInBounds_toArray, List.set_cons_zero, List.set_cons_succ, List.getElem_toArray, List.getElem_cons_zero, List.getElem_cons_succ]
        refine wpAnyH_take (i := 3) (v := ?_) rfl (by kernel_rfl) (by kernel_rfl) (by kernel_rfl) (fun _ _ _ h => h) (Or.inl ⟨by rfl, ?_⟩) (by assumption) ?_
        rotate_left
        · intro wq hSw
          obtain ⟨mq, hmq, _, _⟩ := hSw
          have a4 := hmq.cp 4 _ rfl; have a6 := hmq.cp 6 _ rfl; have a7 := hmq.cp 7 _ rfl; have b4 := hmq.cq 4 _ rfl; have b6 := hmq.cq 6 _ rfl; have b7 := hmq.cq 7 _ rfl
          clear hmq
          go_simp
          try with_reducible rfl
        simp only [Act.put, List.setIfInBounds_toArray, List.set_cons_zero, List.set_cons_succ, List.getElem_toArray, List.getElem_cons_zero, List.getElem_cons_succ]
        refine wpAnyH_take (i := 4) (v := ?_) rfl (by kernel_rfl) (by kernel_rfl) (by kernel_rfl) (fun _ _ _ h => h) (Or.inl ⟨by rfl, ?_⟩) (by assumption) ?_
        rotate_left
        · intro wq hSw
          obtain ⟨mq, hmq, _, _⟩ := hSw
          have a4 := hmq.cp 4 _ rfl; have a6 := hmq.cp 6 _ rfl; have a7 := hmq.cp 7 _ rfl; have b4 := hmq.cq 4 _ rfl; have b6 := hmq.cq 6 _ rfl; have b7 := hmq.cq 7 _ rfl
          clear hmq
          go_simp
          try with_reducible rfl
        simp only [Act.put, List.setIfInBounds_toArray, List.set_cons_zero, List.set_cons_succ, List.getElem_toArray, List.getElem_cons_zero, List.getElem_cons_succ]
        refine wpAnyH_take (i := 5) (v := ?_) rfl (by kernel_rfl) (by kernel_rfl) (by kernel_rfl) (fun _ _ _ h => h) (Or.inl ⟨by rfl, ?_⟩) (by assumption) ?_
        rotate_left
        · intro wq hSw
          obtain ⟨mq, hmq, _, _⟩ := hSw
          have a4 := hmq.cp 4 _ rfl; have a6 := hmq.cp 6 _ rfl; have a7 := hmq.cp 7 _ rfl; have b4 := hmq.cq 4 _ rfl; have b6 := hmq.cq 6 _ rfl; have b7 := hmq.cq 7 _ rfl
          clear hmq
          go_simp
          try with_reducible rfl
        simp only [Act.put, List.setIfInBounds_toArray, List.set_cons_zero, List.set_cons_succ, List.getElem_toArray, List.getElem_cons_zero, List.getElem_cons_succ]
        refine wpAnyH_take (i := 6) (v := ?_) rfl (by kernel_rfl) (by kernel_rfl) (by kernel_rfl) (fun _ _ _ h => h) (Or.inl ⟨by rfl, ?_⟩) (by assumption) ?_
        rotate_left
        · intro wq hSw
          obtain ⟨mq, hmq, _, _⟩ := hSw
          have a4 := hmq.cp 4 _ rfl; have a6 := hmq.cp 6 _ rfl; have a7 := hmq.cp 7 _ rfl; have b4 := hmq.cq 4 _ rfl; have b6 := hmq.cq 6 _ rfl; have b7 := hmq.cq 7 _ rfl
          clear hmq
          go_simp
          try with_reducible rfl
        simp only [Act.put, List.setIfInBounds_toArray, List.set_cons_zero, List.set_cons_succ, List.getElem_toArray, List.getElem_cons_zero, List.getElem_cons_succ]
        refine wpAnyH_take (i := 7) (v := ?_) rfl (by kernel_rfl) (by kernel_rfl) (by kernel_rfl) (fun _ _ _ h => h) (Or.inl ⟨by rfl, ?_⟩) (by assumption) ?_
        rotate_left
        · intro wq hSw
          obtain ⟨mq, hmq, _, _⟩ := hSw
          have a4 := hmq.cp 4 _ rfl; have a6 := hmq.cp 6 _ rfl; have a7 := hmq.cp 7 _ rfl; have b4 := hmq.cq 4 _ rfl; have b6 := hmq.cq 6 _ rfl; have b7 := hmq.cq 7 _ rfl
          clear hmq
          go_simp
          try with_reducible rfl
        simp only [Act.put, List.setIfInBounds_toArray, List.set_cons_zero, List.set_cons_succ, List.getElem_toArray, List.getElem_cons_zero, List.getElem_cons_succ]
        refine wpAnyH_take (i := 8) (v := ?_) rfl (by kernel_rfl) (by kernel_rfl) (by kernel_rfl) (fun _ _ _ h => h) (Or.inl ⟨by rfl, ?_⟩) (by assumption) ?_
        rotate_left
        · intro wq hSw
          obtain ⟨mq, hmq, _, _⟩ := hSw
          have a4 := hmq.cp 4 _ rfl; have a6 := hmq.cp 6 _ rfl; have a7 := hmq.cp 7 _ rfl; have b4 := hmq.cq 4 _ rfl; have b6 := hmq.cq 6 _ rfl; have b7 := hmq.cq 7 _ rfl
          clear hmq
          go_simp
          try with_reducible rfl
        simp only [Act.put, List.setIfInBounds_toArray, List.set_cons_zero, List.set_cons_succ, List.getElem_toArray, List.getElem_cons_zero, List.getElem_cons_succ]
        refine wpAnyH_take (i := 9) (v := undef) rfl (by kernel_rfl) (by kernel_rfl) (by kernel_rfl) (fun _ _ _ h => h) (Or.inr ⟨by rfl, rfl⟩) (by assumption) ?_
        simp only [Act.put, List.setIfInBounds_toArray, List.set_cons_zero, List.set_cons_succ, List.getElem_toArray, List.getElem_cons_zero, List.getElem_cons_succ]
        refine wpAnyH_take (i := 10) (v := undef) rfl (by kernel_rfl) (by kernel_rfl) (by kernel_rfl) (fun _ _ _ h => h) (Or.inr ⟨by rfl, rfl⟩) (by assumption) ?_
        simp only [Act.put, List.setIfInBounds_toArray, List.set_cons_zero, List.set_cons_succ, List.getElem_toArray, List.getElem_cons_zero, List.getElem_cons_succ]
        refine wpAnyH_take (i := 11) (v := ?_) rfl (by kernel_rfl) (by kernel_rfl) (by kernel_rfl) (fun _ _ _ h => h) (Or.inl ⟨by rfl, ?_⟩) (by assumption) ?_
        rotate_left
        · intro wq hSw
          obtain ⟨mq, hmq, _, _⟩ := hSw
          have a4 := hmq.cp 4 _ rfl; have a6 := hmq.cp 6 _ rfl; have a7 := hmq.cp 7 _ rfl; have b4 := hmq.cq 4 _ rfl; have b6 := hmq.cq 6 _ rfl; have b7 := hmq.cq 7 _ rfl
          clear hmq
          go_simp
          try with_reducible rfl
        simp only [Act.put, List.setIfInBounds_toArray, List.set_cons_zero, List.set_cons_succ, List.getElem_toArray, List.getElem_cons_zero, List.getElem_cons_succ]
        refine wpAnyH_take (i := 12) (v := ?_) rfl (by kernel_rfl) (by kernel_rfl) (by kernel_rfl) (fun _ _ _ h => h) (Or.inl ⟨by rfl, ?_⟩) (by assumption) ?_
        rotate_left
        · intro wq hSw
          obtain ⟨mq, hmq, _, _⟩ := hSw
          have a4 := hmq.cp 4 _ rfl; have a6 := hmq.cp 6 _ rfl; have a7 := hmq.cp 7 _ rfl; have b4 := hmq.cq 4 _ rfl; have b6 := hmq.cq 6 _ rfl; have b7 := hmq.cq 7 _ rfl
          clear hmq
          go_simp
          try with_reducible rfl
        simp only [Act.put, List.setIfInBounds_toArray, List.set_cons_zero, List.set_cons_succ, List.getElem_toArray, List.getElem_cons_zero, List.getElem_cons_succ]
        refine wpAnyH_take (i := 13) (v := ?_) rfl (by kernel_rfl) (by kernel_rfl) (by kernel_rfl) (fun _ _ _ h => h) (Or.inl ⟨by rfl, ?_⟩) (by assumption) ?_
        rotate_left
        · intro wq hSw
          obtain ⟨mq, hmq, _, _⟩ := hSw
          have a4 := hmq.cp 4 _ rfl; have a6 := hmq.cp 6 _ rfl; have a7 := hmq.cp 7 _ rfl; have b4 := hmq.cq 4 _ rfl; have b6 := hmq.cq 6 _ rfl; have b7 := hmq.cq 7 _ rfl
          clear hmq
          go_simp
          try with_reducible rfl
        simp only [Act.put, List.setIfInBounds_toArray, List.set_cons_zero, List.set_cons_succ, List.getElem_toArray, List.getElem_cons_zero, List.getElem_cons_succ]
        refine wpAnyH_take (i := 14) (v := ?_) rfl (by kernel_rfl) (by kernel_rfl) (by kernel_rfl) (fun _ _ _ h => h) (Or.inl ⟨by rfl, ?_⟩) (by assumption) ?_
        rotate_left
        · intro wq hSw
          obtain ⟨mq, hmq, _, _⟩ := hSw
          have a4 := hmq.cp 4 _ rfl; have a6 := hmq.cp 6 _ rfl; have a7 := hmq.cp 7 _ rfl; have b4 := hmq.cq 4 _ rfl; have b6 := hmq.cq 6 _ rfl; have b7 := hmq.cq 7 _ rfl
          clear hmq
          go_simp
          try with_reducible rfl
        simp only [Act.put, List.setIfInBounds_toArray, List.set_cons_zero, List.set_cons_succ, List.getElem_toArray, List.getElem_cons_zero, List.getElem_cons_succ]
        refine wpAnyH_take (i := 15) (v := ?_) rfl (by kernel_rfl) (by kernel_rfl) (by kernel_rfl) (fun _ _ _ h => h) (Or.inl ⟨by rfl, ?_⟩) (by assumption) ?_
        rotate_left
        · intro wq hSw
          obtain ⟨mq, hmq, _, _⟩ := hSw
          have a4 := hmq.cp 4 _ rfl; have a6 := hmq.cp 6 _ rfl; have a7 := hmq.cp 7 _ rfl; have b4 := hmq.cq 4 _ rfl; have b6 := hmq.cq 6 _ rfl; have b7 := hmq.cq 7 _ rfl
          clear hmq
          go_simp
          try with_reducible rfl
        simp only [Act.put, List.setIfInBounds_toArray, List.set_cons_zero, List.set_cons_succ, List.getElem_toArray, List.getElem_cons_zero, List.getElem_cons_succ]
        refine wpAnyH_take (i := 16) (v := ?_) rfl (by kernel_rfl) (by kernel_rfl) (by kernel_rfl) (fun _ _ _ h => h) (Or.inl ⟨by rfl, ?_⟩) (by assumption) ?_
        rotate_left
        · intro wq hSw
          obtain ⟨mq, hmq, _, _⟩ := hSw
          have a4 := hmq.cp 4 _ rfl; have a6 := hmq.cp 6 _ rfl; have a7 := hmq.cp 7 _ rfl; have b4 := hmq.cq 4 _ rfl; have b6 := hmq.cq 6 _ rfl; have b7 := hmq.cq 7 _ rfl
          clear hmq
          go_simp
          try with_reducible rfl
        simp only [Act.put, List.setIfInBounds_toArray, List.set_cons_zero, List.set_cons_succ, List.getElem_toArray, List.getElem_cons_zero, List.getElem_cons_succ]
        refine wpAnyH_take (i := 17) (v := ?_) rfl (by kernel_rfl) (by kernel_rfl) (by kernel_rfl) (fun _ _ _ h => h) (Or.inl ⟨by rfl, ?_⟩) (by assumption) ?_
        rotate_left
        · intro wq hSw
          obtain ⟨mq, hmq, _, _⟩ := hSw
          have a4 := hmq.cp 4 _ rfl; have a6 := hmq.cp 6 _ rfl; have a7 := hmq.cp 7 _ rfl; have b4 := hmq.cq 4 _ rfl; have b6 := hmq.cq 6 _ rfl; have b7 := hmq.cq 7 _ rfl
          clear hmq
          go_simp
          try with_reducible rfl
        simp only [Act.put, List.setIfInBounds_toArray, List.set_cons_zero, List.set_cons_succ, List.getElem_toArray, List.getElem_cons_zero, List.getElem_cons_succ]
        refine wpAnyH_take (i := 18) (v := ?_) rfl (by kernel_rfl) (by kernel_rfl) (by kernel_rfl) (fun _ _ _ h => h) (Or.inl ⟨by rfl, ?_⟩) (by assumption) ?_
        rotate_left
        · intro wq hSw
          obtain ⟨mq, hmq, _, _⟩ := hSw
          have a4 := hmq.cp 4 _ rfl; have a6 := hmq.cp 6 _ rfl; have a7 := hmq.cp 7 _ rfl; have b4 := hmq.cq 4 _ rfl; have b6 := hmq.cq 6 _ rfl; have b7 := hmq.cq 7 _ rfl
          clear hmq
          go_simp
          try with_reducible rfl
        simp only [Act.put, List.setIfInBounds_toArray, List.set_cons_zero, List.set_cons_succ, List.getElem_toArray, List.getElem_cons_zero, List.getElem_cons_succ]
        refine wpAnyH_ready (rs := [19]) (by kernel_rfl) (by simp) ?_
        refine AllReadyH.cons rfl (fun K hK => ?_) AllReadyH.nil
        obtain ⟨mq, hmq, hn, ht⟩ := hHeld
        have hco := hmq.co 4 _ rfl
        have hfo := hmq.fo 4 (by decide)
        have HM := Lib.hid hmq
        have HN := Lib.hid hn
        have HTT := Lib.hid ht
        clear hmq hn ht
        go_simp
        refine hK.out _ _ ⟨_, HM.out.set4 _, HN.out, HTT.out⟩ ?_
        clear hK K hco hfo HM HN HTT
        intro hHeld
        refine wpAnyH_take (i := 20) (v := ?_) rfl (by kernel_rfl) (by kernel_rfl) (by kernel_rfl) (fun _ _ _ h => h) (Or.inl ⟨by rfl, ?_⟩) (by assumption) ?_
        rotate_left
        · intro wq hSw
          obtain ⟨mq, hmq, _, _⟩ := hSw
          have a4 := hmq.cp 4 _ rfl; have a6 := hmq.cp 6 _ rfl; have a7 := hmq.cp 7 _ rfl; have b4 := hmq.cq 4 _ rfl; have b6 := hmq.cq 6 _ rfl; have b7 := hmq.cq 7 _ rfl
          clear hmq
          go_simp
          try with_reducible rfl
        simp only [Act.put, List.setIfInBounds_toArray, List.set_cons_zero, List.set_cons_succ, List.getElem_toArray, List.getElem_cons_zero, List.getElem_cons_succ]
        refine wpAnyH_ready (rs := [21]) (by kernel_rfl) (by simp) ?_
        refine AllReadyH.cons rfl (fun K hK => ?_) AllReadyH.nil
        obtain ⟨mq, hmq, hn, ht⟩ := hHeld
        have hco := hmq.co 6 _ rfl
        have hfo := hmq.fo 6 (by decide)
        have HM := Lib.hid hmq
        have HN := Lib.hid hn
        have HTT := Lib.hid ht
        clear hmq hn ht
        go_simp
        refine hK.out _ _ ⟨_, HM.out.set6 _, HN.out, HTT.out⟩ ?_
        clear hK K hco hfo HM HN HTT
        intro hHeld
        refine wpAnyH_take (i := 22) (v := ?_) rfl (by kernel_rfl) (by kernel_rfl) (by kernel_rfl) (fun _ _ _ h => h) (Or.inl ⟨by rfl, ?_⟩) (by assumption) ?_
        rotate_left
        · intro wq hSw
          obtain ⟨mq, hmq, _, _⟩ := hSw
          have a4 := hmq.cp 4 _ rfl; have a6 := hmq.cp 6 _ rfl; have a7 := hmq.cp 7 _ rfl; have b4 := hmq.cq 4 _ rfl; have b6 := hmq.cq 6 _ rfl; have b7 := hmq.cq 7 _ rfl
          clear hmq
          go_simp
          try with_reducible rfl
        simp only [Act.put, List.setIfInBounds_toArray, List.set_cons_zero, List.set_cons_succ, List.getElem_toArray, List.getElem_cons_zero, List.getElem_cons_succ]
        refine wpAnyH_ready (rs := [23]) (by kernel_rfl) (by simp) ?_
        refine AllReadyH.cons rfl (fun K hK => ?_) AllReadyH.nil
        obtain ⟨mq, hmq, hn, ht⟩ := hHeld
        have hco := hmq.co 7 _ rfl
        have hfo := hmq.fo 7 (by decide)
        have HM := Lib.hid hmq
        have HN := Lib.hid hn
        have HTT := Lib.hid ht
        clear hmq hn ht
        go_simp
        refine hK.out _ _ ⟨_, HM.out.set7 _, HN.out, HTT.out⟩ ?_
        clear hK K hco hfo HM HN HTT
        intro hHeld
        have HZ0 := Lib.hid hHeld
        clear hHeld
        refine wpAnyH_done (by kernel_rfl) (normal_gen (M := MX p q A B c d w.heap.size w) HZ0.out (fun wz hHeld => ?_)) _
        clear HZ0
        have HZ := Lib.hid hHeld
        clear hHeld
        go_wp2
        all_goals (go_meet; exact HZ.out)
      · as_aux_lemma =>
        go_wp2_with fail
        refine wp_region_held_drew (S := MX p q A B c d w.heap.size w) (by kernel_rfl) (HH.out.later (Below.refl _ _).drew) ?_
        clear HH
        intro hHeld
        refine wpAnyH_take (i := 0) (v := ?_) rfl (by kernel_rfl) (by kernel_rfl) (by kernel_rfl) (fun _ _ _ h => h) (Or.inl ⟨by rfl, ?_⟩) (by assumption) ?_
        rotate_left
        · intro wq hSw
          obtain ⟨mq, hmq, _, _⟩ := hSw
          have a4 := hmq.cp 4 _ rfl; have a6 := hmq.cp 6 _ rfl; have a7 := hmq.cp 7 _ rfl; have b4 := hmq.cq 4 _ rfl; have b6 := hmq.cq 6 _ rfl; have b7 := hmq.cq 7 _ rfl
          clear hmq
          go_simp
          try with_reducible rfl
        simp only [Act.put, List.setIfInBounds_toArray, List.set_cons_zero, List.set_cons_succ, List.getElem_toArray, List.getElem_cons_zero]
        refine wpAnyH_take (i := 1) (v := ?_) rfl (by kernel_rfl) (by kernel_rfl) (by kernel_rfl) (fun _ _ _ h => h) (Or.inl ⟨by rfl, ?_⟩) (by assumption) ?_
        rotate_left
        · intro wq hSw
          obtain ⟨mq, hmq, _, _⟩ := hSw
          have a4 := hmq.cp 4 _ rfl; have a6 := hmq.cp 6 _ rfl; have a7 := hmq.cp 7 _ rfl; have b4 := hmq.cq 4 _ rfl; have b6 := hmq.cq 6 _ rfl; have b7 := hmq.cq 7 _ rfl
          clear hmq
          go_simp
          try with_reducible rfl
        simp only [Act.put, List.setIfInBounds_toArray, List.set_cons_zero, List.set_cons_succ, List.getElem_toArray, List.getElem_cons_zero, List.getElem_cons_succ]
        refine wpAnyH_take (i := 2) (v := ?_) rfl (by kernel_rfl) (by kernel_rfl) (by kernel_rfl) (fun _ _ _ h => h) (Or.inl ⟨by rfl, ?_⟩) (by assumption) ?_
        rotate_left
        · intro wq hSw
          obtain ⟨mq, hmq, _, _⟩ := hSw
          have a4 := hmq.cp 4 _ rfl; have a6 := hmq.cp 6 _ rfl; have a7 := hmq.cp 7 _ rfl; have b4 := hmq.cq 4 _ rfl; have b6 := hmq.cq 6 _ rfl; have b7 := hmq.cq 7 _ rfl
          clear hmq
          go_simp
          try with_reducible rfl
        simp only [Act.put, List.setIfInBounds_toArray, List.set_cons_zero, List.set_cons_succ, List.getElem_toArray, List.getElem_cons_zero, List.getElem_cons_succ]
        refine wpAnyH_take (i := 3) (v := ?_) rfl (by kernel_rfl) (by kernel_rfl) (by kernel_rfl) (fun _ _ _ h => h) (Or.inl ⟨by rfl, ?_⟩) (by assumption) ?_
        rotate_left
        · intro wq hSw
          obtain ⟨mq, hmq, _, _⟩ := hSw
          have a4 := hmq.cp 4 _ rfl; have a6 := hmq.cp 6 _ rfl; have a7 := hmq.cp 7 _ rfl; have b4 := hmq.cq 4 _ rfl; have b6 := hmq.cq 6 _ rfl; have b7 := hmq.cq 7 _ rfl
          clear hmq
          go_simp
          try with_reducible rfl
        simp only [Act.put, List.setIfInBounds_toArray, List.set_cons_zero, List.set_cons_succ, List.getElem_toArray, List.getElem_cons_zero, List.getElem_cons_succ]
        refine wpAnyH_take (i := 4) (v := ?_) rfl (by kernel_rfl) (by kernel_rfl) (by kernel_rfl) (fun _ _ _ h => h) (Or.inl ⟨by rfl, ?_⟩) (by assumption) ?_
        rotate_left
        · intro wq hSw
          obtain ⟨mq, hmq, _, _⟩ := hSw
          have a4 := hmq.cp 4 _ rfl; have a6 := hmq.cp 6 _ rfl; have a7 := hmq.cp 7 _ rfl; have b4 := hmq.cq 4 _ rfl; have b6 := hmq.cq 6 _ rfl; have b7 := hmq.cq 7 _ rfl
          clear hmq
          go_simp
          try with_reducible rfl
        simp only [Act.put, List.setIfInBounds_toArray, List.set_cons_zero, List.set_cons_succ, List.getElem_toArray, List.getElem_cons_zero, List.getElem_cons_succ]
        refine wpAnyH_take (i := 5) (v := ?_) rfl (by kernel_rfl) (by kernel_rfl) (by kernel_rfl) (fun _ _ _ h => h) (Or.inl ⟨by rfl, ?_⟩) (by assumption) ?_
        rotate_left
        · intro wq hSw
          obtain ⟨mq, hmq, _, _⟩ := hSw
          have a4 := hmq.cp 4 _ rfl; have a6 := hmq.cp 6 _ rfl; have a7 := hmq.cp 7 _ rfl; have b4 := hmq.cq 4 _ rfl; have b6 := hmq.cq 6 _ rfl; have b7 := hmq.cq 7 _ rfl
          clear hmq
          go_simp
          try with_reducible rfl
        simp only [Act.put, List.setIfInBounds_toArray, List.set_cons_zero, List.set_cons_succ, List.getElem_toArray, List.getElem_cons_zero, List.getElem_cons_succ]
        refine wpAnyH_take (i := 6) (v := ?_) rfl (by kernel_rfl) (by kernel_rfl) (by kernel_rfl) (fun _ _ _ h => h) (Or.inl ⟨by rfl, ?_⟩) (by assumption) ?_
        rotate_left
        · intro wq hSw
          obtain ⟨mq, hmq, _, _⟩ := hSw
          have a4 := hmq.cp 4 _ rfl; have a6 := hmq.cp 6 _ rfl; have a7 := hmq.cp 7 _ rfl; have b4 := hmq.cq 4 _ rfl; have b6 := hmq.cq 6 _ rfl; have b7 := hmq.cq 7 _ rfl
          clear hmq
          go_simp
          try with_reducible rfl
        simp only [Act.put, List.setIfInBounds_toArray, List.set_cons_zero, List.set_cons_succ, List.getElem_toArray, List.getElem_cons_zero, List.getElem_cons_succ]
        refine wpAnyH_take (i := 7) (v := ?_) rfl (by kernel_rfl) (by kernel_rfl) (by kernel_rfl) (fun _ _ _ h => h) (Or.inl ⟨by rfl, ?_⟩) (by assumption) ?_
        rotate_left
        · intro wq hSw
          obtain ⟨mq, hmq, _, _⟩ := hSw
          have a4 := hmq.cp 4 _ rfl; have a6 := hmq.cp 6 _ rfl; have a7 := hmq.cp 7 _ rfl; have b4 := hmq.cq 4 _ rfl; have b6 := hmq.cq 6 _ rfl; have b7 := hmq.cq 7 _ rfl
          clear hmq
          go_simp
          try with_reducible rfl
        simp only [Act.put, List.setIfInBounds_toArray, List.set_cons_zero, List.set_cons_succ, List.getElem_toArray, List.getElem_cons_zero, List.getElem_cons_succ]
        refine wpAnyH_take (i := 8) (v := ?_) rfl (by kernel_rfl) (by kernel_rfl) (by kernel_rfl) (fun _ _ _ h => h) (Or.inl ⟨by rfl, ?_⟩) (by assumption) ?_
        rotate_left
        · intro wq hSw
          obtain ⟨mq, hmq, _, _⟩ := hSw
          have a4 := hmq.cp 4 _ rfl; have a6 := hmq.cp 6 _ rfl; have a7 := hmq.cp 7 _ rfl; have b4 := hmq.cq 4 _ rfl; have b6 := hmq.cq 6 _ rfl; have b7 := hmq.cq 7 _ rfl
          clear hmq
          go_simp
          try with_reducible rfl
        simp only [Act.put, List.setIfInBounds_toArray, List.set_cons_zero, List.set_cons_succ, List.getElem_toArray, List.getElem_cons_zero, List.getElem_cons_succ]
        refine wpAnyH_take (i := 9) (v := ?_) rfl (by kernel_rfl) (by kernel_rfl) (by kernel_rfl) (fun _ _ _ h => h) (Or.inl ⟨by rfl, ?_⟩) (by assumption) ?_
        rotate_left
        · intro wq hSw
          obtain ⟨mq, hmq, _, _⟩ := hSw
          have a4 := hmq.cp 4 _ rfl; have a6 := hmq.cp 6 _ rfl; have a7 := hmq.cp 7 _ rfl; have b4 := hmq.cq 4 _ rfl; have b6 := hmq.cq 6 _ rfl; have b7 := hmq.cq 7 _ rfl
          clear hmq
          go_simp
          try with_reducible rfl
        simp only [Act.put, List.setIfInBounds_toArray, List.set_cons_zero, List.set_cons_succ, List.getElem_toArray, List.getElem_cons_zero, List.getElem_cons_succ]
        refine wpAnyH_take (i := 10) (v := ?_) rfl (by kernel_rfl) (by kernel_rfl) (by kernel_rfl) (fun _ _ _ h => h) (Or.inl ⟨by rfl, ?_⟩) (by assumption) ?_
        rotate_left
        · intro wq hSw
          obtain ⟨mq, hmq, _, _⟩ := hSw
          have a4 := hmq.cp 4 _ rfl; have a6 := hmq.cp 6 _ rfl; have a7 := hmq.cp 7 _ rfl; have b4 := hmq.cq 4 _ rfl; have b6 := hmq.cq 6 _ rfl; have b7 := hmq.cq 7 _ rfl
          clear hmq
          go_simp
          try with_reducible rfl
        simp only [Act.put, List.setIfInBounds_toArray, List.set_cons_zero, List.set_cons_succ, List.getElem_toArray, List.getElem_cons_zero, List.getElem_cons_succ]
        refine wpAnyH_take (i := 11) (v := ?_) rfl (by kernel_rfl) (by kernel_rfl) (by kernel_rfl) (fun _ _ _ h => h) (Or.inl ⟨by rfl, ?_⟩) (by assumption) ?_
        rotate_left
        · intro wq hSw
          obtain ⟨mq, hmq, _, _⟩ := hSw
          have a4 := hmq.cp 4 _ rfl; have a6 := hmq.cp 6 _ rfl; have a7 := hmq.cp 7 _ rfl; have b4 := hmq.cq 4 _ rfl; have b6 := hmq.cq 6 _ rfl; have b7 := hmq.cq 7 _ rfl
          clear hmq
          go_simp
          try with_reducible rfl
        simp only [Act.put, List.setIfInBounds_toArray, List.set_cons_zero, List.set_cons_succ, List.getElem_toArray, List.getElem_cons_zero, List.getElem_cons_succ]
        refine wpAnyH_take (i := 12) (v := ?_) rfl (by kernel_rfl) (by kernel_rfl) (by kernel_rfl) (fun _ _ _ h => h) (Or.inl ⟨by rfl, ?_⟩) (by assumption) ?_
        rotate_left
        · intro wq hSw
          obtain ⟨mq, hmq, _, _⟩ := hSw
          have a4 := hmq.cp 4 _ rfl; have a6 := hmq.cp 6 _ rfl; have a7 := hmq.cp 7 _ rfl; have b4 := hmq.cq 4 _ rfl; have b6 := hmq.cq 6 _ rfl; have b7 := hmq.cq 7 _ rfl
          clear hmq
          go_simp
          try with_reducible rfl
        simp only [Act.put, List.setIfInBounds_toArray, List.set_cons_zero, List.set_cons_succ, List.getElem_toArray, List.getElem_cons_zero, List.getElem_cons_succ]
        refine wpAnyH_take (i := 13) (v := ?_) rfl (by kernel_rfl) (by kernel_rfl) (by kernel_rfl) (fun _ _ _ h => h) (Or.inl ⟨by rfl, ?_⟩) (by assumption) ?_
        rotate_left
        · intro wq hSw
          obtain ⟨mq, hmq, _, _⟩ := hSw
          have a4 := hmq.cp 4 _ rfl; have a6 := hmq.cp 6 _ rfl; have a7 := hmq.cp 7 _ rfl; have b4 := hmq.cq 4 _ rfl; have b6 := hmq.cq 6 _ rfl; have b7 := hmq.cq 7 _ rfl
          clear hmq
          go_simp
          try with_reducible rfl
        simp only [Act.put, List.setIfInBounds_toArray, List.set_cons_zero, List.set_cons_succ, List.getElem_toArray, List.getElem_cons_zero, List.getElem_cons_succ]
        refine wpAnyH_take (i := 14) (v := ?_) rfl (by kernel_rfl) (by kernel_rfl) (by kernel_rfl) (fun _ _ _ h => h) (Or.inl ⟨by rfl, ?_⟩) (by assumption) ?_
        rotate_left
        · intro wq hSw
          obtain ⟨mq, hmq, _, _⟩ := hSw
          have a4 := hmq.cp 4 _ rfl; have a6 := hmq.cp 6 _ rfl; have a7 := hmq.cp 7 _ rfl; have b4 := hmq.cq 4 _ rfl; have b6 := hmq.cq 6 _ rfl; have b7 := hmq.cq 7 _ rfl
          clear hmq
          go_simp
          try with_reducible rfl
        simp only [Act.put, List.setIfInBounds_toArray, List.set_cons_zero, List.set_cons_succ, List.getElem_toArray, List.getElem_cons_zero, List.getElem_cons_succ]
        refine wpAnyH_take (i := 15) (v := undef) rfl (by kernel_rfl) (by kernel_rfl) (by kernel_rfl) (fun _ _ _ h => h) (Or.inr ⟨by rfl, rfl⟩) (by assumption) ?_
        simp only [Act.put, List.setIfInBounds_toArray, List.set_cons_zero, List.set_cons_succ, List.getElem_toArray, List.getElem_cons_zero, List.getElem_cons_succ]
        refine wpAnyH_take (i := 16) (v := undef) rfl (by kernel_rfl) (by kernel_rfl) (by kernel_rfl) (fun _ _ _ h => h) (Or.inr ⟨by rfl, rfl⟩) (by assumption) ?_
        simp only [Act.put, List.setIfInBounds_toArray, List.set_cons_zero, List.set_cons_succ, List.getElem_toArray, List.getElem_cons_zero, List.getElem_cons_succ]
        refine wpAnyH_take (i := 17) (v := ?_) rfl (by kernel_rfl) (by kernel_rfl) (by kernel_rfl) (fun _ _ _ h => h) (Or.inl ⟨by rfl, ?_⟩) (by assumption) ?_
        rotate_left
        · intro wq hSw
          obtain ⟨mq, hmq, _, _⟩ := hSw
          have a4 := hmq.cp 4 _ rfl; have a6 := hmq.cp 6 _ rfl; have a7 := hmq.cp 7 _ rfl; have b4 := hmq.cq 4 _ rfl; have b6 := hmq.cq 6 _ rfl; have b7 := hmq.cq 7 _ rfl
          clear hmq
          go_simp
          try with_reducible rfl
        simp only [Act.put, List.setIfInBounds_toArray, List.set_cons_zero, List.set_cons_succ, List.getElem_toArray, List.getElem_cons_zero, List.getElem_cons_succ]
        refine wpAnyH_take (i := 18) (v := ?_) rfl (by kernel_rfl) (by kernel_rfl) (by kernel_rfl) (fun _ _ _ h => h) (Or.inl ⟨by rfl, ?_⟩) (by assumption) ?_
        rotate_left
        · intro wq hSw
          obtain ⟨mq, hmq, _, _⟩ := hSw
          have a4 := hmq.cp 4 _ rfl; have a6 := hmq.cp 6 _ rfl; have a7 := hmq.cp 7 _ rfl; have b4 := hmq.cq 4 _ rfl; have b6 := hmq.cq 6 _ rfl; have b7 := hmq.cq 7 _ rfl
          clear hmq
          go_simp
          try with_reducible rfl
        simp only [Act.put, List.setIfInBounds_toArray, List.set_cons_zero, List.set_cons_succ, List.getElem_toArray, List.getElem_cons_zero, List.getElem_cons_succ]
        refine wpAnyH_ready (rs := [19]) (by kernel_rfl) (by simp) ?_
        refine AllReadyH.cons rfl (fun K hK => ?_) AllReadyH.nil
        obtain ⟨mq, hmq, hn, ht⟩ := hHeld
        have hco := hmq.co 4 _ rfl
        have hfo := hmq.fo 4 (by decide)
        have HM := Lib.hid hmq
        have HN := Lib.hid hn
        have HTT := Lib.hid ht
        clear hmq hn ht
        go_simp
        refine hK.out _ _ ⟨_, HM.out.set4 _, HN.out, HTT.out⟩ ?_
        clear hK K hco hfo HM HN HTT
        intro hHeld
        refine wpAnyH_take (i := 20) (v := ?_) rfl (by kernel_rfl) (by kernel_rfl) (by kernel_rfl) (fun _ _ _ h => h) (Or.inl ⟨by rfl, ?_⟩) (by assumption) ?_
        rotate_left
        · intro wq hSw
          obtain ⟨mq, hmq, _, _⟩ := hSw
          have a4 := hmq.cp 4 _ rfl; have a6 := hmq.cp 6 _ rfl; have a7 := hmq.cp 7 _ rfl; have b4 := hmq.cq 4 _ rfl; have b6 := hmq.cq 6 _ rfl; have b7 := hmq.cq 7 _ rfl
          clear hmq
          go_simp
          try with_reducible rfl
        simp only [Act.put, List.setIfInBounds_toArray, List.set_cons_zero, List.set_cons_succ, List.getElem_toArray, List.getElem_cons_zero, List.getElem_cons_succ]
        refine wpAnyH_ready (rs := [21]) (by kernel_rfl) (by simp) ?_
        refine AllReadyH.cons rfl (fun K hK => ?_) AllReadyH.nil
        obtain ⟨mq, hmq, hn, ht⟩ := hHeld
        have hco := hmq.co 6 _ rfl
        have hfo := hmq.fo 6 (by decide)
        have HM := Lib.hid hmq
        have HN := Lib.hid hn
        have HTT := Lib.hid ht
        clear hmq hn ht
        go_simp
        refine hK.out _ _ ⟨_, HM.out.set6 _, HN.out, HTT.out⟩ ?_
        clear hK K hco hfo HM HN HTT
        intro hHeld
        refine wpAnyH_take (i := 22) (v := ?_) rfl (by kernel_rfl) (by kernel_rfl) (by kernel_rfl) (fun _ _ _ h => h) (Or.inl ⟨by rfl, ?_⟩) (by assumption) ?_
        rotate_left
        · intro wq hSw
          obtain ⟨mq, hmq, _, _⟩ := hSw
          have a4 := hmq.cp 4 _ rfl; have a6 := hmq.cp 6 _ rfl; have a7 := hmq.cp 7 _ rfl; have b4 := hmq.cq 4 _ rfl; have b6 := hmq.cq 6 _ rfl; have b7 := hmq.cq 7 _ rfl
          clear hmq
          go_simp
          try with_reducible rfl
        simp only [Act.put, List.setIfInBounds_toArray, List.set_cons_zero, List.set_cons_succ, List.getElem_toArray, List.getElem_cons_zero, List.getElem_cons_succ]
        refine wpAnyH_ready (rs := [23]) (by kernel_rfl) (by simp) ?_
        refine AllReadyH.cons rfl (fun K hK => ?_) AllReadyH.nil
        obtain ⟨mq, hmq, hn, ht⟩ := hHeld
        have hco := hmq.co 7 _ rfl
        have hfo := hmq.fo 7 (by decide)
        have HM := Lib.hid hmq
        have HN := Lib.hid hn
        have HTT := Lib.hid ht
        clear hmq hn ht
        go_simp
        refine hK.out _ _ ⟨_, HM.out.set7 _, HN.out, HTT.out⟩ ?_
        clear hK K hco hfo HM HN HTT
        intro hHeld
        have HZ0 := Lib.hid hHeld
        clear hHeld
        refine wpAnyH_done (by kernel_rfl) (normal_gen (M := MX p q A B c d w.heap.size w) HZ0.out (fun wz hHeld => ?_)) _
        clear HZ0
        have HZ := Lib.hid hHeld
        clear hHeld
        go_wp2
        all_goals (go_meet; exact HZ.out)
      · as_aux_lemma =>
        go_wp2_with fail
        refine wp_region_held_drew (S := MX p q A B c d w.heap.size w) (by kernel_rfl) (HH.out.later (Below.refl _ _).drew) ?_
        clear HH
        intro hHeld
        refine wpAnyH_take (i := 0) (v := ?_) rfl (by kernel_rfl) (by kernel_rfl) (by kernel_rfl) (fun _ _ _ h => h) (Or.inl ⟨by rfl, ?_⟩) (by assumption) ?_
        rotate_left
        · intro wq hSw
          obtain ⟨mq, hmq, _, _⟩ := hSw
          have a4 := hmq.cp 4 _ rfl; have a6 := hmq.cp 6 _ rfl; have a7 := hmq.cp 7 _ rfl; have b4 := hmq.cq 4 _ rfl; have b6 := hmq.cq 6 _ rfl; have b7 := hmq.cq 7 _ rfl
          clear hmq
          go_simp
          try with_reducible rfl
        simp only [Act.put, List.setIfInBounds_toArray, List.set_cons_zero, List.set_cons_succ, List.getElem_toArray, List.getElem_cons_zero]
        refine wpAnyH_take (i := 1) (v := ?_) rfl (by kernel_rfl) (by kernel_rfl) (by kernel_rfl) (fun _ _ _ h => h) (Or.inl ⟨by rfl, ?_⟩) (by assumption) ?_
        rotate_left
        · intro wq hSw
          obtain ⟨mq, hmq, _, _⟩ := hSw
          have a4 := hmq.cp 4 _ rfl; have a6 := hmq.cp 6 _ rfl; have a7 := hmq.cp 7 _ rfl; have b4 := hmq.cq 4 _ rfl; have b6 := hmq.cq 6 _ rfl; have b7 := hmq.cq 7 _ rfl
          clear hmq
          go_simp
          try with_reducible rfl
        simp only [Act.put, List.setIfInBounds_toArray, List.set_cons_zero, List.set_cons_succ, List.getElem_toArray, List.getElem_cons_zero, List.getElem_cons_succ]
        refine wpAnyH_take (i := 2) (v := ?_) rfl (by kernel_rfl) (by kernel_rfl) (by kernel_rfl) (fun _ _ _ h => h) (Or.inl ⟨by rfl, ?_⟩) (by assumption) ?_
        rotate_left
        · intro wq hSw
          obtain ⟨mq, hmq, _, _⟩ := hSw
          have a4 := hmq.cp 4 _ rfl; have a6 := hmq.cp 6 _ rfl; have a7 := hmq.cp 7 _ rfl; have b4 := hmq.cq 4 _ rfl; have b6 := hmq.cq 6 _ rfl; have b7 := hmq.cq 7 _ rfl
          clear hmq
          go_simp
          try with_reducible rfl
        simp only [Act.put, List.setIfInBounds_toArray, List.set_cons_zero, List.set_cons_succ, List.getElem_toArray, List.getElem_cons_zero, List.getElem_cons_succ]
        refine wpAnyH_take (i := 3) (v := ?_) rfl (by kernel_rfl) (by kernel_rfl) (by kernel_rfl) (fun _ _ _ h => h) (Or.inl ⟨by rfl, ?_⟩) (by assumption) ?_
        rotate_left
        · intro wq hSw
          obtain ⟨mq, hmq, _, _⟩ := hSw
          have a4 := hmq.cp 4 _ rfl; have a6 := hmq.cp 6 _ rfl; have a7 := hmq.cp 7 _ rfl; have b4 := hmq.cq 4 _ rfl; have b6 := hmq.cq 6 _ rfl; have b7 := hmq.cq 7 _ rfl
          clear hmq
          go_simp
          try with_reducible rfl
        simp only [Act.put, List.setIfInBounds_toArray, List.set_cons_zero, List.set_cons_succ, List.getElem_toArray, List.getElem_cons_zero, List.getElem_cons_succ]
        refine wpAnyH_take (i := 4) (v := ?_) rfl (by kernel_rfl) (by kernel_rfl) (by kernel_rfl) (fun _ _ _ h => h) (Or.inl ⟨by rfl, ?_⟩) (by assumption) ?_
        rotate_left
        · intro wq hSw
          obtain ⟨mq, hmq, _, _⟩ := hSw
          have a4 := hmq.cp 4 _ rfl; have a6 := hmq.cp 6 _ rfl; have a7 := hmq.cp 7 _ rfl; have b4 := hmq.cq 4 _ rfl; have b6 := hmq.cq 6 _ rfl; have b7 := hmq.cq 7 _ rfl
          clear hmq
          go_simp
          try with_reducible rfl
        simp only [Act.put, List.setIfInBounds_toArray, List.set_cons_zero, List.set_cons_succ, List.getElem_toArray, List.getElem_cons_zero, List.getElem_cons_succ]
        refine wpAnyH_take (i := 5) (v := ?_) rfl (by kernel_rfl) (by kernel_rfl) (by kernel_rfl) (fun _ _ _ h => h) (Or.inl ⟨by rfl, ?_⟩) (by assumption) ?_
        rotate_left
        · intro wq hSw
          obtain ⟨mq, hmq, _, _⟩ := hSw
          have a4 := hmq.cp 4 _ rfl; have a6 := hmq.cp 6 _ rfl; have a7 := hmq.cp 7 _ rfl; have b4 := hmq.cq 4 _ rfl; have b6 := hmq.cq 6 _ rfl; have b7 := hmq.cq 7 _ rfl
          clear hmq
          go_simp
          try with_reducible rfl
        simp only [Act.put, List.setIfInBounds_toArray, List.set_cons_zero, List.set_cons_succ, List.getElem_toArray, List.getElem_cons_zero, List.getElem_cons_succ]
        refine wpAnyH_take (i := 6) (v := ?_) rfl (by kernel_rfl) (by kernel_rfl) (by kernel_rfl) (fun _ _ _ h => h) (Or.inl ⟨by rfl, ?_⟩) (by assumption) ?_
        rotate_left
        · intro wq hSw
          obtain ⟨mq, hmq, _, _⟩ := hSw
          have a4 := hmq.cp 4 _ rfl; have a6 := hmq.cp 6 _ rfl; have a7 := hmq.cp 7 _ rfl; have b4 := hmq.cq 4 _ rfl; have b6 := hmq.cq 6 _ rfl; have b7 := hmq.cq 7 _ rfl
          clear hmq
          go_simp
          try with_reducible rfl
        simp only [Act.put, List.setIfInBounds_toArray, List.set_cons_zero, List.set_cons_succ, List.getElem_toArray, List.getElem_cons_zero, List.getElem_cons_succ]
        refine wpAnyH_take (i := 7) (v := ?_) rfl (by kernel_rfl) (by kernel_rfl) (by kernel_rfl) (fun _ _ _ h => h) (Or.inl ⟨by rfl, ?_⟩) (by assumption) ?_
        rotate_left
        · intro wq hSw
          obtain ⟨mq, hmq, _, _⟩ := hSw
          have a4 := hmq.cp 4 _ rfl; have a6 := hmq.cp 6 _ rfl; have a7 := hmq.cp 7 _ rfl; have b4 := hmq.cq 4 _ rfl; have b6 := hmq.cq 6 _ rfl; have b7 := hmq.cq 7 _ rfl
          clear hmq
          go_simp
          try with_reducible rfl
        simp only [Act.put, List.setIfInBounds_toArray, List.set_cons_zero, List.set_cons_succ, List.getElem_toArray, List.getElem_cons_zero, List.getElem_cons_succ]
        refine wpAnyH_take (i := 8) (v := ?_) rfl (by kernel_rfl) (by kernel_rfl) (by kernel_rfl) (fun _ _ _ h => h) (Or.inl ⟨by rfl, ?_⟩) (by assumption) ?_
        rotate_left
        · intro wq hSw
          obtain ⟨mq, hmq, _, _⟩ := hSw
          have a4 := hmq.cp 4 _ rfl; have a6 := hmq.cp 6 _ rfl; have a7 := hmq.cp 7 _ rfl; have b4 := hmq.cq 4 _ rfl; have b6 := hmq.cq 6 _ rfl; have b7 := hmq.cq 7 _ rfl
          clear hmq
          go_simp
          try with_reducible rfl
        simp only [Act.put, List.setIfInBounds_toArray, List.set_cons_zero, List.set_cons_succ, List.getElem_toArray, List.getElem_cons_zero, List.getElem_cons_succ]
        refine wpAnyH_take (i := 9) (v := ?_) rfl (by kernel_rfl) (by kernel_rfl) (by kernel_rfl) (fun _ _ _ h => h) (Or.inl ⟨by rfl, ?_⟩) (by assumption) ?_
        rotate_left
        · intro wq hSw
          obtain ⟨mq, hmq, _, _⟩ := hSw
          have a4 := hmq.cp 4 _ rfl; have a6 := hmq.cp 6 _ rfl; have a7 := hmq.cp 7 _ rfl; have b4 := hmq.cq 4 _ rfl; have b6 := hmq.cq 6 _ rfl; have b7 := hmq.cq 7 _ rfl
          clear hmq
          go_simp
          try with_reducible rfl
        simp only [Act.put, List.setIfInBounds_toArray, List.set_cons_zero, List.set_cons_succ, List.getElem_toArray, List.getElem_cons_zero, List.getElem_cons_succ]
        refine wpAnyH_take (i := 10) (v := ?_) rfl (by kernel_rfl) (by kernel_rfl) (by kernel_rfl) (fun _ _ _ h => h) (Or.inl ⟨by rfl, ?_⟩) (by assumption) ?_
        rotate_left
        · intro wq hSw
          obtain ⟨mq, hmq, _, _⟩ := hSw
          have a4 := hmq.cp 4 _ rfl; have a6 := hmq.cp 6 _ rfl; have a7 := hmq.cp 7 _ rfl; have b4 := hmq.cq 4 _ rfl; have b6 := hmq.cq 6 _ rfl; have b7 := hmq.cq 7 _ rfl
          clear hmq
          go_simp
          try with_reducible rfl
        simp only [Act.put, List.setIfInBounds_toArray, List.set_cons_zero, List.set_cons_succ, List.getElem_toArray, List.getElem_cons_zero, List.getElem_cons_succ]
        refine wpAnyH_take (i := 11) (v := ?_) rfl (by kernel_rfl) (by kernel_rfl) (by kernel_rfl) (fun _ _ _ h => h) (Or.inl ⟨by rfl, ?_⟩) (by assumption) ?_
        rotate_left
        · intro wq hSw
          obtain ⟨mq, hmq, _, _⟩ := hSw
          have a4 := hmq.cp 4 _ rfl; have a6 := hmq.cp 6 _ rfl; have a7 := hmq.cp 7 _ rfl; have b4 := hmq.cq 4 _ rfl; have b6 := hmq.cq 6 _ rfl; have b7 := hmq.cq 7 _ rfl
          clear hmq
          go_simp
          try with_reducible rfl
        simp only [Act.put, List.setIfInBounds_toArray, List.set_cons_zero, List.set_cons_succ, List.getElem_toArray, List.getElem_cons_zero, List.getElem_cons_succ]
        refine wpAnyH_take (i := 12) (v := ?_) rfl (by kernel_rfl) (by kernel_rfl) (by kernel_rfl) (fun _ _ _ h => h) (Or.inl ⟨by rfl, ?_⟩) (by assumption) ?_
        rotate_left
        · intro wq hSw
          obtain ⟨mq, hmq, _, _⟩ := hSw
          have a4 := hmq.cp 4 _ rfl; have a6 := hmq.cp 6 _ rfl; have a7 := hmq.cp 7 _ rfl; have b4 := hmq.cq 4 _ rfl; have b6 := hmq.cq 6 _ rfl; have b7 := hmq.cq 7 _ rfl
          clear hmq
          go_simp
          try with_reducible rfl
        simp only [Act.put, List.setIfInBounds_toArray, List.set_cons_zero, List.set_cons_succ, List.getElem_toArray, List.getElem_cons_zero, List.getElem_cons_succ]
        refine wpAnyH_take (i := 13) (v := ?_) rfl (by kernel_rfl) (by kernel_rfl) (by kernel_rfl) (fun _ _ _ h => h) (Or.inl ⟨by rfl, ?_⟩) (by assumption) ?_
        rotate_left
        · intro wq hSw
          obtain ⟨mq, hmq, _, _⟩ := hSw
          have a4 := hmq.cp 4 _ rfl; have a6 := hmq.cp 6 _ rfl; have a7 := hmq.cp 7 _ rfl; have b4 := hmq.cq 4 _ rfl; have b6 := hmq.cq 6 _ rfl; have b7 := hmq.cq 7 _ rfl
          clear hmq
          go_simp
          try with_reducible rfl
        simp only [Act.put, List.setIfInBounds_toArray, List.set_cons_zero, List.set_cons_succ, List.getElem_toArray, List.getElem_cons_zero, List.getElem_cons_succ]
        refine wpAnyH_take (i := 14) (v := ?_) rfl (by kernel_rfl) (by kernel_rfl) (by kernel_rfl) (fun _ _ _ h => h) (Or.inl ⟨by rfl, ?_⟩) (by assumption) ?_
        rotate_left
        · intro wq hSw
          obtain ⟨mq, hmq, _, _⟩ := hSw
          have a4 := hmq.cp 4 _ rfl; have a6 := hmq.cp 6 _ rfl; have a7 := hmq.cp 7 _ rfl; have b4 := hmq.cq 4 _ rfl; have b6 := hmq.cq 6 _ rfl; have b7 := hmq.cq 7 _ rfl
          clear hmq
          go_simp
          try with_reducible rfl
        simp only [Act.put, List.setIfInBounds_toArray, List.set_cons_zero, List.set_cons_succ, List.getElem_toArray, List.getElem_cons_zero, List.getElem_cons_succ]
        refine wpAnyH_take (i := 15) (v := ?_) rfl (by kernel_rfl) (by kernel_rfl) (by kernel_rfl) (fun _ _ _ h => h) (Or.inl ⟨by rfl, ?_⟩) (by assumption) ?_
        rotate_left
        · intro wq hSw
          obtain ⟨mq, hmq, _, _⟩ := hSw
          have a4 := hmq.cp 4 _ rfl; have a6 := hmq.cp 6 _ rfl; have a7 := hmq.cp 7 _ rfl; have b4 := hmq.cq 4 _ rfl; have b6 := hmq.cq 6 _ rfl; have b7 := hmq.cq 7 _ rfl
          clear hmq
          go_simp
          try with_reducible rfl
        simp only [Act.put, List.setIfInBounds_toArray, List.set_cons_zero, List.set_cons_succ, List.getElem_toArray, List.getElem_cons_zero, List.getElem_cons_succ]
        refine wpAnyH_take (i := 16) (v := ?_) rfl (by kernel_rfl) (by kernel_rfl) (by kernel_rfl) (fun _ _ _ h => h) (Or.inl ⟨by rfl, ?_⟩) (by assumption) ?_
        rotate_left
        · intro wq hSw
          obtain ⟨mq, hmq, _, _⟩ := hSw
          have a4 := hmq.cp 4 _ rfl; have a6 := hmq.cp 6 _ rfl; have a7 := hmq.cp 7 _ rfl; have b4 := hmq.cq 4 _ rfl; have b6 := hmq.cq 6 _ rfl; have b7 := hmq.cq 7 _ rfl
          clear hmq
          go_simp
          try with_reducible rfl
        simp only [Act.put, List.setIfInBounds_toArray, List.set_cons_zero, List.set_cons_succ, List.getElem_toArray, List.getElem_cons_zero, List.getElem_cons_succ]
        refine wpAnyH_take (i := 17) (v := ?_) rfl (by kernel_rfl) (by kernel_rfl) (by kernel_rfl) (fun _ _ _ h => h) (Or.inl ⟨by rfl, ?_⟩) (by assumption) ?_
        rotate_left
        · intro wq hSw
          obtain ⟨mq, hmq, _, _⟩ := hSw
          have a4 := hmq.cp 4 _ rfl; have a6 := hmq.cp 6 _ rfl; have a7 := hmq.cp 7 _ rfl; have b4 := hmq.cq 4 _ rfl; have b6 := hmq.cq 6 _ rfl; have b7 := hmq.cq 7 _ rfl
          clear hmq
          go_simp
          try with_reducible rfl
        simp only [Act.put, List.setIfInBounds_toArray, List.set_cons_zero, List.set_cons_succ, List.getElem_toArray, List.getElem_cons_zero, List.getElem_cons_succ]
        refine wpAnyH_take (i := 18) (v := ?_) rfl (by kernel_rfl) (by kernel_rfl) (by kernel_rfl) (fun _ _ _ h => h) (Or.inl ⟨by rfl, ?_⟩) (by assumption) ?_
        rotate_left
        · intro wq hSw
          obtain ⟨mq, hmq, _, _⟩ := hSw
          have a4 := hmq.cp 4 _ rfl; have a6 := hmq.cp 6 _ rfl; have a7 := hmq.cp 7 _ rfl; have b4 := hmq.cq 4 _ rfl; have b6 := hmq.cq 6 _ rfl; have b7 := hmq.cq 7 _ rfl
          clear hmq
          go_simp
          try with_reducible rfl
        simp only [Act.put, List.setIfInBounds_toArray, List.set_cons_zero, List.set_cons_succ, List.getElem_toArray, List.getElem_cons_zero, List.getElem_cons_succ]
        refine wpAnyH_ready (rs := [19]) (by kernel_rfl) (by simp) ?_
        refine AllReadyH.cons rfl (fun K hK => ?_) AllReadyH.nil
        obtain ⟨mq, hmq, hn, ht⟩ := hHeld
        have hco := hmq.co 4 _ rfl
        have hfo := hmq.fo 4 (by decide)
        have HM := Lib.hid hmq
        have HN := Lib.hid hn
        have HTT := Lib.hid ht
        clear hmq hn ht
        go_simp
        refine hK.out _ _ ⟨_, HM.out.set4 _, HN.out, HTT.out⟩ ?_
        clear hK K hco hfo HM HN HTT
        intro hHeld
        refine wpAnyH_take (i := 20) (v := ?_) rfl (by kernel_rfl) (by kernel_rfl) (by kernel_rfl) (fun _ _ _ h => h) (Or.inl ⟨by rfl, ?_⟩) (by assumption) ?_
        rotate_left
        · intro wq hSw
          obtain ⟨mq, hmq, _, _⟩ := hSw
          have a4 := hmq.cp 4 _ rfl; have a6 := hmq.cp 6 _ rfl; have a7 := hmq.cp 7 _ rfl; have b4 := hmq.cq 4 _ rfl; have b6 := hmq.cq 6 _ rfl; have b7 := hmq.cq 7 _ rfl
          clear hmq
          go_simp
          try with_reducible rfl
        simp only [Act.put, List.setIfInBounds_toArray, List.set_cons_zero, List.set_cons_succ, List.getElem_toArray, List.getElem_cons_zero, List.getElem_cons_succ]
        refine wpAnyH_ready (rs := [21]) (by kernel_rfl) (by simp) ?_
        refine AllReadyH.cons rfl (fun K hK => ?_) AllReadyH.nil
        obtain ⟨mq, hmq, hn, ht⟩ := hHeld
        have hco := hmq.co 6 _ rfl
        have hfo := hmq.fo 6 (by decide)
        have HM := Lib.hid hmq
        have HN := Lib.hid hn
        have HTT := Lib.hid ht
        clear hmq hn ht
        go_simp
        refine hK.out _ _ ⟨_, HM.out.set6 _, HN.out, HTT.out⟩ ?_
        clear hK K hco hfo HM HN HTT
        intro hHeld
        refine wpAnyH_take (i := 22) (v := ?_) rfl (by kernel_rfl) (by kernel_rfl) (by kernel_rfl) (fun _ _ _ h => h) (Or.inl ⟨by rfl, ?_⟩) (by assumption) ?_
        rotate_left
        · intro wq hSw
          obtain ⟨mq, hmq, _, _⟩ := hSw
          have a4 := hmq.cp 4 _ rfl; have a6 := hmq.cp 6 _ rfl; have a7 := hmq.cp 7 _ rfl; have b4 := hmq.cq 4 _ rfl; have b6 := hmq.cq 6 _ rfl; have b7 := hmq.cq 7 _ rfl
          clear hmq
          go_simp
          try with_reducible rfl
        simp only [Act.put, List.setIfInBounds_toArray, List.set_cons_zero, List.set_cons_succ, List.getElem_toArray, List.getElem_cons_zero, List.getElem_cons_succ]
        refine wpAnyH_ready (rs := [23]) (by kernel_rfl) (by simp) ?_
        refine AllReadyH.cons rfl (fun K hK => ?_) AllReadyH.nil
        obtain ⟨mq, hmq, hn, ht⟩ := hHeld
        have hco := hmq.co 7 _ rfl
        have hfo := hmq.fo 7 (by decide)
        have HM := Lib.hid hmq
        have HN := Lib.hid hn
        have HTT := Lib.hid ht
        clear hmq hn ht
        go_simp
        refine hK.out _ _ ⟨_, HM.out.set7 _, HN.out, HTT.out⟩ ?_
        clear hK K hco hfo HM HN HTT
        intro hHeld
        have HZ0 := Lib.hid hHeld
        clear hHeld
        refine wpAnyH_done (by kernel_rfl) (normal_gen (M := MX p q A B c d w.heap.size w) HZ0.out (fun wz hHeld => ?_)) _
        clear HZ0
        have HZ := Lib.hid hHeld
        clear hHeld
        go_wp2
        all_goals (go_meet; exact HZ.out)
    case rest =>
      have hHeld := hcut
      clear hcut
      go_upto_region 4 with fail
      go_cut [62] (fun v wx => MX p q A B c d w.heap.size w wx)
      case first =>
        as_aux_lemma =>
        have HH := Lib.hid hHeld
        clear hHeld
        go_wp2_with fail
        refine wp_region_held_drew (S := MX p q A B c d w.heap.size w) (by kernel_rfl) (HH.out.later (Below.refl _ _).drew) ?_
        clear HH
        intro hHeld
        refine wpAnyH_take (i := 0) (v := ?_) rfl (by kernel_rfl) (by kernel_rfl) (by kernel_rfl) (fun _ _ _ h => h) (Or.inl ⟨by rfl, ?_⟩) (by assumption) ?_
        rotate_left
        · intro wq hSw
          obtain ⟨mq, hmq, _, _⟩ := hSw
          have a8 := hmq.cp 8 _ rfl; have a9 := hmq.cp 9 _ rfl; have a16 := hmq.cp 16 _ rfl; have b8 := hmq.cq 8 _ rfl; have b9 := hmq.cq 9 _ rfl; have b16 := hmq.cq 16 _ rfl
          clear hmq
          go_simp
          try with_reducible rfl
        simp only [Act.put, List.setIfInBounds_toArray, List.set_cons_zero, List.set_cons_succ, List.getElem_toArray, List.getElem_cons_zero]
        refine wpAnyH_take (i := 1) (v := ?_) rfl (by kernel_rfl) (by kernel_rfl) (by kernel_rfl) (fun _ _ _ h => h) (Or.inl ⟨by rfl, ?_⟩) (by assumption) ?_
        rotate_left
        · intro wq hSw
          obtain ⟨mq, hmq, _, _⟩ := hSw
          have a8 := hmq.cp 8 _ rfl; have a9 := hmq.cp 9 _ rfl; have a16 := hmq.cp 16 _ rfl; have b8 := hmq.cq 8 _ rfl; have b9 := hmq.cq 9 _ rfl; have b16 := hmq.cq 16 _ rfl
          clear hmq
          go_simp
          try with_reducible rfl
        simp only [Act.put, List.setIfInBounds_toArray, List.set_cons_zero, List.set_cons_succ, List.getElem_toArray, List.getElem_cons_zero, List.getElem_cons_succ]
        refine wpAnyH_take (i := 2) (v := ?_) rfl (by kernel_rfl) (by kernel_rfl) (by kernel_rfl) (fun _ _ _ h => h) (Or.inl ⟨by rfl, ?_⟩) (by assumption) ?_
        rotate_left
        · intro wq hSw
          obtain ⟨mq, hmq, _, _⟩ := hSw
          have a8 := hmq.cp 8 _ rfl; have a9 := hmq.cp 9 _ rfl; have a16 := hmq.cp 16 _ rfl; have b8 := hmq.cq 8 _ rfl; have b9 := hmq.cq 9 _ rfl; have b16 := hmq.cq 16 _ rfl
          clear hmq
          go_simp
          try with_reducible rfl
        simp only [Act.put, List.setIfInBounds_toArray, List.set_cons_zero, List.set_cons_succ, List.getElem_toArray, List.getElem_cons_zero, List.getElem_cons_succ]
        refine wpAnyH_take (i := 3) (v := ?_) rfl (by kernel_rfl) (by kernel_rfl) (by kernel_rfl) (fun _ _ _ h => h) (Or.inl ⟨by rfl, ?_⟩) (by assumption) ?_
        rotate_left
        · intro wq hSw
          obtain ⟨mq, hmq, _, _⟩ := hSw
          have a8 := hmq.cp 8 _ rfl; have a9 := hmq.cp 9 _ rfl; have a16 := hmq.cp 16 _ rfl; have b8 := hmq.cq 8 _ rfl; have b9 := hmq.cq 9 _ rfl; have b16 := hmq.cq 16 _ rfl
          clear hmq
          go_simp
          try with_reducible rfl
        simp only [Act.put, List.setIfInBounds_toArray, List.set_cons_zero, List.set_cons_succ, List.getElem_toArray, List.getElem_cons_zero, List.getElem_cons_succ]
        refine wpAnyH_take (i := 4) (v := ?_) rfl (by kernel_rfl) (by kernel_rfl) (by kernel_rfl) (fun _ _ _ h => h) (Or.inl ⟨by rfl, ?_⟩) (by assumption) ?_
        rotate_left
        · intro wq hSw
          obtain ⟨mq, hmq, _, _⟩ := hSw
          have a8 := hmq.cp 8 _ rfl; have a9 := hmq.cp 9 _ rfl; have a16 := hmq.cp 16 _ rfl; have b8 := hmq.cq 8 _ rfl; have b9 := hmq.cq 9 _ rfl; have b16 := hmq.cq 16 _ rfl
          clear hmq
          go_simp
          try with_reducible rfl
        simp only [Act.put, List.setIfInBounds_toArray, List.set_cons_zero, List.set_cons_succ, List.getElem_toArray, List.getElem_cons_zero, List.getElem_cons_succ]
        refine wpAnyH_take (i := 5) (v := ?_) rfl (by kernel_rfl) (by kernel_rfl) (by kernel_rfl) (fun _ _ _ h => h) (Or.inl ⟨by rfl, ?_⟩) (by assumption) ?_
        rotate_left
        · intro wq hSw
          obtain ⟨mq, hmq, _, _⟩ := hSw
          have a8 := hmq.cp 8 _ rfl; have a9 := hmq.cp 9 _ rfl; have a16 := hmq.cp 16 _ rfl; have b8 := hmq.cq 8 _ rfl; have b9 := hmq.cq 9 _ rfl; have b16 := hmq.cq 16 _ rfl
          clear hmq
          go_simp
          try with_reducible rfl
        simp only [Act.put, List.setIfInBounds_toArray, List.set_cons_zero, List.set_cons_succ, List.getElem_toArray, List.getElem_cons_zero, List.getElem_cons_succ]
        refine wpAnyH_take (i := 6) (v := ?_) rfl (by kernel_rfl) (by kernel_rfl) (by kernel_rfl) (fun _ _ _ h => h) (Or.inl ⟨by rfl, ?_⟩) (by assumption) ?_
        rotate_left
        · intro wq hSw
          obtain ⟨mq, hmq, _, _⟩ := hSw
          have a8 := hmq.cp 8 _ rfl; have a9 := hmq.cp 9 _ rfl; have a16 := hmq.cp 16 _ rfl; have b8 := hmq.cq 8 _ rfl; have b9 := hmq.cq 9 _ rfl; have b16 := hmq.cq 16 _ rfl
          clear hmq
          go_simp
          try with_reducible rfl
        simp only [Act.put, List.setIfInBounds_toArray, List.set_cons_zero, List.set_cons_succ, List.getElem_toArray, List.getElem_cons_zero, List.getElem_cons_succ]
        refine wpAnyH_take (i := 7) (v := ?_) rfl (by kernel_rfl) (by kernel_rfl) (by kernel_rfl) (fun _ _ _ h => h) (Or.inl ⟨by rfl, ?_⟩) (by assumption) ?_
        rotate_left
        · intro wq hSw
          obtain ⟨mq, hmq, _, _⟩ := hSw
          have a8 := hmq.cp 8 _ rfl; have a9 := hmq.cp 9 _ rfl; have a16 := hmq.cp 16 _ rfl; have b8 := hmq.cq 8 _ rfl; have b9 := hmq.cq 9 _ rfl; have b16 := hmq.cq 16 _ rfl
          clear hmq
          go_simp
          try with_reducible rfl
        simp only [Act.put, List.setIfInBounds_toArray, List.set_cons_zero, List.set_cons_succ, List.getElem_toArray, List.getElem_cons_zero, List.getElem_cons_succ]
        refine wpAnyH_take (i := 8) (v := ?_) rfl (by kernel_rfl) (by kernel_rfl) (by kernel_rfl) (fun _ _ _ h => h) (Or.inl ⟨by rfl, ?_⟩) (by assumption) ?_
        rotate_left
        · intro wq hSw
          obtain ⟨mq, hmq, _, _⟩ := hSw
          have a8 := hmq.cp 8 _ rfl; have a9 := hmq.cp 9 _ rfl; have a16 := hmq.cp 16 _ rfl; have b8 := hmq.cq 8 _ rfl; have b9 := hmq.cq 9 _ rfl; have b16 := hmq.cq 16 _ rfl
          clear hmq
          go_simp
          try with_reducible rfl
        simp only [Act.put, List.setIfInBounds_toArray, List.set_cons_zero, List.set_cons_succ, List.getElem_toArray, List.getElem_cons_zero, List.getElem_cons_succ]
        refine wpAnyH_take (i := 9) (v := ?_) rfl (by kernel_rfl) (by kernel_rfl) (by kernel_rfl) (fun _ _ _ h => h) (Or.inl ⟨by rfl, ?_⟩) (by assumption) ?_
        rotate_left
        · intro wq hSw
          obtain ⟨mq, hmq, _, _⟩ := hSw
          have a8 := hmq.cp 8 _ rfl; have a9 := hmq.cp 9 _ rfl; have a16 := hmq.cp 16 _ rfl; have b8 := hmq.cq 8 _ rfl; have b9 := hmq.cq 9 _ rfl; have b16 := hmq.cq 16 _ rfl
          clear hmq
          go_simp
          try with_reducible rfl
        simp only [Act.put, List.setIfInBounds_toArray, List.set_cons_zero, List.set_cons_succ, List.getElem_toArray, List.getElem_cons_zero, List.getElem_cons_succ]
        refine wpAnyH_take (i := 10) (v := ?_) rfl (by kernel_rfl) (by kernel_rfl) (by kernel_rfl) (fun _ _ _ h => h) (Or.inl ⟨by rfl, ?_⟩) (by assumption) ?_
        rotate_left
        · intro wq hSw
          obtain ⟨mq, hmq, _, _⟩ := hSw
          have a8 := hmq.cp 8 _ rfl; have a9 := hmq.cp 9 _ rfl; have a16 := hmq.cp 16 _ rfl; have b8 := hmq.cq 8 _ rfl; have b9 := hmq.cq 9 _ rfl; have b16 := hmq.cq 16 _ rfl
          clear hmq
          go_simp
          try with_reducible rfl
        simp only [Act.put, List.setIfInBounds_toArray, List.set_cons_zero, List.set_cons_succ, List.getElem_toArray, List.getElem_cons_zero, List.getElem_cons_succ]
        refine wpAnyH_take (i := 11) (v := ?_) rfl (by kernel_rfl) (by kernel_rfl) (by kernel_rfl) (fun _ _ _ h => h) (Or.inl ⟨by rfl, ?_⟩) (by assumption) ?_
        rotate_left
        · intro wq hSw
          obtain ⟨mq, hmq, _, _⟩ := hSw
          have a8 := hmq.cp 8 _ rfl; have a9 := hmq.cp 9 _ rfl; have a16 := hmq.cp 16 _ rfl; have b8 := hmq.cq 8 _ rfl; have b9 := hmq.cq 9 _ rfl; have b16 := hmq.cq 16 _ rfl
          clear hmq
          go_simp
          try with_reducible rfl
        simp only [Act.put, List.setIfInBounds_toArray, List.set_cons_zero, List.set_cons_succ, List.getElem_toArray, List.getElem_cons_zero, List.getElem_cons_succ]
        refine wpAnyH_take (i := 12) (v := ?_) rfl (by kernel_rfl) (by kernel_rfl) (by kernel_rfl) (fun _ _ _ h => h) (Or.inl ⟨by rfl, ?_⟩) (by assumption) ?_
        rotate_left
        · intro wq hSw
          obtain ⟨mq, hmq, _, _⟩ := hSw
          have a8 := hmq.cp 8 _ rfl; have a9 := hmq.cp 9 _ rfl; have a16 := hmq.cp 16 _ rfl; have b8 := hmq.cq 8 _ rfl; have b9 := hmq.cq 9 _ rfl; have b16 := hmq.cq 16 _ rfl
          clear hmq
          go_simp
          try with_reducible rfl
        simp only [Act.put, List.setIfInBounds_toArray, List.set_cons_zero, List.set_cons_succ, List.getElem_toArray, List.getElem_cons_zero, List.getElem_cons_succ]
        refine wpAnyH_take (i := 13) (v := ?_) rfl (by kernel_rfl) (by kernel_rfl) (by kernel_rfl) (fun _ _ _ h => h) (Or.inl ⟨by rfl, ?_⟩) (by assumption) ?_
        rotate_left
        · intro wq hSw
          obtain ⟨mq, hmq, _, _⟩ := hSw
          have a8 := hmq.cp 8 _ rfl; have a9 := hmq.cp 9 _ rfl; have a16 := hmq.cp 16 _ rfl; have b8 := hmq.cq 8 _ rfl; have b9 := hmq.cq 9 _ rfl; have b16 := hmq.cq 16 _ rfl
          clear hmq
          go_simp
          try with_reducible rfl
        simp only [Act.put, List.setIfInBounds_toArray, List.set_cons_zero, List.set_cons_succ, List.getElem_toArray, List.getElem_cons_zero, List.getElem_cons_succ]
        refine wpAnyH_take (i := 14) (v := ?_) rfl (by kernel_rfl) (by kernel_rfl) (by kernel_rfl) (fun _ _ _ h => h) (Or.inl ⟨by rfl, ?_⟩) (by assumption) ?_
        rotate_left
        · intro wq hSw
          obtain ⟨mq, hmq, _, _⟩ := hSw
          have a8 := hmq.cp 8 _ rfl; have a9 := hmq.cp 9 _ rfl; have a16 := hmq.cp 16 _ rfl; have b8 := hmq.cq 8 _ rfl; have b9 := hmq.cq 9 _ rfl; have b16 := hmq.cq 16 _ rfl
          clear hmq
          go_simp
          try with_reducible rfl
        simp only [Act.put, List.setIfInBounds_toArray, List.set_cons_zero, List.set_cons_succ, List.getElem_toArray, List.getElem_cons_zero, List.getElem_cons_succ]
        refine wpAnyH_take (i := 15) (v := ?_) rfl (by kernel_rfl) (by kernel_rfl) (by kernel_rfl) (fun _ _ _ h => h) (Or.inl ⟨by rfl, ?_⟩) (by assumption) ?_
        rotate_left
        · intro wq hSw
          obtain ⟨mq, hmq, _, _⟩ := hSw
          have a8 := hmq.cp 8 _ rfl; have a9 := hmq.cp 9 _ rfl; have a16 := hmq.cp 16 _ rfl; have b8 := hmq.cq 8 _ rfl; have b9 := hmq.cq 9 _ rfl; have b16 := hmq.cq 16 _ rfl
          clear hmq
          go_simp
          try with_reducible rfl
        simp only [Act.put, List.setIfInBounds_toArray, List.set_cons_zero, List.set_cons_succ, List.getElem_toArray, List.getElem_cons_zero, List.getElem_cons_succ]
        refine wpAnyH_ready (rs := [16]) (by kernel_rfl) (by simp) ?_
        refine AllReadyH.cons rfl (fun K hK => ?_) AllReadyH.nil
        obtain ⟨mq, hmq, hn, ht⟩ := hHeld
        have hco := hmq.co 8 _ rfl
        have hfo := hmq.fo 8 (by decide)
        have HM := Lib.hid hmq
        have HN := Lib.hid hn
        have HTT := Lib.hid ht
        clear hmq hn ht
        go_simp
        refine hK.out _ _ ⟨_, HM.out.set8 _, HN.out, HTT.out⟩ ?_
        clear hK K hco hfo HM HN HTT
        intro hHeld
        refine wpAnyH_take (i := 17) (v := ?_) rfl (by kernel_rfl) (by kernel_rfl) (by kernel_rfl) (fun _ _ _ h => h) (Or.inl ⟨by rfl, ?_⟩) (by assumption) ?_
        rotate_left
        · intro wq hSw
          obtain ⟨mq, hmq, _, _⟩ := hSw
          have a8 := hmq.cp 8 _ rfl; have a9 := hmq.cp 9 _ rfl; have a16 := hmq.cp 16 _ rfl; have b8 := hmq.cq 8 _ rfl; have b9 := hmq.cq 9 _ rfl; have b16 := hmq.cq 16 _ rfl
          clear hmq
          go_simp
          try with_reducible rfl
        simp only [Act.put, List.setIfInBounds_toArray, List.set_cons_zero, List.set_cons_succ, List.getElem_toArray, List.getElem_cons_zero, List.getElem_cons_succ]
        refine wpAnyH_ready (rs := [18]) (by kernel_rfl) (by simp) ?_
        refine AllReadyH.cons rfl (fun K hK => ?_) AllReadyH.nil
        obtain ⟨mq, hmq, hn, ht⟩ := hHeld
        have hco := hmq.co 9 _ rfl
        have hfo := hmq.fo 9 (by decide)
        have HM := Lib.hid hmq
        have HN := Lib.hid hn
        have HTT := Lib.hid ht
        clear hmq hn ht
        go_simp
        refine hK.out _ _ ⟨_, HM.out.set9 _, HN.out, HTT.out⟩ ?_
        clear hK K hco hfo HM HN HTT
        intro hHeld
        refine wpAnyH_take (i := 19) (v := ?_) rfl (by kernel_rfl) (by kernel_rfl) (by kernel_rfl) (fun _ _ _ h => h) (Or.inl ⟨by rfl, ?_⟩) (by assumption) ?_
        rotate_left
        · intro wq hSw
          obtain ⟨mq, hmq, _, _⟩ := hSw
          have a8 := hmq.cp 8 _ rfl; have a9 := hmq.cp 9 _ rfl; have a16 := hmq.cp 16 _ rfl; have b8 := hmq.cq 8 _ rfl; have b9 := hmq.cq 9 _ rfl; have b16 := hmq.cq 16 _ rfl
          clear hmq
          go_simp
          try with_reducible rfl
        simp only [Act.put, List.setIfInBounds_toArray, List.set_cons_zero, List.set_cons_succ, List.getElem_toArray, List.getElem_cons_zero, List.getElem_cons_succ]
        refine wpAnyH_ready (rs := [20]) (by kernel_rfl) (by simp) ?_
        refine AllReadyH.cons rfl (fun K hK => ?_) AllReadyH.nil
        obtain ⟨mq, hmq, hn, ht⟩ := hHeld
        have hco := hmq.co 16 _ rfl
        have hfo := hmq.fo 16 (by decide)
        have HM := Lib.hid hmq
        have HN := Lib.hid hn
        have HTT := Lib.hid ht
        clear hmq hn ht
        go_simp
        refine hK.out _ _ ⟨_, HM.out.set16 _, HN.out, HTT.out⟩ ?_
        clear hK K hco hfo HM HN HTT
        intro hHeld
        have HZ0 := Lib.hid hHeld
        clear hHeld
        refine wpAnyH_done (by kernel_rfl) (normal_gen (M := MX p q A B c d w.heap.size w) HZ0.out (fun wz hHeld => ?_)) _
        clear HZ0
        have HZ := Lib.hid hHeld
        clear hHeld
        go_wp2
        all_goals (go_meet; exact HZ.out)
      case rest =>
        have hHeld := hcut
        clear hcut
        go_upto_region 5 with fail
        go_cut [75] (fun v wx => MX p q A B c d w.heap.size w wx)
        case first =>
          as_aux_lemma =>
          have HH := Lib.hid hHeld
          clear hHeld
          go_wp2_with fail
          refine wp_region_held_drew (S := MX p q A B c d w.heap.size w) (by kernel_rfl) (HH.out.later (Below.refl _ _).drew) ?_
          clear HH
          intro hHeld
          refine wpAnyH_take (i := 0) (v := ?_) rfl (by kernel_rfl) (by kernel_rfl) (by kernel_rfl) (fun _ _ _ h => h) (Or.inl ⟨by rfl, ?_⟩) (by assumption) ?_
          rotate_left
          · intro wq hSw
            obtain ⟨mq, hmq, _, _⟩ := hSw
            have a10 := hmq.cp 10 _ rfl; have a11 := hmq.cp 11 _ rfl; have b10 := hmq.cq 10 _ rfl; have b11 := hmq.cq 11 _ rfl
            clear hmq
            go_simp
            try with_reducible rfl
          simp only [Act.put, List.setIfInBounds_toArray, List.set_cons_zero, List.set_cons_succ, List.getElem_toArray, List.getElem_cons_zero]
          refine wpAnyH_take (i := 1) (v := ?_) rfl (by kernel_rfl) (by kernel_rfl) (by kernel_rfl) (fun _ _ _ h => h) (Or.inl ⟨by rfl, ?_⟩) (by assumption) ?_
          rotate_left
          · intro wq hSw
            obtain ⟨mq, hmq, _, _⟩ := hSw
            have a10 := hmq.cp 10 _ rfl; have a11 := hmq.cp 11 _ rfl; have b10 := hmq.cq 10 _ rfl; have b11 := hmq.cq 11 _ rfl
            clear hmq
            go_simp
            try with_reducible rfl
          simp only [Act.put, List.setIfInBounds_toArray, List.set_cons_zero, List.set_cons_succ, List.getElem_toArray, List.getElem_cons_zero, List.getElem_cons_succ]
          refine wpAnyH_take (i := 2) (v := ?_) rfl (by kernel_rfl) (by kernel_rfl) (by kernel_rfl) (fun _ _ _ h => h) (Or.inl ⟨by rfl, ?_⟩) (by assumption) ?_
          rotate_left
          · intro wq hSw
            obtain ⟨mq, hmq, _, _⟩ := hSw
            have a10 := hmq.cp 10 _ rfl; have a11 := hmq.cp 11 _ rfl; have b10 := hmq.cq 10 _ rfl; have b11 := hmq.cq 11 _ rfl
            clear hmq
            go_simp
            try with_reducible rfl
          simp only [Act.put, List.setIfInBounds_toArray, List.set_cons_zero, List.set_cons_succ, List.getElem_toArray, List.getElem_cons_zero, List.getElem_cons_succ]
          refine wpAnyH_take (i := 3) (v := ?_) rfl (by kernel_rfl) (by kernel_rfl) (by kernel_rfl) (fun _ _ _ h => h) (Or.inl ⟨by rfl, ?_⟩) (by assumption) ?_
          rotate_left
          · intro wq hSw
            obtain ⟨mq, hmq, _, _⟩ := hSw
            have a10 := hmq.cp 10 _ rfl; have a11 := hmq.cp 11 _ rfl; have b10 := hmq.cq 10 _ rfl; have b11 := hmq.cq 11 _ rfl
            clear hmq
            go_simp
            try with_reducible rfl
          simp only [Act.put, List.setIfInBounds_toArray, List.set_cons_zero, List.set_cons_succ, List.getElem_toArray, List.getElem_cons_zero, List.getElem_cons_succ]
          refine wpAnyH_take (i := 4) (v := ?_) rfl (by kernel_rfl) (by kernel_rfl) (by kernel_rfl) (fun _ _ _ h => h) (Or.inl ⟨by rfl, ?_⟩) (by assumption) ?_
          rotate_left
          · intro wq hSw
            obtain ⟨mq, hmq, _, _⟩ := hSw
            have a10 := hmq.cp 10 _ rfl; have a11 := hmq.cp 11 _ rfl; have b10 := hmq.cq 10 _ rfl; have b11 := hmq.cq 11 _ rfl
            clear hmq
            go_simp
            try with_reducible rfl
          simp only [Act.put, List.setIfInBounds_toArray, List.set_cons_zero, List.set_cons_succ, List.getElem_toArray, List.getElem_cons_zero, List.getElem_cons_succ]
          refine wpAnyH_take (i := 5) (v := ?_) rfl (by kernel_rfl) (by kernel_rfl) (by kernel_rfl) (fun _ _ _ h => h) (Or.inl ⟨by rfl, ?_⟩) (by assumption) ?_
          rotate_left
          · intro wq hSw
            obtain ⟨mq, hmq, _, _⟩ := hSw
            have a10 := hmq.cp 10 _ rfl; have a11 := hmq.cp 11 _ rfl; have b10 := hmq.cq 10 _ rfl; have b11 := hmq.cq 11 _ rfl
            clear hmq
            go_simp
            try with_reducible rfl
          simp only [Act.put, List.setIfInBounds_toArray, List.set_cons_zero, List.set_cons_succ, List.getElem_toArray, List.getElem_cons_zero, List.getElem_cons_succ]
          refine wpAnyH_take (i := 6) (v := ?_) rfl (by kernel_rfl) (by kernel_rfl) (by kernel_rfl) (fun _ _ _ h => h) (Or.inl ⟨by rfl, ?_⟩) (by assumption) ?_
          rotate_left
          · intro wq hSw
            obtain ⟨mq, hmq, _, _⟩ := hSw
            have a10 := hmq.cp 10 _ rfl; have a11 := hmq.cp 11 _ rfl; have b10 := hmq.cq 10 _ rfl; have b11 := hmq.cq 11 _ rfl
            clear hmq
            go_simp
            try with_reducible rfl
          simp only [Act.put, List.setIfInBounds_toArray, List.set_cons_zero, List.set_cons_succ, List.getElem_toArray, List.getElem_cons_zero, List.getElem_cons_succ]
          refine wpAnyH_take (i := 7) (v := ?_) rfl (by kernel_rfl) (by kernel_rfl) (by kernel_rfl) (fun _ _ _ h => h) (Or.inl ⟨by rfl, ?_⟩) (by assumption) ?_
          rotate_left
          · intro wq hSw
            obtain ⟨mq, hmq, _, _⟩ := hSw
            have a10 := hmq.cp 10 _ rfl; have a11 := hmq.cp 11 _ rfl; have b10 := hmq.cq 10 _ rfl; have b11 := hmq.cq 11 _ rfl
            clear hmq
            go_simp
            try with_reducible rfl
          simp only [Act.put, List.setIfInBounds_toArray, List.set_cons_zero, List.set_cons_succ, List.getElem_toArray, List.getElem_cons_zero, List.getElem_cons_succ]
          refine wpAnyH_take (i := 8) (v := ?_) rfl (by kernel_rfl) (by kernel_rfl) (by kernel_rfl) (fun _ _ _ h => h) (Or.inl ⟨by rfl, ?_⟩) (by assumption) ?_
          rotate_left
          · intro wq hSw
            obtain ⟨mq, hmq, _, _⟩ := hSw
            have a10 := hmq.cp 10 _ rfl; have a11 := hmq.cp 11 _ rfl; have b10 := hmq.cq 10 _ rfl; have b11 := hmq.cq 11 _ rfl
            clear hmq
            go_simp
            try with_reducible rfl
          simp only [Act.put, List.setIfInBounds_toArray, List.set_cons_zero, List.set_cons_succ, List.getElem_toArray, List.getElem_cons_zero, List.getElem_cons_succ]
          refine wpAnyH_take (i := 9) (v := ?_) rfl (by kernel_rfl) (by kernel_rfl) (by kernel_rfl) (fun _ _ _ h => h) (Or.inl ⟨by rfl, ?_⟩) (by assumption) ?_
          rotate_left
          · intro wq hSw
            obtain ⟨mq, hmq, _, _⟩ := hSw
            have a10 := hmq.cp 10 _ rfl; have a11 := hmq.cp 11 _ rfl; have b10 := hmq.cq 10 _ rfl; have b11 := hmq.cq 11 _ rfl
            clear hmq
            go_simp
            try with_reducible rfl
          simp only [Act.put, List.setIfInBounds_toArray, List.set_cons_zero, List.set_cons_succ, List.getElem_toArray, List.getElem_cons_zero, List.getElem_cons_succ]
          refine wpAnyH_take (i := 10) (v := ?_) rfl (by kernel_rfl) (by kernel_rfl) (by kernel_rfl) (fun _ _ _ h => h) (Or.inl ⟨by rfl, ?_⟩) (by assumption) ?_
          rotate_left
          · intro wq hSw
            obtain ⟨mq, hmq, _, _⟩ := hSw
            have a10 := hmq.cp 10 _ rfl; have a11 := hmq.cp 11 _ rfl; have b10 := hmq.cq 10 _ rfl; have b11 := hmq.cq 11 _ rfl
            clear hmq
            go_simp
            try with_reducible rfl
          simp only [Act.put, List.setIfInBounds_toArray, List.set_cons_zero, List.set_cons_succ, List.getElem_toArray, List.getElem_cons_zero, List.getElem_cons_succ]
          refine wpAnyH_ready (rs := [11]) (by kernel_rfl) (by simp) ?_
          refine AllReadyH.cons rfl (fun K hK => ?_) AllReadyH.nil
          obtain ⟨mq, hmq, hn, ht⟩ := hHeld
          have hco := hmq.co 10 _ rfl
          have hfo := hmq.fo 10 (by decide)
          have HM := Lib.hid hmq
          have HN := Lib.hid hn
          have HTT := Lib.hid ht
          clear hmq hn ht
          go_simp
          refine hK.out _ _ ⟨_, HM.out.set10 _, HN.out, HTT.out⟩ ?_
          clear hK K hco hfo HM HN HTT
          intro hHeld
          refine wpAnyH_take (i := 12) (v := ?_) rfl (by kernel_rfl) (by kernel_rfl) (by kernel_rfl) (fun _ _ _ h => h) (Or.inl ⟨by rfl, ?_⟩) (by assumption) ?_
          rotate_left
          · intro wq hSw
            obtain ⟨mq, hmq, _, _⟩ := hSw
            have a10 := hmq.cp 10 _ rfl; have a11 := hmq.cp 11 _ rfl; have b10 := hmq.cq 10 _ rfl; have b11 := hmq.cq 11 _ rfl
            clear hmq
            go_simp
            try with_reducible rfl
          simp only [Act.put, List.setIfInBounds_toArray, List.set_cons_zero, List.set_cons_succ, List.getElem_toArray, List.getElem_cons_zero, List.getElem_cons_succ]
          refine wpAnyH_ready (rs := [13]) (by kernel_rfl) (by simp) ?_
          refine AllReadyH.cons rfl (fun K hK => ?_) AllReadyH.nil
          obtain ⟨mq, hmq, hn, ht⟩ := hHeld
          have hco := hmq.co 11 _ rfl
          have hfo := hmq.fo 11 (by decide)
          have HM := Lib.hid hmq
          have HN := Lib.hid hn
          have HTT := Lib.hid ht
          clear hmq hn ht
          go_simp
          refine hK.out _ _ ⟨_, HM.out.set11 _, HN.out, HTT.out⟩ ?_
          clear hK K hco hfo HM HN HTT
          intro hHeld
          have HZ0 := Lib.hid hHeld
          clear hHeld
          refine wpAnyH_done (by kernel_rfl) (normal_gen (M := MX p q A B c d w.heap.size w) HZ0.out (fun wz hHeld => ?_)) _
          clear HZ0
          have HZ := Lib.hid hHeld
          clear hHeld
          go_wp2
          all_goals (go_meet; exact HZ.out)
        case rest =>
          have hHeld := hcut
          clear hcut
          go_upto_region 6 with fail
          go_cut [78] (fun v wx => MT p q A B c d w.heap.size w 0 wx)
          case first =>
            have HZ := Lib.hid hHeld
            obtain ⟨m, hm, _, _⟩ := hHeld
            have o12 := hm.co 12 _ rfl
            have q12 := hm.fo 12 (by decide)
            clear hm
            go_wp2
            go_meet
            exact HZ.out.start
          case rest =>
            have hT := hcut
            clear hcut
            have a12 := (show _ from (by obtain ⟨m, A', c', h1, _⟩ := hT; exact h1.cp 12 _ rfl) : (_ : World).cell? ⟨w.heap.size, 12, none⟩ = some (.slice A p.types.length c))
            have HT := Lib.hid hT
            clear hT
            go_wp2_with fail
            clear a12
            go_loopw [82] (fun i wr => ∃ k : Nat, k ≤ p.types.length ∧ i = .int .i64 k ∧ MT p q A B c d w.heap.size w k wr) (fun i _ => p.types.length - (intOf i).toNat)
            case atStart => exact ⟨0, Nat.zero_le _, rfl, HT.out⟩
            case round =>
              obtain ⟨k, hk, rfl, hT⟩ := hrel
              clear HT
              by_cases hlt : k < p.types.length
              · have hrp := hr.rd.below hT.bl
                have hrq := (hq.rd.below hT.bl).more hT.bl.size
                obtain ⟨b, off, s, rfl, hbb, hp, hc⟩ := RdS_at hrp hlt
                have hss := hr.ts s (List.mem_of_getElem? hp)
                obtain ⟨m, A', c', h1, h2, h3, h4, h5⟩ := hT
                have b12 := h1.cq 12 _ rfl
                have HM := Lib.hid h1
                have HN := Lib.hid h2
                have HO := Lib.hid h3
                have H4 := Lib.hid h4
                clear h1 h2 h3 h4 hp hrp
                go_wp2_with fail
                refine (strCont_any q.types s B d _ hrq hq.len).mono ?_
                rintro e w1 ⟨rfl, rfl⟩
                generalize hasS q.types s = hs
                cases hs
                · go_wp2
                  go_roundw
                  case rel => exact ⟨k + 1, by omega, by go_num, m, A', c', HM.out, HN.out, HO.out, H4.out, by omega⟩
                  case measure => simp [intOf]; omega
                · have o12 := HM.out.co 12 _ rfl
                  have hb1 : Below wr.heap.size wr (wr.alloc (.cells #[.string s] 9)) := (Below.refl _ _).alloc (Nat.le_refl _) _
                  have HB1 := Lib.hid hb1
                  have HOA := Lib.hid (HO.out.below hb1)
                  have HRD := Lib.hid (RdL.one (sz := 1) (enc := strCells) wr s #[.string s] 9 rfl _ rfl)
                  have HBY := Lib.hid (show (m.types.length + [s].length) * 16 ≤ 140737488355328 by simp; omega)
                  have HSZ := Lib.hid (show w.heap.size + 4 ≤ (wr.alloc (.cells #[.string s] 9)).heap.size by have := HM.out.sz; simp; omega)
                  clear hc b12 hb1
                  go_wp2_with (at_builtin; refine wp_append_l rfl (.tmp 91) (.tmp 93) rfl slS strLay (w.heap.size + 4) (xs := m.types) (ys := [s]) (B := wr.heap.size + 1) rfl rfl HOA.out rfl rfl HRD.out HBY.out HSZ.out ?_; intro A2 c2 w2 hown2 hg2 hbl2 hat; have hm2 := (HM.out.later HB1.out).below hbl2; have n12 := hm2.co 12 _ rfl; have q12 := hm2.fo 12 (by decide); have HM2 := Lib.hid hm2; have HO2 := Lib.hid hown2; clear o12 hm2 hown2 hg2 hbl2 hat HOA HRD HBY HSZ)
                  go_roundw
                  case rel => exact ⟨k + 1, by omega, by go_num, MT.push HM2.out HN.out HO2.out H4.out h5 hss (by simp)⟩
                  case measure => simp [intOf]; omega
              · have HT := Lib.hid (hT.mono (k' := 24) (by omega))
                clear hT
                go_upto_region 13 with fail
                go_cut [110] (fun v wx => (∃ b, v = .bool b) ∧ MT p q A B c d w.heap.size w 24 wx)
                case first =>
                  obtain ⟨m, A', c', hm, _⟩ := HT.out
                  have o10 := hm.co 10 _ rfl
                  have o11 := hm.co 11 _ rfl
                  have o12 := hm.co 12 _ rfl
                  clear hm
                  go_wp2
                  all_goals go_meet
                  all_goals exact ⟨⟨_, rfl⟩, HT.out⟩
                case rest =>
                  obtain ⟨⟨b, rfl⟩, hT⟩ := hcut
                  have HT := Lib.hid hT
                  clear hT
                  go_upto_if 110 with fail
                  go_cut [113] (fun v wx => MT p q A B c d w.heap.size w 24 wx)
                  case first =>
                    cases b
                    · go_wp2
                      go_meet
                      exact HT.out
                    · obtain ⟨m, A', c', hm, _⟩ := HT.out
                      have o10 := hm.co 10 _ rfl
                      have o11 := hm.co 11 _ rfl
                      have o12 := hm.co 12 _ rfl
                      have q10 := hm.fo 10 (by decide)
                      have q11 := hm.fo 11 (by decide)
                      have q12 := hm.fo 12 (by decide)
                      clear hm
                      go_wp2
                      go_meet
                      exact ((HT.out.set10 _).set11 _).clear
                  case rest =>
                    have HT := Lib.hid hcut
                    clear hcut
                    go_upto_block 2 with fail
                    go_cut [124] (fun v wx => MT p q A B c d w.heap.size w 24 wx)
                    case first =>
                      obtain ⟨m, A', c', hm, _⟩ := HT.out
                      have o1 := hm.co 1 _ rfl
                      have o2 := hm.co 2 _ rfl
                      have q2 := hm.fo 2 (by decide)
                      have a2 := hm.cp 2 _ rfl
                      have b2 := hm.cq 2 _ rfl
                      clear hm
                      go_wp2
                      all_goals go_meet
                      all_goals exact HT.out.set2 _
                    case rest =>
                      obtain ⟨m, A', c', hm, hn, ho, hs, hk⟩ := hcut
                      have HM := Lib.hid hm
                      have HO := Lib.hid ho
                      clear hm ho
                      go_wp2_with (first | ((with_reducible show wpList _ _ _ (Oper.mk _ (Op.load 24 _) _ _ _ _ :: _) _ _); refine wpList_load_g rfl 24 (.tmp 5) rfl (w.heap.size + 1 + 1 + 1) 0 rfl (m.cs A' c').toList _ HM.out.ro Try.underlying24 rfl (by kernel_rfl) ?_) | ((with_reducible show wpList _ _ _ (Oper.mk _ (Op.store 24 _ _) _ _ _ _ :: _) _ _); refine wpList_store_box rfl 24 _ _ rfl _ _ rfl rfl HM.out.tr (by kernel_rfl) (by kernel_rfl) ?_; intro w2 hrg hth hg))
                      have hO2 := HO.out.kept hg (own_far HO.out (by omega))
                      refine ret_box 4 24 rfl (w.heap.size + 1 + 1) _ _ rfl hrg Try.underlying24 rfl (by kernel_rfl) rfl ⟨HM.out.bl.grown hg (by have := HM.out.sz; omega) (fun k hk => by cases hk; omega), m, A', c', rfl, ⟨hO2.rd strLay, by rw [hn]; exact hr.nm, by omega, hs⟩, hO2.len_cap, hk⟩
end Go.Proofs.Ytebpnlbpdhgacaa
